import Derived.Test.YtlambeiafdpkgaaGreatJBB
import Derived.Test.YtlambeiafdpkgaaGreatJAV
import Derived.Test.YtlambeiafdpkgaaGreatJAP
import Derived.Test.YtlambeiafdpkgaaGreatJAA
set_option linter.all false
namespace Go.Proofs.YtlambeiafdpkgaaGreat
open Go Go.RowKit Go.Proofs
set_option maxRecDepth 100000
set_option maxHeartbeats 8000000
def bkC (T : Nat → Nat → Int) (B : Nat → Nat → Bool) (i j : Nat) : Value := if j = 7 ∨ j = 8 then .bool (B i j) else .int .i64 (T i j)
theorem owns_put {w : World} {base g c i : Nat} {e : TypeId} {size : Nat} {n : Nat} {xs : List Value} (h : w.ownsRow base e size (.slice (some ⟨g, 0, none⟩) n c) n xs) (hi : i < n * size) (u : Value) :
  (w.setCell ⟨g, i, none⟩ u).ownsRow base e size (.slice (some ⟨g, 0, none⟩) n c) n (xs.set i u) := by
 obtain ⟨h1, h2⟩ := h
 refine ⟨by rw [List.length_set]; exact h1, ?_⟩
 rcases h2 with ⟨h2, -⟩ | ⟨g', cap, cur, hv, hb, hh, r1, r2, r3, r4⟩
 ·cases h2
 ·simp only [Value.slice.injEq, Option.some.injEq, Addr.mk.injEq, and_true] at hv
  obtain ⟨rfl, -, rfl⟩ := hv
  refine .inr ⟨g, c, cur.setIfInBounds i u, rfl, hb, (show Blk _ g e _ from (show Blk w g e cur from hh).set_ i u), r1, r2, by simpa using r3, ?_⟩
  rw [Array.toList_setIfInBounds, List.take_set, r4]
def TakAt (wr : World) (gT : Nat) (Tk : Int → Bool) : Prop := wr.ownsRow gT 4 1 (.slice (some ⟨gT, 0, none⟩) 2001 2001) 2001 ((List.range 2001).map fun t : Nat => .bool (Tk (t : Int)))
theorem TakAt.below {wr w2 : World} {gT : Nat} {Tk : Int → Bool} (h : TakAt wr gT Tk) (hb : Below wr.heap.size wr w2) : TakAt w2 gT Tk := ownsRow_below h hb
theorem TakAt.cell {wr : World} {gT : Nat} {Tk : Int → Bool} (h : TakAt wr gT Tk) (t : Nat) (ht : t < 2001) : wr.cell? ⟨gT, t, none⟩ = some (.bool (Tk (t : Int))) := by
 have := h.cellAt (g := gT) t (by omega)
 rw [this, List.getElem?_map, List.getElem?_range ht]
 rfl
theorem TakAt.congr {wr : World} {gT : Nat} {Tk Tk' : Int → Bool} (h : TakAt wr gT Tk) (he : ∀ t : Nat, t < 2001 → Tk (t : Int) = Tk' (t : Int)) : TakAt wr gT Tk' := by
 unfold TakAt at *
 rwa [show ((List.range 2001).map fun t : Nat => Value.bool (Tk' (t : Int))) = ((List.range 2001).map fun t : Nat => Value.bool (Tk (t : Int))) from List.map_congr_left fun t ht => by rw [he t (List.mem_range.1 ht)]]
theorem TakAt.put {wr : World} {gT i : Nat} {Tk : Int → Bool} (h : TakAt wr gT Tk) (hi : i < 2001) : TakAt (wr.setCell ⟨gT, i, none⟩ (.bool true)) gT (fun t => Tk t || decide (t = i)) := by
 unfold TakAt at *
 have h2 := owns_put h (i := i) (by omega) (.bool true)
 rwa [show ((List.range 2001).map fun t : Nat => Value.bool (Tk (t : Int) || decide ((t : Int) = i))) = ((List.range 2001).map fun t : Nat => Value.bool (Tk (t : Int))).set i (.bool true) from ?_]
 apply List.ext_getElem
 ·simp
 ·intro j h1 h3
  simp only [List.getElem_map, List.getElem_range, List.getElem_set]
  by_cases e : i = j
  ·subst e; simp
  ·rw [if_neg e, show decide ((j : Int) = (i : Int)) = false from decide_eq_false (by omega), Bool.or_false]
structure BkK (D : DekD) (M : MetD) (Mo : MovD) (A1 A2 A3 A4 A5 A6 A7 A8 : Option Addr) (k1 k2 k3 k4 k5 k6 k7 k8 : Nat) (w wr : World) : Prop where
 b : Below w.heap.size w wr
 x : Blk wr (w.heap.size + 1 + 1 + 1) 98 #[.int .i64 D.size, .int .i64 D.load, .int .i64 D.wind, .slice A1 D.ns k1, .int .i64 D.pitch, .int .i64 D.roll, .int .i64 D.heave, .int .i64 D.fire, .slice A2 D.nh k2, .slice A3 D.nu k3, .int .i64 M.places, .int .i64 M.any.a0, .int .i64 M.any.a1, .int .i64 M.any.a2, .int .i64 M.any.a3, .int .i64 M.any.a4, .int .i64 M.any.a5, .bool M.any.i, .bool M.any.s, .int .i64 M.mw, .int .i64 M.ms, .int .i64 M.mc, .slice A4 M.n k4, .slice A5 M.m k5, .slice A6 Mo.np k6, .slice A7 Mo.nr k7, .slice A8 Mo.nv k8]
theorem BkK.grow {D : DekD} {M : MetD} {Mo : MovD} {A1 A2 A3 A4 A5 A6 A7 A8 : Option Addr} {k1 k2 k3 k4 k5 k6 k7 k8 : Nat} {w wr w2 : World} (h : BkK D M Mo A1 A2 A3 A4 A5 A6 A7 A8 k1 k2 k3 k4 k5 k6 k7 k8 w wr) (hb : Below wr.heap.size wr w2) : BkK D M Mo A1 A2 A3 A4 A5 A6 A7 A8 k1 k2 k3 k4 k5 k6 k7 k8 w w2 := ⟨bthen h.b hb, h.x.below hb⟩
structure BkM (D : DekD) (M : MetD) (Mo : MovD) (A1 A2 A3 A4 A5 A6 A7 A8 : Option Addr) (k1 k2 k3 k4 k5 k6 k7 k8 : Nat) (gT : Nat) (Tk : Int → Bool) (v : Value) (l : List Int) (w wr : World) : Prop where
 k : BkK D M Mo A1 A2 A3 A4 A5 A6 A7 A8 k1 k2 k3 k4 k5 k6 k7 k8 w wr
 t : TakAt wr gT Tk
 o : wr.ownsRow (gT + 1) 3 1 v l.length (l.map fun x => .int .i64 x)
 g : w.heap.size + 1 + 1 + 1 < gT ∧ gT < wr.heap.size
theorem BkM.grow {D : DekD} {M : MetD} {Mo : MovD} {A1 A2 A3 A4 A5 A6 A7 A8 : Option Addr} {k1 k2 k3 k4 k5 k6 k7 k8 : Nat} {gT : Nat} {Tk : Int → Bool} {v : Value} {l : List Int} {w wr w2 : World} (h : BkM D M Mo A1 A2 A3 A4 A5 A6 A7 A8 k1 k2 k3 k4 k5 k6 k7 k8 gT Tk v l w wr) (hb : Below wr.heap.size wr w2) : BkM D M Mo A1 A2 A3 A4 A5 A6 A7 A8 k1 k2 k3 k4 k5 k6 k7 k8 gT Tk v l w w2 :=
 ⟨h.k.grow hb, h.t.below hb, ownsRow_below h.o hb, h.g.1, Nat.lt_of_lt_of_le h.g.2 hb.size⟩
theorem BkM.put {D : DekD} {M : MetD} {Mo : MovD} {A1 A2 A3 A4 A5 A6 A7 A8 : Option Addr} {k1 k2 k3 k4 k5 k6 k7 k8 : Nat} {gT : Nat} {Tk : Int → Bool} {v : Value} {l : List Int} {w wr : World} (h : BkM D M Mo A1 A2 A3 A4 A5 A6 A7 A8 k1 k2 k3 k4 k5 k6 k7 k8 gT Tk v l w wr) (i : Nat) (hi : i < 2001) : BkM D M Mo A1 A2 A3 A4 A5 A6 A7 A8 k1 k2 k3 k4 k5 k6 k7 k8 gT (fun t => Tk t || decide (t = i)) v l w (wr.setCell ⟨gT, i, none⟩ (.bool true)) :=
 ⟨⟨bset h.k.b (by have := h.g.1; omega) _, h.k.x.far' (by have := h.g.1; omega) _⟩, h.t.put hi, ownsRow_setCell_below h.o (a := ⟨gT, i, none⟩) (Nat.lt_succ_self _) _, h.g.1, by simpa using h.g.2⟩
theorem BkM.congr {D : DekD} {M : MetD} {Mo : MovD} {A1 A2 A3 A4 A5 A6 A7 A8 : Option Addr} {k1 k2 k3 k4 k5 k6 k7 k8 : Nat} {gT : Nat} {Tk Tk' : Int → Bool} {v : Value} {l : List Int} {w wr : World} (h : BkM D M Mo A1 A2 A3 A4 A5 A6 A7 A8 k1 k2 k3 k4 k5 k6 k7 k8 gT Tk v l w wr) (he : ∀ t : Nat, t < 2001 → Tk (t : Int) = Tk' (t : Int)) : BkM D M Mo A1 A2 A3 A4 A5 A6 A7 A8 k1 k2 k3 k4 k5 k6 k7 k8 gT Tk' v l w wr :=
 ⟨h.k, h.t.congr he, h.o, h.g⟩
theorem owns_under {w w2 : World} {base g B : Nat} {e : TypeId} {size n c : Nat} {xs : List Value} (h : w.ownsRow base e size (.slice (some ⟨g, 0, none⟩) n c) n xs) (hb : Below B w w2) (hg : g < B) : w2.ownsRow base e size (.slice (some ⟨g, 0, none⟩) n c) n xs := by
 obtain ⟨h1, h2⟩ := h
 refine ⟨h1, ?_⟩
 rcases h2 with h2 | ⟨g', cap, cur, hv, hb', hh, r⟩
 ·exact Or.inl h2
 ·have e : g = g' := by
   simp only [Value.slice.injEq, Option.some.injEq, Addr.mk.injEq] at hv
   exact hv.1.1
  subst e
  exact Or.inr ⟨g, cap, cur, hv, hb', (hb.block g hg).trans hh, r⟩
theorem BkM.take {D : DekD} {M : MetD} {Mo : MovD} {A1 A2 A3 A4 A5 A6 A7 A8 : Option Addr} {k1 k2 k3 k4 k5 k6 k7 k8 : Nat} {gT : Nat} {Tk : Int → Bool} {v v' : Value} {l l' : List Int} {w wr w2 : World} (h : BkM D M Mo A1 A2 A3 A4 A5 A6 A7 A8 k1 k2 k3 k4 k5 k6 k7 k8 gT Tk v l w wr) (h1 : w2.ownsRow (gT + 1) 3 1 v' l'.length (l'.map fun x => .int .i64 x)) (h2 : wr.grownBy w2 v.ownBlock) : BkM D M Mo A1 A2 A3 A4 A5 A6 A7 A8 k1 k2 k3 k4 k5 k6 k7 k8 gT Tk v' l' w w2 :=
 have hb : Below (gT + 1) wr w2 := below_grown h2 h.g.2 (fun b hb => owns_base h.o hb)
 have hg := h.g.1
 ⟨⟨h.k.b.trans (hb.mono (by omega)), h.k.x.under hb (by omega)⟩, owns_under h.t hb (Nat.lt_succ_self _), h1, h.g.1, Nat.lt_of_lt_of_le h.g.2 hb.size⟩
theorem wpl_appI {ops : Array Oper} {rest : List Oper} {o : Oper} {a : Act} {w : World} {Q : Exit → Act → World → Prop} (hgd : o.guard = none) (s x : Operand)
  (ho : o.op = .call { callee := .builtin .append, args := #[s, x], argTypes := #[35, 35] }) (base : Nat) (v : Value) (xs : List Int) (hs : a.eval s = v) (hown : w.ownsRow base 3 1 v xs.length (xs.map fun x => .int .i64 x))
  (g : Nat) (k : Int) (hx : a.eval x = .slice (some ⟨g, 0, none⟩) 1 1) (hc : w.cell? ⟨g, 0, none⟩ = some (.int .i64 k)) (h40 : xs.length ≤ 40) (hbase : base ≤ w.heap.size)
  (h : ∀ v' w', w'.ownsRow base 3 1 v' (xs ++ [k]).length ((xs ++ [k]).map fun x => .int .i64 x) → w.grownBy w' v.ownBlock → wpList Tryz.prog ops Q rest (a.put o.dst v') w') : wpList Tryz.prog ops Q (o :: rest) a w := by
 have hI := Tryz.intI
 cases hi : Tryz.prog.info? 3 with
 | none => rw [hi] at hI; cases hI
 | some i =>
  rw [hi] at hI
  simp only [Option.map_some, Option.some.injEq, Prod.mk.injEq] at hI
  refine wpList_append_own w hgd s x 35 ho base 3 i (.int .i64 0) 1 8 Tryz.intsU hi hI.1 hI.2.1 hI.2.2 rfl (by decide) v xs.length (xs.map fun x => .int .i64 x) hs hown ⟨g, 0, none⟩ 1 1 [.int .i64 k] hx rfl ?_ ?_ (by unfold maxLen; omega) (by omega) hbase ?_
  ·intro j u hj
   match j, hj with
   | 0, hj =>
    have : u = .int .i64 k := by simpa using hj.symm
    subst this
    exact hc
  ·intro u hu
   have : u = .int .i64 k := by simpa using hu
   subst this
   rfl
  ·intro v' w' h1 h2 h3
   exact h v' w' (by simpa using h1) h2
theorem slat_ints {w : World} {base : Nat} {v : Value} {T : TypeId} {n : Nat} {P : Nat → Int} (h : w.ownsRow base T 1 v n ((List.range n).map fun j => .int .i64 (P j))) : SlAt w v n 1 (lV P) := by
 have e : ((List.range n).map fun j => Value.int .i64 (P j)) = (List.range (n * 1)).map fun q => lV P (q / 1) (q % 1) := by
  rw [Nat.mul_one]
  exact List.map_congr_left fun q _ => by simp [lV]
 rw [e] at h
 obtain ⟨A, c, e2, q1, q2, q3⟩ := RecsAt.of_owns (V := lV P) (by omega) h
 exact ⟨A, c, e2, q1, q2, q3⟩
theorem Tryz.boU : Tryz.prog.underlying 127 = some (.slice 4) := by kernel_rfl
theorem Tryz.boI : (Tryz.prog.info? 4).map (fun i => (i.zero, i.size, i.bytes)) = some (some (.bool false), 1, 1) := by kernel_rfl
theorem wpl_mkb {ops : Array Oper} {rest : List Oper} {o : Oper} {a : Act} {w : World} {Q : Exit → Act → World → Prop} (hgd : o.guard = none) (l c : Operand) (ho : o.op = .makeSlice 127 l c) (hl : a.eval l = .int .i64 2001) (hc : a.eval c = .int .i64 2001)
  (h : ∀ w', Below w.heap.size w w' → w.heap.size < w'.heap.size → TakAt w' w.heap.size (fun _ => false) → wpList Tryz.prog ops Q rest (a.put o.dst (.slice (some ⟨w.heap.size, 0, none⟩) 2001 2001)) w') : wpList Tryz.prog ops Q (o :: rest) a w := by
 have hI := Tryz.boI
 cases hi : Tryz.prog.info? 4 with
 | none => rw [hi] at hI; cases hI
 | some i =>
  rw [hi] at hI
  simp only [Option.map_some, Option.some.injEq, Prod.mk.injEq] at hI
  obtain ⟨i1, i2, i3⟩ := hI
  refine wpList_make_full w hgd l c 127 ho w.heap.size 4 i (.bool false) 1 Tryz.boU hi i1 i2 .i64 .i64 2001 2001 2001 hl hc rfl rfl (by rw [i3]; omega) (by decide) (Nat.le_refl _) (fun w' h1 h2 => ?_)
  have e : (madeCells (Value.cells (.bool false)) (2001 * 1)).toList = (List.range 2001).map fun t : Nat => Value.bool ((fun _ : Int => false) (t : Int)) := by
   unfold madeCells
   rw [Array.toList_map, Array.toList_range]
   refine List.map_congr_left fun t _ => ?_
   show (#[Value.bool false])[t % 1]! = Value.bool false
   rw [Nat.mod_one]
   rfl
  rw [e] at h1
  exact h w' (below_of_none h2) (owns_lt h1 rfl) h1
theorem dnF4 {w W : World} {c1 c2 c3 c4 : Array Value} {T1 T2 T3 T4 : TypeId} (h : (((w.alloc (.cells c1 T1)).alloc (.cells c2 T2)).alloc (.cells c3 T3)).alloc (.cells c4 T4) = W) : Blk W w.heap.size T1 c1 ∧ Blk W (w.heap.size + 1) T2 c2 ∧ Blk W (w.heap.size + 1 + 1) T3 c3 ∧ Blk W (w.heap.size + 1 + 1 + 1) T4 c4 ∧ Below w.heap.size w W ∧ w.heap.size + 1 + 1 + 1 < W.heap.size := by
 subst h
 exact frm4 w c1 T1 c2 T2 c3 T3 c4 T4
theorem tk_zero (b : Bool) (v t : Int) : b = (b || (decide (0 ≤ v) && (decide (v ≤ t) && decide (t < v + ((0 : Nat) : Int))))) := by
 have h : (decide (v ≤ t) && decide (t < v + ((0 : Nat) : Int))) = false := by
  by_cases h : v ≤ t
  ·rw [show decide (t < v + ((0 : Nat) : Int)) = false from decide_eq_false (by omega), Bool.and_false]
  ·rw [decide_eq_false h, Bool.false_and]
 rw [h, Bool.and_false, Bool.or_false]
theorem tk_succ {b : Bool} {v t : Int} {vn j : Nat} (hv : v = vn) : ((b || (decide (0 ≤ v) && (decide (v ≤ t) && decide (t < v + (j : Int))))) || decide (t = ((vn + j : Nat) : Int))) = (b || (decide (0 ≤ v) && (decide (v ≤ t) && decide (t < v + ((j + 1 : Nat) : Int))))) := by
 have h : ∀ x : Bool, ∀ p q r s : Prop, ∀ [Decidable p] [Decidable q] [Decidable r] [Decidable s], (((p ∧ q) ∨ r) ↔ (p ∧ s)) → ((x || (decide p && decide q)) || decide r) = (x || (decide p && decide s)) := by
  intro x p q r s _ _ _ _ h
  cases x
  ·rw [Bool.false_or, Bool.false_or, Bool.eq_iff_iff]
   simpa using h
  ·rfl
 rw [show decide (0 ≤ v) = true from decide_eq_true (by omega), Bool.true_and, Bool.true_and]
 exact h b _ _ _ _ (by omega)
theorem tk_neg {b : Bool} {v t : Int} {j : Nat} (hv : ¬ 0 ≤ v) : (b || (decide (0 ≤ v) && (decide (v ≤ t) && decide (t < v + (j : Int))))) = (b || (decide (0 ≤ v) && (decide (v ≤ t) && decide (t < v + ((j + 1 : Nat) : Int))))) := by
 rw [decide_eq_false hv, Bool.false_and, Bool.false_and]
theorem bookE_bad {D : DekD} {M : MetD} {Mo : MovD} {T : Nat → Nat → Int} {B : Nat → Nat → Bool} {n k : Nat} (h1 : scE D M Mo = 0) (h2 : ¬ 20 < n) (hk : k < n) (hg : bkGood M T B k = false) : bookE D M Mo T B n = 62 := by
 unfold bookE
 rw [if_pos h1, if_neg h2, if_neg]
 intro h
 have := List.all_eq_true.1 h k (List.mem_range.2 hk)
 rw [hg] at this
 cases this
theorem bookE_good {D : DekD} {M : MetD} {Mo : MovD} {T : Nat → Nat → Int} {B : Nat → Nat → Bool} {n : Nat} (h1 : scE D M Mo = 0) (h2 : ¬ 20 < n) (h : ∀ j, j < n → bkGood M T B j = true) : bookE D M Mo T B n = 0 := by
 unfold bookE
 rw [if_pos h1, if_neg h2, if_pos (List.all_eq_true.2 fun k hk => h k (List.mem_range.1 hk))]
theorem dBook_c (D : DekD) (vA vB vC : Value) (M : MetD) (vF vS : Value) (Mo : MovD) (vP vR vV : Value) (A : Option Addr) (n c : Nat) (T : Nat → Nat → Int) (B : Nat → Nat → Bool) (w : World) (hD : DekAt w vA vB vC D) (hA : MetAt w vF vS M) (hV : MovAt w vP vR vV Mo)
  (hc1 : n ≤ c) (hc2 : c ≤ 9223372036854775807) (hL : RecsAt w A n 12 (bkC T B)) :
  Calls Tryz.prog 21 #[.agg #[.int .i64 D.size, .int .i64 D.load, .int .i64 D.wind, vA, .int .i64 D.pitch, .int .i64 D.roll, .int .i64 D.heave, .int .i64 D.fire, vB, vC], .agg #[.int .i64 M.places, .int .i64 M.any.a0, .int .i64 M.any.a1, .int .i64 M.any.a2, .int .i64 M.any.a3, .int .i64 M.any.a4, .int .i64 M.any.a5, .bool M.any.i, .bool M.any.s, .int .i64 M.mw, .int .i64 M.ms, .int .i64 M.mc, vF, vS], .agg #[vP, vR, vV], .slice A n c] w fun e w' => ∃ v, e = .returned (.tuple #[v, .int .i64 (bookE D M Mo T B n)]) ∧ Below w.heap.size w w' ∧ (bookE D M Mo T B n = 0 → SlAt w' v n 1 (lV (bkO D M Mo T B))) := by
 have HD := hI9 hD
 have HA := hI9 hA
 have HV := hI9 hV
 have HL := hI9 hL
 obtain ⟨A1, k1, rfl, -, -, -⟩ := hD.s.e
 obtain ⟨A2, k2, rfl, -, -, -⟩ := hD.h.e
 obtain ⟨A3, k3, rfl, -, -, -⟩ := hD.u.e
 obtain ⟨⟨A4, k4, rfl, -, -, -⟩, ⟨A5, k5, rfl, -, -, -⟩⟩ := hA
 obtain ⟨A6, k6, rfl, -, -, -⟩ := hV.p.e
 obtain ⟨A7, k7, rfl, -, -, -⟩ := hV.r.e
 obtain ⟨A8, k8, rfl, -, -, -⟩ := hV.v.e
 have hck := fun w1 h1 h2 h3 => dscheck_c D (.slice A1 D.ns k1) (.slice A2 D.nh k2) (.slice A3 D.nu k3) M (.slice A4 M.n k4) (.slice A5 M.m k5) Mo (.slice A6 Mo.np k6) (.slice A7 Mo.nr k7) (.slice A8 Mo.nv k8) w1 h1 h2 h3
 clear hD hV hL
 by_cases hs : scE D M Mo = 0
 case neg =>
  have hbe : bookE D M Mo T B n = scE D M Mo := by unfold bookE; rw [if_neg hs]
  rw [hbe]
  have hez : (scE D M Mo != 0) = true := by simpa using hs
  have HN := hI9 hs
  clear hs hbe
  generalize scE D M Mo = E at *
  have HCK := hI9 hck
  clear hck
  have tok : True := trivial
  go_enter Tryz.func21, Tryz.ntmps21
  go_wp2_with (first | (refine wpl_row rfl 26 (.tmp 4) rfl _ rfl _ 10 (by repeat (first | (refine Blk.newAt _ _ _ ?_; first | rfl | (simp; done)) | refine Blk.alloc ?_ _)) Tryz.rowDek rfl ?_; simp only [Act.put]) | (refine wpl_row rfl 34 (.tmp 5) rfl _ rfl _ 14 (by repeat (first | (refine Blk.newAt _ _ _ ?_; first | rfl | (simp; done)) | refine Blk.alloc ?_ _)) Tryz.rowMet rfl ?_; simp only [Act.put]) | (refine wpl_row rfl 37 (.tmp 6) rfl _ rfl _ 3 (by repeat (first | (refine Blk.newAt _ _ _ ?_; first | rfl | (simp; done)) | refine Blk.alloc ?_ _)) Tryz.rowMov rfl ?_; simp only [Act.put]) | (refine wpl_buildw rfl 98 _ rfl #[.int .i64 D.size, .int .i64 D.load, .int .i64 D.wind, .slice A1 D.ns k1, .int .i64 D.pitch, .int .i64 D.roll, .int .i64 D.heave, .int .i64 D.fire, .slice A2 D.nh k2, .slice A3 D.nu k3, .int .i64 M.places, .int .i64 M.any.a0, .int .i64 M.any.a1, .int .i64 M.any.a2, .int .i64 M.any.a3, .int .i64 M.any.a4, .int .i64 M.any.a5, .bool M.any.i, .bool M.any.s, .int .i64 M.mw, .int .i64 M.ms, .int .i64 M.mc, .slice A4 M.n k4, .slice A5 M.m k5, .slice A6 Mo.np k6, .slice A7 Mo.nr k7, .slice A8 Mo.nv k8] (by kernel_rfl) ?_; simp only [Act.put]) | (have _t := tok; refine wpl_store_newW rfl 98 (.tmp 10) (.tmp 24) rfl _ _ _ rfl ?_ rfl Tryz.sizeScn rfl (oneScn D M Mo _ _ _ _ _ _ _ _ _ _ _ _ _ _ _ _) ?_; (focus (simp; done)); simp only [Act.put]; clear tok) | (refine wpl_row rfl 98 (.tmp 10) rfl _ rfl _ 27 (by repeat (first | (refine Blk.newAt _ _ _ ?_; first | rfl | (simp; done)) | refine Blk.alloc ?_ _)) Tryz.rowScn rfl ?_; simp only [Act.put]))
  generalize hWX : World.alloc (World.alloc (World.alloc (World.alloc w _) _) _) _ = W
  have _x := dnF4 hWX
  have HX := hI9 _x.2.2.2.1
  have HB := hI9 _x.2.2.2.2.1
  have zW := _x.2.2.2.2.2
  clear _x hWX
  refine (HCK.out _ (HD.out.below HB.out) (HA.out.below HB.out) (HV.out.below HB.out)).mono ?_
  rintro e w1 ⟨rfl, hb1⟩
  have nHX := hI9 (HX.out.below hb1)
  have nHB := hI9 (bthen HB.out hb1)
  clear HX HB hb1
  have HX := nHX
  have HB := nHB
  clear nHX nHB
  go_wp2_with (fail)
  go_ret2
  exact ⟨_, rfl, HB.out, fun h => absurd h HN.out⟩
 rw [hs] at hck
 have HCK := hI9 hck
 have HS := hI9 hs
 clear hck hs
 by_cases hn : 20 < n
 ·have hbe : bookE D M Mo T B n = 2 := by unfold bookE; rw [if_pos HS.out, if_pos hn]
  rw [hbe]
  clear hbe
  have tok : True := trivial
  go_enter Tryz.func21, Tryz.ntmps21
  go_wp2_with (first | (refine wpl_row rfl 26 (.tmp 4) rfl _ rfl _ 10 (by repeat (first | (refine Blk.newAt _ _ _ ?_; first | rfl | (simp; done)) | refine Blk.alloc ?_ _)) Tryz.rowDek rfl ?_; simp only [Act.put]) | (refine wpl_row rfl 34 (.tmp 5) rfl _ rfl _ 14 (by repeat (first | (refine Blk.newAt _ _ _ ?_; first | rfl | (simp; done)) | refine Blk.alloc ?_ _)) Tryz.rowMet rfl ?_; simp only [Act.put]) | (refine wpl_row rfl 37 (.tmp 6) rfl _ rfl _ 3 (by repeat (first | (refine Blk.newAt _ _ _ ?_; first | rfl | (simp; done)) | refine Blk.alloc ?_ _)) Tryz.rowMov rfl ?_; simp only [Act.put]) | (refine wpl_buildw rfl 98 _ rfl #[.int .i64 D.size, .int .i64 D.load, .int .i64 D.wind, .slice A1 D.ns k1, .int .i64 D.pitch, .int .i64 D.roll, .int .i64 D.heave, .int .i64 D.fire, .slice A2 D.nh k2, .slice A3 D.nu k3, .int .i64 M.places, .int .i64 M.any.a0, .int .i64 M.any.a1, .int .i64 M.any.a2, .int .i64 M.any.a3, .int .i64 M.any.a4, .int .i64 M.any.a5, .bool M.any.i, .bool M.any.s, .int .i64 M.mw, .int .i64 M.ms, .int .i64 M.mc, .slice A4 M.n k4, .slice A5 M.m k5, .slice A6 Mo.np k6, .slice A7 Mo.nr k7, .slice A8 Mo.nv k8] (by kernel_rfl) ?_; simp only [Act.put]) | (have _t := tok; refine wpl_store_newW rfl 98 (.tmp 10) (.tmp 24) rfl _ _ _ rfl ?_ rfl Tryz.sizeScn rfl (oneScn D M Mo _ _ _ _ _ _ _ _ _ _ _ _ _ _ _ _) ?_; (focus (simp; done)); simp only [Act.put]; clear tok) | (refine wpl_row rfl 98 (.tmp 10) rfl _ rfl _ 27 (by repeat (first | (refine Blk.newAt _ _ _ ?_; first | rfl | (simp; done)) | refine Blk.alloc ?_ _)) Tryz.rowScn rfl ?_; simp only [Act.put]))
  generalize hWX : World.alloc (World.alloc (World.alloc (World.alloc w _) _) _) _ = W
  have _x := dnF4 hWX
  have HX := hI9 _x.2.2.2.1
  have HB := hI9 _x.2.2.2.2.1
  have zW := _x.2.2.2.2.2
  clear _x hWX
  refine (HCK.out _ (HD.out.below HB.out) (HA.out.below HB.out) (HV.out.below HB.out)).mono ?_
  rintro e w1 ⟨rfl, hb1⟩
  have nHX := hI9 (HX.out.below hb1)
  have nHB := hI9 (bthen HB.out hb1)
  clear HX HB hb1
  have HX := nHX
  have HB := nHB
  clear nHX nHB
  go_wp2_with (fail)
  go_ret2
  exact ⟨_, rfl, HB.out, fun h => absurd h (by decide)⟩
 have tok : True := trivial
 go_enter Tryz.func21, Tryz.ntmps21
 go_wp2_with (first | (refine wpl_row rfl 26 (.tmp 4) rfl _ rfl _ 10 (by repeat (first | (refine Blk.newAt _ _ _ ?_; first | rfl | (simp; done)) | refine Blk.alloc ?_ _)) Tryz.rowDek rfl ?_; simp only [Act.put]) | (refine wpl_row rfl 34 (.tmp 5) rfl _ rfl _ 14 (by repeat (first | (refine Blk.newAt _ _ _ ?_; first | rfl | (simp; done)) | refine Blk.alloc ?_ _)) Tryz.rowMet rfl ?_; simp only [Act.put]) | (refine wpl_row rfl 37 (.tmp 6) rfl _ rfl _ 3 (by repeat (first | (refine Blk.newAt _ _ _ ?_; first | rfl | (simp; done)) | refine Blk.alloc ?_ _)) Tryz.rowMov rfl ?_; simp only [Act.put]) | (refine wpl_buildw rfl 98 _ rfl #[.int .i64 D.size, .int .i64 D.load, .int .i64 D.wind, .slice A1 D.ns k1, .int .i64 D.pitch, .int .i64 D.roll, .int .i64 D.heave, .int .i64 D.fire, .slice A2 D.nh k2, .slice A3 D.nu k3, .int .i64 M.places, .int .i64 M.any.a0, .int .i64 M.any.a1, .int .i64 M.any.a2, .int .i64 M.any.a3, .int .i64 M.any.a4, .int .i64 M.any.a5, .bool M.any.i, .bool M.any.s, .int .i64 M.mw, .int .i64 M.ms, .int .i64 M.mc, .slice A4 M.n k4, .slice A5 M.m k5, .slice A6 Mo.np k6, .slice A7 Mo.nr k7, .slice A8 Mo.nv k8] (by kernel_rfl) ?_; simp only [Act.put]) | (have _t := tok; refine wpl_store_newW rfl 98 (.tmp 10) (.tmp 24) rfl _ _ _ rfl ?_ rfl Tryz.sizeScn rfl (oneScn D M Mo _ _ _ _ _ _ _ _ _ _ _ _ _ _ _ _) ?_; (focus (simp; done)); simp only [Act.put]; clear tok) | (refine wpl_row rfl 98 (.tmp 10) rfl _ rfl _ 27 (by repeat (first | (refine Blk.newAt _ _ _ ?_; first | rfl | (simp; done)) | refine Blk.alloc ?_ _)) Tryz.rowScn rfl ?_; simp only [Act.put]))
 generalize hWX : World.alloc (World.alloc (World.alloc (World.alloc w _) _) _) _ = W
 have _x := dnF4 hWX
 have HX := hI9 _x.2.2.2.1
 have HB := hI9 _x.2.2.2.2.1
 have zW := _x.2.2.2.2.2
 clear _x hWX
 refine (HCK.out _ (HD.out.below HB.out) (HA.out.below HB.out) (HV.out.below HB.out)).mono ?_
 rintro e w1 ⟨rfl, hb1⟩
 have nHX := hI9 (HX.out.below hb1)
 have nHB := hI9 (bthen HB.out hb1)
 clear HX HB hb1
 have HX := nHX
 have HB := nHB
 clear nHX nHB
 go_wp2_with (fail)
 have K0 := hI9 (show BkK D M Mo A1 A2 A3 A4 A5 A6 A7 A8 k1 k2 k3 k4 k5 k6 k7 k8 w _ from ⟨HB.out, HX.out⟩)
 clear HB HX
 go_loopg [8, 35] n (fun gx v i wr => ∃ k : Nat, v = .slice none 0 0 ∧ i = .int .i64 k ∧ k ≤ n ∧ n - k ≤ gx ∧ Hid (BkK D M Mo A1 A2 A3 A4 A5 A6 A7 A8 k1 k2 k3 k4 k5 k6 k7 k8 w wr) ∧ Hid (∀ j, j < k → bkGood M T B j = true))
 case atStart => exact ⟨0, rfl, rfl, Nat.zero_le _, Nat.le_refl _, K0, hI9 (fun j h => absurd h (Nat.not_lt_zero _))⟩
 case round =>
  clear K0
  obtain ⟨k, rfl, rfl, hk, hgx, K0, HG⟩ := hrel
  by_cases hlt : k < n
  ·have hltz : (k : Int) < (n : Int) := by omega
   obtain ⟨bs, os, rfl, hbs, hcs⟩ := HL.out (by omega)
   have c0 : wr.cell? ⟨bs, os + k * 12, none⟩ = some (.int .i64 (T k 0)) := (K0.out.b.cell (p := ⟨bs, os + k * 12 + 0, none⟩) hbs).trans (hcs k hlt 0 (by omega))
   have c1 : wr.cell? ⟨bs, os + k * 12 + 1, none⟩ = some (.int .i64 (T k 1)) := (K0.out.b.cell (p := ⟨bs, os + k * 12 + 1, none⟩) hbs).trans (hcs k hlt 1 (by omega))
   have c2 : wr.cell? ⟨bs, os + k * 12 + 2, none⟩ = some (.int .i64 (T k 2)) := (K0.out.b.cell (p := ⟨bs, os + k * 12 + 2, none⟩) hbs).trans (hcs k hlt 2 (by omega))
   have c3 : wr.cell? ⟨bs, os + k * 12 + 3, none⟩ = some (.int .i64 (T k 3)) := (K0.out.b.cell (p := ⟨bs, os + k * 12 + 3, none⟩) hbs).trans (hcs k hlt 3 (by omega))
   have c4 : wr.cell? ⟨bs, os + k * 12 + 4, none⟩ = some (.int .i64 (T k 4)) := (K0.out.b.cell (p := ⟨bs, os + k * 12 + 4, none⟩) hbs).trans (hcs k hlt 4 (by omega))
   have c5 : wr.cell? ⟨bs, os + k * 12 + 5, none⟩ = some (.int .i64 (T k 5)) := (K0.out.b.cell (p := ⟨bs, os + k * 12 + 5, none⟩) hbs).trans (hcs k hlt 5 (by omega))
   have c6 : wr.cell? ⟨bs, os + k * 12 + 6, none⟩ = some (.int .i64 (T k 6)) := (K0.out.b.cell (p := ⟨bs, os + k * 12 + 6, none⟩) hbs).trans (hcs k hlt 6 (by omega))
   have c7 : wr.cell? ⟨bs, os + k * 12 + 7, none⟩ = some (.bool (B k 7)) := (K0.out.b.cell (p := ⟨bs, os + k * 12 + 7, none⟩) hbs).trans (hcs k hlt 7 (by omega))
   have c8 : wr.cell? ⟨bs, os + k * 12 + 8, none⟩ = some (.bool (B k 8)) := (K0.out.b.cell (p := ⟨bs, os + k * 12 + 8, none⟩) hbs).trans (hcs k hlt 8 (by omega))
   have c9 : wr.cell? ⟨bs, os + k * 12 + 9, none⟩ = some (.int .i64 (T k 9)) := (K0.out.b.cell (p := ⟨bs, os + k * 12 + 9, none⟩) hbs).trans (hcs k hlt 9 (by omega))
   have c10 : wr.cell? ⟨bs, os + k * 12 + 10, none⟩ = some (.int .i64 (T k 10)) := (K0.out.b.cell (p := ⟨bs, os + k * 12 + 10, none⟩) hbs).trans (hcs k hlt 10 (by omega))
   have c11 : wr.cell? ⟨bs, os + k * 12 + 11, none⟩ = some (.int .i64 (T k 11)) := (K0.out.b.cell (p := ⟨bs, os + k * 12 + 11, none⟩) hbs).trans (hcs k hlt 11 (by omega))
   clear hcs
   have hap := fun w1 h => dapproach_c D (.slice A1 D.ns k1) (.slice A2 D.nh k2) (.slice A3 D.nu k3) M (.slice A4 M.n k4) (.slice A5 M.m k5) (.slice A6 Mo.np k6) (.slice A7 Mo.nr k7) (.slice A8 Mo.nv k8) (apK T B k) w1 h
   have tokw : True := trivial
   by_cases q1 : appE M (apK T B k) = 0
   case neg =>
    have HBD := hI9 (bookE_bad HS.out hn hlt (B := B) (T := T) (by unfold bkGood; rw [decide_eq_false q1]; rfl))
    have q1z : (appE M (apK T B k) != 0) = true := by simpa using q1
    clear q1
    generalize appE M (apK T B k) = E at *
    dsimp only [apK] at hap
    have HAP := hI9 hap
    clear hap
    go_wp2_with (first | (have _t := tokw; refine wpl_row rfl 98 (.tmp 10) rfl _ rfl _ 27 (K0.out.x.alloc _) Tryz.rowScn rfl ?_; simp only [Act.put]; clear tokw; have HBo := hI9 (Blk.new wr 85 #[.int .i64 (T k 0), .int .i64 (T k 1), .int .i64 (T k 2), .int .i64 (T k 3), .int .i64 (T k 4), .int .i64 (T k 5), .int .i64 (T k 6), .bool (B k 7), .bool (B k 8), .int .i64 (T k 9), .int .i64 (T k 10), .int .i64 (T k 11)]); have K2 := hI9 (K0.out.grow (bal (Below.refl _ _) (.cells #[.int .i64 (T k 0), .int .i64 (T k 1), .int .i64 (T k 2), .int .i64 (T k 3), .int .i64 (T k 4), .int .i64 (T k 5), .int .i64 (T k 6), .bool (B k 7), .bool (B k 8), .int .i64 (T k 9), .int .i64 (T k 10), .int .i64 (T k 11)] 85))); clear K0 c0 c1 c2 c3 c4 c5 c6 c7 c8 c9 c10 c11; generalize wr.alloc (.cells #[.int .i64 (T k 0), .int .i64 (T k 1), .int .i64 (T k 2), .int .i64 (T k 3), .int .i64 (T k 4), .int .i64 (T k 5), .int .i64 (T k 6), .bool (B k 7), .bool (B k 8), .int .i64 (T k 9), .int .i64 (T k 10), .int .i64 (T k 11)] 85) = w2 at *; generalize wr.heap.size = gB at *) | (refine wpl_mid rfl 43 (.tmp 40) rfl _ 2 rfl 85 _ #[.int .i64 (T k 2), .int .i64 (T k 3), .int .i64 (T k 4), .int .i64 (T k 5), .int .i64 (T k 6), .bool (B k 7), .bool (B k 8), .int .i64 (T k 9), .int .i64 (T k 10), .int .i64 (T k 11)] 10 HBo.out Tryz.rowApp [.int .i64 (T k 0), .int .i64 (T k 1)] [] rfl rfl rfl ?_; simp only [Act.put]) | (go_at_call 46; (with_reducible refine (HAP.out _ (HA.out.below K2.out.b)).mono ?_); rintro e w3 ⟨rfl, hb3⟩; have nK2 := hI9 (K2.out.grow hb3); have nHBo := hI9 (HBo.out.below hb3); clear K2 HBo hb3; have K2 := nK2; have HBo := nHBo; clear nK2 nHBo; have d0 := HBo.out.cell 0; have d1 := HBo.out.cell 1; simp only [gtA, gtS, gtZ] at d0 d1) | (go_at_call 34; (with_reducible refine (dwithin_c _ _ _ _).mono ?_); rintro e w1 ⟨rfl, rfl⟩))
    go_ret2
    exact ⟨.slice none 0 0, by rw [HBD.out]; rfl, K2.out.b, fun h => absurd (HBD.out.symm.trans h) (by decide)⟩
   rw [q1] at hap
   dsimp only [apK] at hap
   have HAP := hI9 hap
   clear hap
   cases q2 : inB (T k 0) 0 2000
   case false =>
    have HBD := hI9 (bookE_bad HS.out hn hlt (B := B) (T := T) (by unfold bkGood; rw [q2, Bool.false_and, Bool.and_false]))
    go_wp2_with (first | (have _t := tokw; refine wpl_row rfl 98 (.tmp 10) rfl _ rfl _ 27 (K0.out.x.alloc _) Tryz.rowScn rfl ?_; simp only [Act.put]; clear tokw; have HBo := hI9 (Blk.new wr 85 #[.int .i64 (T k 0), .int .i64 (T k 1), .int .i64 (T k 2), .int .i64 (T k 3), .int .i64 (T k 4), .int .i64 (T k 5), .int .i64 (T k 6), .bool (B k 7), .bool (B k 8), .int .i64 (T k 9), .int .i64 (T k 10), .int .i64 (T k 11)]); have K2 := hI9 (K0.out.grow (bal (Below.refl _ _) (.cells #[.int .i64 (T k 0), .int .i64 (T k 1), .int .i64 (T k 2), .int .i64 (T k 3), .int .i64 (T k 4), .int .i64 (T k 5), .int .i64 (T k 6), .bool (B k 7), .bool (B k 8), .int .i64 (T k 9), .int .i64 (T k 10), .int .i64 (T k 11)] 85))); clear K0 c0 c1 c2 c3 c4 c5 c6 c7 c8 c9 c10 c11; generalize wr.alloc (.cells #[.int .i64 (T k 0), .int .i64 (T k 1), .int .i64 (T k 2), .int .i64 (T k 3), .int .i64 (T k 4), .int .i64 (T k 5), .int .i64 (T k 6), .bool (B k 7), .bool (B k 8), .int .i64 (T k 9), .int .i64 (T k 10), .int .i64 (T k 11)] 85) = w2 at *; generalize wr.heap.size = gB at *) | (refine wpl_mid rfl 43 (.tmp 40) rfl _ 2 rfl 85 _ #[.int .i64 (T k 2), .int .i64 (T k 3), .int .i64 (T k 4), .int .i64 (T k 5), .int .i64 (T k 6), .bool (B k 7), .bool (B k 8), .int .i64 (T k 9), .int .i64 (T k 10), .int .i64 (T k 11)] 10 HBo.out Tryz.rowApp [.int .i64 (T k 0), .int .i64 (T k 1)] [] rfl rfl rfl ?_; simp only [Act.put]) | (go_at_call 46; (with_reducible refine (HAP.out _ (HA.out.below K2.out.b)).mono ?_); rintro e w3 ⟨rfl, hb3⟩; have nK2 := hI9 (K2.out.grow hb3); have nHBo := hI9 (HBo.out.below hb3); clear K2 HBo hb3; have K2 := nK2; have HBo := nHBo; clear nK2 nHBo; have d0 := HBo.out.cell 0; have d1 := HBo.out.cell 1; simp only [gtA, gtS, gtZ] at d0 d1) | (go_at_call 34; (with_reducible refine (dwithin_c _ _ _ _).mono ?_); rintro e w1 ⟨rfl, rfl⟩))
    go_ret2
    exact ⟨.slice none 0 0, by rw [HBD.out]; rfl, K2.out.b, fun h => absurd (HBD.out.symm.trans h) (by decide)⟩
   cases q3 : inB (T k 1) 1 100
   case false =>
    have HBD := hI9 (bookE_bad HS.out hn hlt (B := B) (T := T) (by unfold bkGood; rw [q3, Bool.and_false, Bool.and_false]))
    go_wp2_with (first | (have _t := tokw; refine wpl_row rfl 98 (.tmp 10) rfl _ rfl _ 27 (K0.out.x.alloc _) Tryz.rowScn rfl ?_; simp only [Act.put]; clear tokw; have HBo := hI9 (Blk.new wr 85 #[.int .i64 (T k 0), .int .i64 (T k 1), .int .i64 (T k 2), .int .i64 (T k 3), .int .i64 (T k 4), .int .i64 (T k 5), .int .i64 (T k 6), .bool (B k 7), .bool (B k 8), .int .i64 (T k 9), .int .i64 (T k 10), .int .i64 (T k 11)]); have K2 := hI9 (K0.out.grow (bal (Below.refl _ _) (.cells #[.int .i64 (T k 0), .int .i64 (T k 1), .int .i64 (T k 2), .int .i64 (T k 3), .int .i64 (T k 4), .int .i64 (T k 5), .int .i64 (T k 6), .bool (B k 7), .bool (B k 8), .int .i64 (T k 9), .int .i64 (T k 10), .int .i64 (T k 11)] 85))); clear K0 c0 c1 c2 c3 c4 c5 c6 c7 c8 c9 c10 c11; generalize wr.alloc (.cells #[.int .i64 (T k 0), .int .i64 (T k 1), .int .i64 (T k 2), .int .i64 (T k 3), .int .i64 (T k 4), .int .i64 (T k 5), .int .i64 (T k 6), .bool (B k 7), .bool (B k 8), .int .i64 (T k 9), .int .i64 (T k 10), .int .i64 (T k 11)] 85) = w2 at *; generalize wr.heap.size = gB at *) | (refine wpl_mid rfl 43 (.tmp 40) rfl _ 2 rfl 85 _ #[.int .i64 (T k 2), .int .i64 (T k 3), .int .i64 (T k 4), .int .i64 (T k 5), .int .i64 (T k 6), .bool (B k 7), .bool (B k 8), .int .i64 (T k 9), .int .i64 (T k 10), .int .i64 (T k 11)] 10 HBo.out Tryz.rowApp [.int .i64 (T k 0), .int .i64 (T k 1)] [] rfl rfl rfl ?_; simp only [Act.put]) | (go_at_call 46; (with_reducible refine (HAP.out _ (HA.out.below K2.out.b)).mono ?_); rintro e w3 ⟨rfl, hb3⟩; have nK2 := hI9 (K2.out.grow hb3); have nHBo := hI9 (HBo.out.below hb3); clear K2 HBo hb3; have K2 := nK2; have HBo := nHBo; clear nK2 nHBo; have d0 := HBo.out.cell 0; have d1 := HBo.out.cell 1; simp only [gtA, gtS, gtZ] at d0 d1) | (go_at_call 34; (with_reducible refine (dwithin_c _ _ _ _).mono ?_); rintro e w1 ⟨rfl, rfl⟩))
    go_ret2
    exact ⟨.slice none 0 0, by rw [HBD.out]; rfl, K2.out.b, fun h => absurd (HBD.out.symm.trans h) (by decide)⟩
   have HGK := hI9 (show bkGood M T B k = true by unfold bkGood; rw [decide_eq_true q1, q2, q3]; rfl)
   clear q1
   go_wp2_with (first | (have _t := tokw; refine wpl_row rfl 98 (.tmp 10) rfl _ rfl _ 27 (K0.out.x.alloc _) Tryz.rowScn rfl ?_; simp only [Act.put]; clear tokw; have HBo := hI9 (Blk.new wr 85 #[.int .i64 (T k 0), .int .i64 (T k 1), .int .i64 (T k 2), .int .i64 (T k 3), .int .i64 (T k 4), .int .i64 (T k 5), .int .i64 (T k 6), .bool (B k 7), .bool (B k 8), .int .i64 (T k 9), .int .i64 (T k 10), .int .i64 (T k 11)]); have K2 := hI9 (K0.out.grow (bal (Below.refl _ _) (.cells #[.int .i64 (T k 0), .int .i64 (T k 1), .int .i64 (T k 2), .int .i64 (T k 3), .int .i64 (T k 4), .int .i64 (T k 5), .int .i64 (T k 6), .bool (B k 7), .bool (B k 8), .int .i64 (T k 9), .int .i64 (T k 10), .int .i64 (T k 11)] 85))); clear K0 c0 c1 c2 c3 c4 c5 c6 c7 c8 c9 c10 c11; generalize wr.alloc (.cells #[.int .i64 (T k 0), .int .i64 (T k 1), .int .i64 (T k 2), .int .i64 (T k 3), .int .i64 (T k 4), .int .i64 (T k 5), .int .i64 (T k 6), .bool (B k 7), .bool (B k 8), .int .i64 (T k 9), .int .i64 (T k 10), .int .i64 (T k 11)] 85) = w2 at *; generalize wr.heap.size = gB at *) | (refine wpl_mid rfl 43 (.tmp 40) rfl _ 2 rfl 85 _ #[.int .i64 (T k 2), .int .i64 (T k 3), .int .i64 (T k 4), .int .i64 (T k 5), .int .i64 (T k 6), .bool (B k 7), .bool (B k 8), .int .i64 (T k 9), .int .i64 (T k 10), .int .i64 (T k 11)] 10 HBo.out Tryz.rowApp [.int .i64 (T k 0), .int .i64 (T k 1)] [] rfl rfl rfl ?_; simp only [Act.put]) | (go_at_call 46; (with_reducible refine (HAP.out _ (HA.out.below K2.out.b)).mono ?_); rintro e w3 ⟨rfl, hb3⟩; have nK2 := hI9 (K2.out.grow hb3); have nHBo := hI9 (HBo.out.below hb3); clear K2 HBo hb3; have K2 := nK2; have HBo := nHBo; clear nK2 nHBo; have d0 := HBo.out.cell 0; have d1 := HBo.out.cell 1; simp only [gtA, gtS, gtZ] at d0 d1) | (go_at_call 34; (with_reducible refine (dwithin_c _ _ _ _).mono ?_); rintro e w1 ⟨rfl, rfl⟩))
   go_roundg (n - (k + 1))
   case measure => omega
   case rel => exact ⟨k + 1, rfl, by first | rfl | go_num | (congr 1; omega), by omega, Nat.le_refl _, K2, hI9 (fun j h => by
    by_cases e : j = k
    ·subst e; exact HGK.out
    ·exact HG.out j (by omega))⟩
  ·obtain rfl : k = n := by omega
   have HOK := hI9 (bookE_good HS.out hn HG.out)
   have tokm : True := trivial
   go_wp2_with (first | (have _t := tokm; refine wpl_mkb rfl _ _ rfl rfl rfl ?_))
   intro w2 hb2 hs2 ht2
   clear tokm
   have hxl := K0.out.x.lt
   have KM0 := hI9 (show BkM D M Mo A1 A2 A3 A4 A5 A6 A7 A8 k1 k2 k3 k4 k5 k6 k7 k8 wr.heap.size (tkB (bkL D M Mo T B 0)) (.slice none 0 0) [] w w2 from ⟨K0.out.grow hb2, ht2, World.ownsRow_nil _ _ _ _, by omega, hs2⟩)
   clear K0 hb2 hs2 ht2 hxl
   generalize wr.heap.size = gT at *
   go_wp2_with (fail)
   go_loopg [8, 60] k (fun gx v i wr => ∃ q : Nat, i = .int .i64 (q : Int) ∧ q ≤ k ∧ k - q ≤ gx ∧ Hid (BkM D M Mo A1 A2 A3 A4 A5 A6 A7 A8 k1 k2 k3 k4 k5 k6 k7 k8 gT (tkB (bkL D M Mo T B q)) v ((List.range q).map (bkO D M Mo T B)) w wr))
   case atStart => exact ⟨0, rfl, Nat.zero_le _, Nat.le_refl _, KM0⟩
   case round =>
    clear KM0
    obtain ⟨q, rfl, hq, hgx2, K3⟩ := hrel
    by_cases hlq : q < k
    ·have hlqz : (q : Int) < (k : Int) := by omega
     obtain ⟨bs, os, rfl, hbs, hcs⟩ := HL.out (by omega)
     have c0 : wr.cell? ⟨bs, os + q * 12, none⟩ = some (.int .i64 (T q 0)) := (K3.out.k.b.cell (p := ⟨bs, os + q * 12 + 0, none⟩) hbs).trans (hcs q hlq 0 (by omega))
     have c1 : wr.cell? ⟨bs, os + q * 12 + 1, none⟩ = some (.int .i64 (T q 1)) := (K3.out.k.b.cell (p := ⟨bs, os + q * 12 + 1, none⟩) hbs).trans (hcs q hlq 1 (by omega))
     have c2 : wr.cell? ⟨bs, os + q * 12 + 2, none⟩ = some (.int .i64 (T q 2)) := (K3.out.k.b.cell (p := ⟨bs, os + q * 12 + 2, none⟩) hbs).trans (hcs q hlq 2 (by omega))
     have c3 : wr.cell? ⟨bs, os + q * 12 + 3, none⟩ = some (.int .i64 (T q 3)) := (K3.out.k.b.cell (p := ⟨bs, os + q * 12 + 3, none⟩) hbs).trans (hcs q hlq 3 (by omega))
     have c4 : wr.cell? ⟨bs, os + q * 12 + 4, none⟩ = some (.int .i64 (T q 4)) := (K3.out.k.b.cell (p := ⟨bs, os + q * 12 + 4, none⟩) hbs).trans (hcs q hlq 4 (by omega))
     have c5 : wr.cell? ⟨bs, os + q * 12 + 5, none⟩ = some (.int .i64 (T q 5)) := (K3.out.k.b.cell (p := ⟨bs, os + q * 12 + 5, none⟩) hbs).trans (hcs q hlq 5 (by omega))
     have c6 : wr.cell? ⟨bs, os + q * 12 + 6, none⟩ = some (.int .i64 (T q 6)) := (K3.out.k.b.cell (p := ⟨bs, os + q * 12 + 6, none⟩) hbs).trans (hcs q hlq 6 (by omega))
     have c7 : wr.cell? ⟨bs, os + q * 12 + 7, none⟩ = some (.bool (B q 7)) := (K3.out.k.b.cell (p := ⟨bs, os + q * 12 + 7, none⟩) hbs).trans (hcs q hlq 7 (by omega))
     have c8 : wr.cell? ⟨bs, os + q * 12 + 8, none⟩ = some (.bool (B q 8)) := (K3.out.k.b.cell (p := ⟨bs, os + q * 12 + 8, none⟩) hbs).trans (hcs q hlq 8 (by omega))
     have c9 : wr.cell? ⟨bs, os + q * 12 + 9, none⟩ = some (.int .i64 (T q 9)) := (K3.out.k.b.cell (p := ⟨bs, os + q * 12 + 9, none⟩) hbs).trans (hcs q hlq 9 (by omega))
     have c10 : wr.cell? ⟨bs, os + q * 12 + 10, none⟩ = some (.int .i64 (T q 10)) := (K3.out.k.b.cell (p := ⟨bs, os + q * 12 + 10, none⟩) hbs).trans (hcs q hlq 10 (by omega))
     have c11 : wr.cell? ⟨bs, os + q * 12 + 11, none⟩ = some (.int .i64 (T q 11)) := (K3.out.k.b.cell (p := ⟨bs, os + q * 12 + 11, none⟩) hbs).trans (hcs q hlq 11 (by omega))
     clear hcs
     obtain ⟨ga, ⟨gb, gc⟩, gd, ge⟩ := (bookE_ok HOK.out).2.2 q hlq
     obtain ⟨hO, hMo, -, ⟨-, -, -, hin⟩, -⟩ := caE_ok (caE_mk (r := true) HS.out ga rfl)
     have hin2 := insB_iff.1 hin
     have hwy := fun (t : Nat) (ht : t ≤ 2000) w1 h1 h2 h3 => dwhy_c D (.slice A1 D.ns k1) (.slice A2 D.nh k2) (.slice A3 D.nu k3) M (.slice A4 M.n k4) (.slice A5 M.m k5) Mo (.slice A6 Mo.np k6) (.slice A7 Mo.nr k7) (.slice A8 Mo.nv k8) (apK T B q) (t : Int) w1 h1 h2 h3 hO hMo (by omega) (by omega) hin2.2.1 hin2.2.2.2
     have hsp := bkV_spec (ok := bkOk D M Mo (bkL D M Mo T B q) (apK T B q)) (stay := T q 1) (at0 := T q 0) gd gc
     have hVd : bkO D M Mo T B q = bkV (bkOk D M Mo (bkL D M Mo T B q) (apK T B q)) (T q 0) (T q 1) := rfl
     rw [← hVd] at hsp
     unfold bkV at hVd
     obtain ⟨NF, hNF⟩ : ∃ F, F = whyN D M Mo (apK T B q) := ⟨_, rfl⟩
     obtain ⟨TO, hTO⟩ : ∃ F, F = tkB (bkL D M Mo T B q) := ⟨_, rfl⟩
     have hok : bkOk D M Mo (bkL D M Mo T B q) (apK T B q) = fun t => !TO t && decide (NF t = 0) := by rw [hNF, hTO]; rfl
     rw [hok] at hVd
     rw [← hTO] at K3
     have HTO := hI9 hTO
     simp only [← hNF] at hwy
     clear hNF hok hTO ga hin hin2
     obtain ⟨V, hV⟩ : ∃ V, V = bkO D M Mo T B q := ⟨_, rfl⟩
     rw [← hV] at hVd hsp
     have HVQ := hI9 hV
     have hVb : V = -1 ∨ (0 ≤ V ∧ V + T q 1 ≤ 2001) := by
      rcases hsp with h | ⟨h1, h2, -⟩
      ·exact Or.inl h
      ·exact Or.inr ⟨by omega, h2⟩
     dsimp only [apK] at hwy
     have HWY := hI9 hwy
     have HR0 := hI9 hVd
     clear hwy hVd hsp hV
     go_wp2_with (fail)
     have HBo := hI9 (Blk.new wr 85 #[.int .i64 (T q 0), .int .i64 (T q 1), .int .i64 (T q 2), .int .i64 (T q 3), .int .i64 (T q 4), .int .i64 (T q 5), .int .i64 (T q 6), .bool (B q 7), .bool (B q 8), .int .i64 (T q 9), .int .i64 (T q 10), .int .i64 (T q 11)])
     have K4 := hI9 (K3.out.grow (bal (Below.refl _ _) (.cells #[.int .i64 (T q 0), .int .i64 (T q 1), .int .i64 (T q 2), .int .i64 (T q 3), .int .i64 (T q 4), .int .i64 (T q 5), .int .i64 (T q 6), .bool (B q 7), .bool (B q 8), .int .i64 (T q 9), .int .i64 (T q 10), .int .i64 (T q 11)] 85)))
     clear K3 c0 c1 c2 c3 c4 c5 c6 c7 c8 c9 c10 c11
     generalize wr.alloc (.cells #[.int .i64 (T q 0), .int .i64 (T q 1), .int .i64 (T q 2), .int .i64 (T q 3), .int .i64 (T q 4), .int .i64 (T q 5), .int .i64 (T q 6), .bool (B q 7), .bool (B q 8), .int .i64 (T q 9), .int .i64 (T q 10), .int .i64 (T q 11)] 85) = w2 at *
     generalize wr.heap.size = gB at *
     have hz0 : ((0 : Int) == T q 1) = false := by simp; omega
     go_loopg [17, 18, 19] (2001 - T q 0).toNat (fun gy a f t wr => ∃ (tt : Nat) (cc v : Int), t = .int .i64 (tt : Int) ∧ f = .int .i64 cc ∧ a = .int .i64 v ∧ T q 0 ≤ tt ∧ tt ≤ 2001 ∧ (2001 - (tt : Int)).toNat ≤ gy ∧ 0 ≤ cc ∧ cc ≤ 100 ∧ ((v = -1 ∧ cc < T q 1 ∧ cc + T q 0 ≤ tt) ∨ (v = V ∧ 0 ≤ V)) ∧ Hid (v = -1 → bkR (fun t => !TO t && decide (NF t = 0)) (T q 1) (2001 - (tt : Int)).toNat tt cc = V) ∧ Hid (BkM D M Mo A1 A2 A3 A4 A5 A6 A7 A8 k1 k2 k3 k4 k5 k6 k7 k8 gT TO u8 ((List.range q).map (bkO D M Mo T B)) w wr) ∧ Hid (Blk wr gB 85 #[.int .i64 (T q 0), .int .i64 (T q 1), .int .i64 (T q 2), .int .i64 (T q 3), .int .i64 (T q 4), .int .i64 (T q 5), .int .i64 (T q 6), .bool (B q 7), .bool (B q 8), .int .i64 (T q 9), .int .i64 (T q 10), .int .i64 (T q 11)]))
     case atStart => exact ⟨(T q 0).toNat, 0, -1, by congr 1; omega, rfl, rfl, by omega, by omega, by omega, by omega, by omega, Or.inl ⟨rfl, by omega, by omega⟩, hI9 (fun _ => by rw [show (((T q 0).toNat : Nat) : Int) = T q 0 by omega]; exact HR0.out.symm), K4, HBo⟩
     case round =>
      clear K4 HBo HR0
      obtain ⟨tt, cc, v, rfl, rfl, rfl, h1, h2, hgy, h3, h4, hst, HR, K4, HBo⟩ := hrel
      have d1 := HBo.out.cell 1
      simp only [gtA, gtS, gtZ] at d1
      by_cases hgo : (tt : Int) ≤ 2000 ∧ v = -1
      ·obtain ⟨hle, rfl⟩ := hgo
       have hcs : cc < T q 1 ∧ cc + T q 0 ≤ tt := by
        rcases hst with h | h
        ·exact h.2
        ·omega
       have hE := HR.out rfl
       rw [show (2001 - (tt : Int)).toNat = (2001 - ((tt + 1 : Nat) : Int)).toNat + 1 by omega] at hE
       unfold bkR at hE
       rw [show (tt : Int) + 1 = ((tt + 1 : Nat) : Int) by omega] at hE
       have cT : wr.cell? ⟨gT, tt, none⟩ = some (.bool (TO tt)) := K4.out.t.cell tt (by omega)
       clear HR hst
       cases hT : TO tt
       case true =>
        rw [if_neg (by simp [hT])] at hE
        have HE2 := hI9 hE
        clear hE
        go_wp2_with (fail)
        go_roundg (2001 - ((tt + 1 : Nat) : Int)).toNat
        case measure => omega
        case rel => exact ⟨tt + 1, 0, -1, by first | rfl | go_num | (congr 1; omega), by first | rfl | go_num | (congr 1; omega), by first | rfl | go_num | (congr 1; omega), by omega, by omega, Nat.le_refl _, by omega, by omega, Or.inl ⟨rfl, by omega, by omega⟩, hI9 (fun _ => HE2.out), K4, HBo⟩
       case false =>
        by_cases hN : NF tt = 0
        ·rw [if_pos (by simp [hT, hN])] at hE
         by_cases hfull : cc + 1 = T q 1
         ·rw [if_pos hfull] at hE
          have hz1 : ((cc + 1) == T q 1) = true := by simpa using hfull
          go_wp2_with (first | (refine wpl_row_g ?_ 98 (.tmp 10) rfl _ rfl _ 27 K4.out.k.x Tryz.rowScn rfl ?_; (focus rfl); simp only [Act.put]) | (refine wpl_mid_g ?_ 43 (.tmp 82) rfl _ 2 rfl 85 _ #[.int .i64 (T q 2), .int .i64 (T q 3), .int .i64 (T q 4), .int .i64 (T q 5), .int .i64 (T q 6), .bool (B q 7), .bool (B q 8), .int .i64 (T q 9), .int .i64 (T q 10), .int .i64 (T q 11)] 10 HBo.out Tryz.rowApp [.int .i64 (T q 0), .int .i64 (T q 1)] [] rfl rfl rfl ?_; (focus rfl); simp only [Act.put]))
          refine (HWY.out tt (by omega) _ (HD.out.below K4.out.k.b) (HA.out.below K4.out.k.b) (HV.out.below K4.out.k.b)).mono ?_
          rintro e w3 ⟨A9, c9, rfl, hb3⟩
          have nK4 := hI9 (K4.out.grow hb3)
          have nHBo := hI9 (HBo.out.below hb3)
          clear K4 HBo hb3 d1 cT
          have K4 := nK4
          have HBo := nHBo
          clear nK4 nHBo
          have d1 := HBo.out.cell 1
          simp only [gtA, gtS, gtZ] at d1
          go_wp2_with (fail)
          go_roundg (2001 - ((tt + 1 : Nat) : Int)).toNat
          case measure => omega
          case rel => exact ⟨tt + 1, cc + 1, (tt : Int) - T q 1 + 1, by first | rfl | go_num | (congr 1; omega), by first | rfl | go_num | (congr 1; omega), by first | rfl | go_num | (congr 1; omega), by omega, by omega, Nat.le_refl _, by omega, by omega, Or.inr ⟨hE, by omega⟩, hI9 (fun h => absurd h (by omega)), K4, HBo⟩
         ·rw [if_neg hfull] at hE
          have hz1 : ((cc + 1) == T q 1) = false := by simpa using hfull
          have HE2 := hI9 hE
          clear hE
          go_wp2_with (first | (refine wpl_row_g ?_ 98 (.tmp 10) rfl _ rfl _ 27 K4.out.k.x Tryz.rowScn rfl ?_; (focus rfl); simp only [Act.put]) | (refine wpl_mid_g ?_ 43 (.tmp 82) rfl _ 2 rfl 85 _ #[.int .i64 (T q 2), .int .i64 (T q 3), .int .i64 (T q 4), .int .i64 (T q 5), .int .i64 (T q 6), .bool (B q 7), .bool (B q 8), .int .i64 (T q 9), .int .i64 (T q 10), .int .i64 (T q 11)] 10 HBo.out Tryz.rowApp [.int .i64 (T q 0), .int .i64 (T q 1)] [] rfl rfl rfl ?_; (focus rfl); simp only [Act.put]))
          refine (HWY.out tt (by omega) _ (HD.out.below K4.out.k.b) (HA.out.below K4.out.k.b) (HV.out.below K4.out.k.b)).mono ?_
          rintro e w3 ⟨A9, c9, rfl, hb3⟩
          have nK4 := hI9 (K4.out.grow hb3)
          have nHBo := hI9 (HBo.out.below hb3)
          clear K4 HBo hb3 d1 cT
          have K4 := nK4
          have HBo := nHBo
          clear nK4 nHBo
          have d1 := HBo.out.cell 1
          simp only [gtA, gtS, gtZ] at d1
          go_wp2_with (fail)
          go_roundg (2001 - ((tt + 1 : Nat) : Int)).toNat
          case measure => omega
          case rel => exact ⟨tt + 1, cc + 1, -1, by first | rfl | go_num | (congr 1; omega), by first | rfl | go_num | (congr 1; omega), by first | rfl | go_num | (congr 1; omega), by omega, by omega, Nat.le_refl _, by omega, by omega, Or.inl ⟨rfl, by omega, by omega⟩, hI9 (fun _ => HE2.out), K4, HBo⟩
        ·rw [if_neg (by simp [hN])] at hE
         have hNp : 0 < NF tt := by omega
         have HE2 := hI9 hE
         clear hE
         go_wp2_with (first | (refine wpl_row_g ?_ 98 (.tmp 10) rfl _ rfl _ 27 K4.out.k.x Tryz.rowScn rfl ?_; (focus rfl); simp only [Act.put]) | (refine wpl_mid_g ?_ 43 (.tmp 82) rfl _ 2 rfl 85 _ #[.int .i64 (T q 2), .int .i64 (T q 3), .int .i64 (T q 4), .int .i64 (T q 5), .int .i64 (T q 6), .bool (B q 7), .bool (B q 8), .int .i64 (T q 9), .int .i64 (T q 10), .int .i64 (T q 11)] 10 HBo.out Tryz.rowApp [.int .i64 (T q 0), .int .i64 (T q 1)] [] rfl rfl rfl ?_; (focus rfl); simp only [Act.put]))
         refine (HWY.out tt (by omega) _ (HD.out.below K4.out.k.b) (HA.out.below K4.out.k.b) (HV.out.below K4.out.k.b)).mono ?_
         rintro e w3 ⟨A9, c9, rfl, hb3⟩
         have nK4 := hI9 (K4.out.grow hb3)
         have nHBo := hI9 (HBo.out.below hb3)
         clear K4 HBo hb3 d1 cT
         have K4 := nK4
         have HBo := nHBo
         clear nK4 nHBo
         have d1 := HBo.out.cell 1
         simp only [gtA, gtS, gtZ] at d1
         go_wp2_with (fail)
         go_roundg (2001 - ((tt + 1 : Nat) : Int)).toNat
         case measure => omega
         case rel => exact ⟨tt + 1, 0, -1, by first | rfl | go_num | (congr 1; omega), by first | rfl | go_num | (congr 1; omega), by first | rfl | go_num | (congr 1; omega), by omega, by omega, Nat.le_refl _, by omega, by omega, Or.inl ⟨rfl, by omega, by omega⟩, hI9 (fun _ => HE2.out), K4, HBo⟩
      ·have hvV : v = V := by
        rcases hst with ⟨rfl, -, -⟩ | ⟨h, -⟩
        ·have := HR.out rfl
         rw [show (2001 - (tt : Int)).toNat = 0 by omega] at this
         exact this
        ·exact h
       subst hvV
       clear HR
       by_cases hle : (tt : Int) ≤ 2000
       ·have hv : 0 ≤ v := by omega
        clear hgo hst
        go_wp2_with (fail)
        have HTI := hI9 (show BkM D M Mo A1 A2 A3 A4 A5 A6 A7 A8 k1 k2 k3 k4 k5 k6 k7 k8 gT (fun t => TO t || (decide (0 ≤ v) && (decide (v ≤ t) && decide (t < v + ((0 : Nat) : Int))))) u8 ((List.range q).map (bkO D M Mo T B)) w wr from K4.out.congr (fun t _ => tk_zero (TO (t : Int)) v t))
        clear K4
        go_loopg [100] (T q 1).toNat (fun gz i wr => ∃ j : Nat, i = .int .i64 (j : Int) ∧ (j : Int) ≤ T q 1 ∧ (T q 1).toNat - j ≤ gz ∧ Hid (BkM D M Mo A1 A2 A3 A4 A5 A6 A7 A8 k1 k2 k3 k4 k5 k6 k7 k8 gT (fun t => TO t || (decide (0 ≤ v) && (decide (v ≤ t) && decide (t < v + (j : Int))))) u8 ((List.range q).map (bkO D M Mo T B)) w wr))
        case atStart => exact ⟨0, rfl, by omega, by omega, HTI⟩
        case round =>
         clear HTI HBo d1
         obtain ⟨j, rfl, hj, hgz, K5⟩ := hrel
         by_cases hjl : (j : Int) < T q 1
         ·obtain ⟨vn, hvn⟩ : ∃ vn : Nat, v = vn := ⟨v.toNat, by omega⟩
          have hin : vn + j < 2001 := by omega
          have K6 := hI9 (show BkM D M Mo A1 A2 A3 A4 A5 A6 A7 A8 k1 k2 k3 k4 k5 k6 k7 k8 gT (fun t => TO t || (decide (0 ≤ v) && (decide (v ≤ t) && decide (t < v + ((j + 1 : Nat) : Int))))) u8 ((List.range q).map (bkO D M Mo T B)) w (wr.setCell ⟨gT, vn + j, none⟩ (.bool true)) from (K5.out.put (vn + j) hin).congr (fun t _ => tk_succ (j := j) hvn))
          subst hvn
          obtain ⟨b0, cT⟩ : ∃ b, wr.cell? ⟨gT, vn + j, none⟩ = some (.bool b) := ⟨_, K5.out.t.cell _ hin⟩
          have fT : ∀ i, wr.frozen? ⟨gT, i, none⟩ = false := fun i => World.ownsRow.frozenAt K5.out.t i
          have hidx : (vn : Int) + (j : Int) < 2001 := by omega
          clear K5
          go_wp2_with (fail)
          go_roundg ((T q 1).toNat - (j + 1))
          case measure => omega
          case rel => exact ⟨j + 1, by first | rfl | go_num | (congr 1; omega), by omega, Nat.le_refl _, K6⟩
         ·have hjq : (j : Int) = T q 1 := by omega
          have hl : (List.range (q + 1)).map (bkO D M Mo T B) = (List.range q).map (bkO D M Mo T B) ++ [v] := by
           rw [List.range_succ, List.map_append, HVQ.out]
           rfl
          have HTK := hI9 (show ∀ t : Nat, t < 2001 → (fun t => TO t || (decide (0 ≤ v) && (decide (v ≤ t) && decide (t < v + (j : Int))))) (t : Int) = tkB (bkL D M Mo T B (q + 1)) (t : Int) from fun t _ => by
           rw [bkL_succ, tkB_snoc, ← HTO.out, ← HVQ.out, ← hjq])
          go_wp2_with (first | (at_builtin; go_loud (refine wpl_appI rfl _ _ rfl (gT + 1) _ ((List.range q).map (bkO D M Mo T B)) rfl (K5.out.o.alloc _) _ v rfl ?a1 (by simp; omega) ?c1 ?_)))
          case c1 => have := K5.out.g.2; first | omega | (simp; omega)
          ·intro v2 w3 O2 G2
           have O3 : w3.ownsRow (gT + 1) 3 1 v2 ((List.range (q + 1)).map (bkO D M Mo T B)).length (((List.range (q + 1)).map (bkO D M Mo T B)).map fun x => .int .i64 x) := by
            rw [hl]
            simpa using O2
           have K6 := hI9 (((K5.out.grow (bal (Below.refl _ _) _)).take O3 G2).congr HTK.out)
           clear K5 O2 G2
           go_wp2_with (fail)
           go_roundg (k - (q + 1))
           case measure => omega
           case rel => exact ⟨q + 1, by first | rfl | go_num | (congr 1; omega), by omega, Nat.le_refl _, K6⟩
       ·clear hgo hst
        by_cases hv : 0 ≤ v
        ·skip
         go_wp2_with (fail)
         have HTI := hI9 (show BkM D M Mo A1 A2 A3 A4 A5 A6 A7 A8 k1 k2 k3 k4 k5 k6 k7 k8 gT (fun t => TO t || (decide (0 ≤ v) && (decide (v ≤ t) && decide (t < v + ((0 : Nat) : Int))))) u8 ((List.range q).map (bkO D M Mo T B)) w wr from K4.out.congr (fun t _ => tk_zero (TO (t : Int)) v t))
         clear K4
         go_loopg [100] (T q 1).toNat (fun gz i wr => ∃ j : Nat, i = .int .i64 (j : Int) ∧ (j : Int) ≤ T q 1 ∧ (T q 1).toNat - j ≤ gz ∧ Hid (BkM D M Mo A1 A2 A3 A4 A5 A6 A7 A8 k1 k2 k3 k4 k5 k6 k7 k8 gT (fun t => TO t || (decide (0 ≤ v) && (decide (v ≤ t) && decide (t < v + (j : Int))))) u8 ((List.range q).map (bkO D M Mo T B)) w wr))
         case atStart => exact ⟨0, rfl, by omega, by omega, HTI⟩
         case round =>
          clear HTI HBo d1
          obtain ⟨j, rfl, hj, hgz, K5⟩ := hrel
          by_cases hjl : (j : Int) < T q 1
          ·obtain ⟨vn, hvn⟩ : ∃ vn : Nat, v = vn := ⟨v.toNat, by omega⟩
           have hin : vn + j < 2001 := by omega
           have K6 := hI9 (show BkM D M Mo A1 A2 A3 A4 A5 A6 A7 A8 k1 k2 k3 k4 k5 k6 k7 k8 gT (fun t => TO t || (decide (0 ≤ v) && (decide (v ≤ t) && decide (t < v + ((j + 1 : Nat) : Int))))) u8 ((List.range q).map (bkO D M Mo T B)) w (wr.setCell ⟨gT, vn + j, none⟩ (.bool true)) from (K5.out.put (vn + j) hin).congr (fun t _ => tk_succ (j := j) hvn))
           subst hvn
           obtain ⟨b0, cT⟩ : ∃ b, wr.cell? ⟨gT, vn + j, none⟩ = some (.bool b) := ⟨_, K5.out.t.cell _ hin⟩
           have fT : ∀ i, wr.frozen? ⟨gT, i, none⟩ = false := fun i => World.ownsRow.frozenAt K5.out.t i
           have hidx : (vn : Int) + (j : Int) < 2001 := by omega
           clear K5
           go_wp2_with (fail)
           go_roundg ((T q 1).toNat - (j + 1))
           case measure => omega
           case rel => exact ⟨j + 1, by first | rfl | go_num | (congr 1; omega), by omega, Nat.le_refl _, K6⟩
          ·have hjq : (j : Int) = T q 1 := by omega
           have hl : (List.range (q + 1)).map (bkO D M Mo T B) = (List.range q).map (bkO D M Mo T B) ++ [v] := by
            rw [List.range_succ, List.map_append, HVQ.out]
            rfl
           have HTK := hI9 (show ∀ t : Nat, t < 2001 → (fun t => TO t || (decide (0 ≤ v) && (decide (v ≤ t) && decide (t < v + (j : Int))))) (t : Int) = tkB (bkL D M Mo T B (q + 1)) (t : Int) from fun t _ => by
            rw [bkL_succ, tkB_snoc, ← HTO.out, ← HVQ.out, ← hjq])
           go_wp2_with (first | (at_builtin; go_loud (refine wpl_appI rfl _ _ rfl (gT + 1) _ ((List.range q).map (bkO D M Mo T B)) rfl (K5.out.o.alloc _) _ v rfl ?a2 (by simp; omega) ?c2 ?_)))
           case c2 => have := K5.out.g.2; first | omega | (simp; omega)
           ·intro v2 w3 O2 G2
            have O3 : w3.ownsRow (gT + 1) 3 1 v2 ((List.range (q + 1)).map (bkO D M Mo T B)).length (((List.range (q + 1)).map (bkO D M Mo T B)).map fun x => .int .i64 x) := by
             rw [hl]
             simpa using O2
            have K6 := hI9 (((K5.out.grow (bal (Below.refl _ _) _)).take O3 G2).congr HTK.out)
            clear K5 O2 G2
            go_wp2_with (fail)
            go_roundg (k - (q + 1))
            case measure => omega
            case rel => exact ⟨q + 1, by first | rfl | go_num | (congr 1; omega), by omega, Nat.le_refl _, K6⟩
        ·skip
         go_wp2_with (fail)
         have HTI := hI9 (show BkM D M Mo A1 A2 A3 A4 A5 A6 A7 A8 k1 k2 k3 k4 k5 k6 k7 k8 gT (fun t => TO t || (decide (0 ≤ v) && (decide (v ≤ t) && decide (t < v + ((0 : Nat) : Int))))) u8 ((List.range q).map (bkO D M Mo T B)) w wr from K4.out.congr (fun t _ => tk_zero (TO (t : Int)) v t))
         clear K4
         go_loopg [100] (T q 1).toNat (fun gz i wr => ∃ j : Nat, i = .int .i64 (j : Int) ∧ (j : Int) ≤ T q 1 ∧ (T q 1).toNat - j ≤ gz ∧ Hid (BkM D M Mo A1 A2 A3 A4 A5 A6 A7 A8 k1 k2 k3 k4 k5 k6 k7 k8 gT (fun t => TO t || (decide (0 ≤ v) && (decide (v ≤ t) && decide (t < v + (j : Int))))) u8 ((List.range q).map (bkO D M Mo T B)) w wr))
         case atStart => exact ⟨0, rfl, by omega, by omega, HTI⟩
         case round =>
          clear HTI HBo d1
          obtain ⟨j, rfl, hj, hgz, K5⟩ := hrel
          by_cases hjl : (j : Int) < T q 1
          ·have K6 := hI9 (show BkM D M Mo A1 A2 A3 A4 A5 A6 A7 A8 k1 k2 k3 k4 k5 k6 k7 k8 gT (fun t => TO t || (decide (0 ≤ v) && (decide (v ≤ t) && decide (t < v + ((j + 1 : Nat) : Int))))) u8 ((List.range q).map (bkO D M Mo T B)) w wr from K5.out.congr (fun t _ => tk_neg (j := j) (by omega)))
           clear K5
           go_wp2_with (fail)
           go_roundg ((T q 1).toNat - (j + 1))
           case measure => omega
           case rel => exact ⟨j + 1, by first | rfl | go_num | (congr 1; omega), by omega, Nat.le_refl _, K6⟩
          ·have hjq : (j : Int) = T q 1 := by omega
           have hl : (List.range (q + 1)).map (bkO D M Mo T B) = (List.range q).map (bkO D M Mo T B) ++ [v] := by
            rw [List.range_succ, List.map_append, HVQ.out]
            rfl
           have HTK := hI9 (show ∀ t : Nat, t < 2001 → (fun t => TO t || (decide (0 ≤ v) && (decide (v ≤ t) && decide (t < v + (j : Int))))) (t : Int) = tkB (bkL D M Mo T B (q + 1)) (t : Int) from fun t _ => by
            rw [bkL_succ, tkB_snoc, ← HTO.out, ← HVQ.out, ← hjq])
           go_wp2_with (first | (at_builtin; go_loud (refine wpl_appI rfl _ _ rfl (gT + 1) _ ((List.range q).map (bkO D M Mo T B)) rfl (K5.out.o.alloc _) _ v rfl ?a3 (by simp; omega) ?c3 ?_)))
           case c3 => have := K5.out.g.2; first | omega | (simp; omega)
           ·intro v2 w3 O2 G2
            have O3 : w3.ownsRow (gT + 1) 3 1 v2 ((List.range (q + 1)).map (bkO D M Mo T B)).length (((List.range (q + 1)).map (bkO D M Mo T B)).map fun x => .int .i64 x) := by
             rw [hl]
             simpa using O2
            have K6 := hI9 (((K5.out.grow (bal (Below.refl _ _) _)).take O3 G2).congr HTK.out)
            clear K5 O2 G2
            go_wp2_with (fail)
            go_roundg (k - (q + 1))
            case measure => omega
            case rel => exact ⟨q + 1, by first | rfl | go_num | (congr 1; omega), by omega, Nat.le_refl _, K6⟩
    ·obtain rfl : q = k := by omega
     go_wp2_with (fail)
     go_ret2
     exact ⟨_, by rw [HOK.out]; rfl, K3.out.k.b, fun _ => slat_ints (by have := K3.out.o; rw [List.length_map, List.length_range, List.map_map] at this; exact this)⟩
end Go.Proofs.YtlambeiafdpkgaaGreat
