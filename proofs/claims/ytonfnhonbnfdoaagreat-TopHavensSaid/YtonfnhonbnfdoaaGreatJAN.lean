/- Texts joined: JAN. -/
import Derived.Test.YtonfnhonbnfdoaaGreatWeP
set_option linter.all false
namespace Go.Proofs.YtonfnhonbnfdoaaGreat
open Go Go.RowKit Go.Proofs
set_option maxRecDepth 100000
set_option maxHeartbeats 8000000

def openB (x : Sk) (lw ls lc : Int) (li lt : Bool) : Bool := flyB x.a1 x.a2 x.a4 x.i x.s lw ls lc li lt
theorem wopen_c (M : MetD) (vF vS : Value) (lw ls lc : Int) (li lt : Bool) (p t : Int) (w : World) (hM : M.Ok) (hA : MetAt w vF vS M) (ht0 : 0 ≤ t) (ht1 : t ≤ 2000) :
   Calls Tryz.prog 39 #[.agg #[.int .i64 M.places, .int .i64 M.any.a0, .int .i64 M.any.a1, .int .i64 M.any.a2, .int .i64 M.any.a3, .int .i64 M.any.a4, .int .i64 M.any.a5, .bool M.any.i, .bool M.any.s, .int .i64 M.mw, .int .i64 M.ms, .int .i64 M.mc, vF, vS], .agg #[.int .i64 lw, .int .i64 ls, .int .i64 lc, .bool li, .bool lt], .int .i64 p, .int .i64 t] w fun e w' => e = .returned (.bool (openB (M.may p t) lw ls lc li lt)) ∧ Below w.heap.size w w' := by
  have HA := Lib.hid hA
  have hmy := fun w1 h => may_c M vF vS p t w1 hM h ht0 ht1
  clear hA hM
  rcases hx : M.may p t with ⟨a0, a1, a2, a3, a4, a5, xi, xs⟩
  rw [hx] at hmy
  have hwo := fun w1 => worst_c (Sk.mk a0 a1 a2 a3 a4 a5 xi xs) w1
  dsimp only at hwo
  unfold openB Sk.cells at *
  dsimp only at hmy ⊢
  have HFL := Lib.hid (fun w1 => flyable_c a1 a2 a4 xi xs lw ls lc li lt w1)
  generalize flyB a1 a2 a4 xi xs lw ls lc li lt = R at *
  have HMY := Lib.hid hmy
  have HWO := Lib.hid hwo
  clear hmy hwo hx
  go_enter Tryz.func39, Tryz.ntmps39
  go_wp2_with (first | (refine wpl_row rfl 29 _ rfl _ rfl #[.int .i64 M.places, .int .i64 M.any.a0, .int .i64 M.any.a1, .int .i64 M.any.a2, .int .i64 M.any.a3, .int .i64 M.any.a4, .int .i64 M.any.a5, .bool M.any.i, .bool M.any.s, .int .i64 M.mw, .int .i64 M.ms, .int .i64 M.mc, vF, vS] 14 ?_ Tryz.rowMet rfl ?_; (focus exact (by repeat (first | (refine Blk.newAt _ _ _ ?_; first | rfl | (simp; done)) | refine Blk.alloc ?_ _))); simp only [Act.put]))
  have _x := frm2 w #[.int .i64 M.places, .int .i64 M.any.a0, .int .i64 M.any.a1, .int .i64 M.any.a2, .int .i64 M.any.a3, .int .i64 M.any.a4, .int .i64 M.any.a5, .bool M.any.i, .bool M.any.s, .int .i64 M.mw, .int .i64 M.ms, .int .i64 M.mc, vF, vS] 29 #[.int .i64 lw, .int .i64 ls, .int .i64 lc, .bool li, .bool lt] 31
  have HX := Lib.hid _x.1
  have HL := Lib.hid _x.2.1
  have HB := Lib.hid _x.2.2.1
  have zW := _x.2.2.2
  clear _x
  generalize World.alloc (World.alloc w _) _ = W at *
  refine (HMY.out _ (HA.out.below HB.out)).mono ?_
  rintro _ w1 ⟨v, ys, rfl, hb1, -, -⟩
  have nHX := Lib.hid (HX.out.below hb1)
  have nHL := Lib.hid (HL.out.below hb1)
  have nHB := Lib.hid (bthen HB.out hb1)
  clear HX HL HB hb1
  have HX := nHX
  have HL := nHL
  have HB := nHB
  clear nHX nHL nHB
  go_wp2_with (fail)
  have bHS := Blk.new w1 108 #[.int .i64 a0, .int .i64 a1, .int .i64 a2, .int .i64 a3, .int .i64 a4, .int .i64 a5, .bool xi, .bool xs]
  have nHX := Lib.hid (HX.out.alloc (.cells #[.int .i64 a0, .int .i64 a1, .int .i64 a2, .int .i64 a3, .int .i64 a4, .int .i64 a5, .bool xi, .bool xs] 108))
  have nHL := Lib.hid (HL.out.alloc (.cells #[.int .i64 a0, .int .i64 a1, .int .i64 a2, .int .i64 a3, .int .i64 a4, .int .i64 a5, .bool xi, .bool xs] 108))
  have nHB := Lib.hid (bal HB.out (.cells #[.int .i64 a0, .int .i64 a1, .int .i64 a2, .int .i64 a3, .int .i64 a4, .int .i64 a5, .bool xi, .bool xs] 108))
  clear HX HL HB
  have HX := nHX
  have HL := nHL
  have HB := nHB
  clear nHX nHL nHB
  generalize w1.alloc (.cells #[.int .i64 a0, .int .i64 a1, .int .i64 a2, .int .i64 a3, .int .i64 a4, .int .i64 a5, .bool xi, .bool xs] 108) = W2 at *
  generalize w1.heap.size = gHS at *
  have HS := Lib.hid bHS
  clear bHS
  have hS2 := Lib.hid (fun r : After _ => HS.out.below r.below)
  have hL2 := Lib.hid (fun r : After _ => HL.out.below r.below)
  refine wp_region_aftert 4 (by kernel_rfl) (by kernel_rfl) ?_
  simp only [List.take_succ_cons, List.take_zero, List.drop_succ_cons, List.drop_zero]
  refine wpq_row rfl 108 _ rfl _ rfl _ 8 (fun _ hw => by obtain ⟨r, rfl⟩ := hw; exact hS2.out r) Tryz.rowSet rfl ?_
  simp only [Act.put, List.setIfInBounds_toArray, List.set_cons_succ, List.set_cons_zero]
  go_big_quiet_step (first | (go_at_call 84; (with_reducible refine qafter (HWO.out _))))
  refine wpq_row rfl 31 _ rfl _ rfl _ 5 (fun _ hw => by obtain ⟨r, rfl⟩ := hw; exact hL2.out r) Tryz.rowMin rfl ?_
  simp only [Act.put, List.setIfInBounds_toArray, List.set_cons_succ, List.set_cons_zero]
  go_big_quiet_step (first | (go_at_call 83; (with_reducible refine qafter (HFL.out _))))
  refine wpQuiet_nil ?_
  rintro _ ⟨r, rfl⟩
  have BR := r.below
  go_wp2_with (fail)
  go_ret
  exact ⟨rfl, bthen HB.out BR⟩

theorem minE_bad {M : MetD} {lw ls lc : Int} (h : minE M lw ls lc = 0) : M.bad = false := by
  unfold minE at h
  cases hb : M.bad
  · rfl
  · rw [hb, if_pos rfl] at h; cases h
theorem opE_ok {M : MetD} {lw ls lc p t : Int} (h : opE M lw ls lc p t = 0) : M.Ok ∧ 0 ≤ t ∧ t ≤ 2000 := by
  unfold opE at h
  by_cases he : minE M lw ls lc = 0
  · rw [if_pos he] at h
    have hb := minE_bad he
    unfold atE at h
    rw [hb, if_neg (by decide)] at h
    cases b1 : inB p 0 (M.places - 1)
    · rw [b1] at h; cases h
    · cases b2 : inB t 0 2000
      · rw [b1, b2] at h; cases h
      · exact ⟨MetD.ok_of hb, inB_iff.1 b2⟩
  · rw [if_neg he] at h; exact absurd h he
def openV (M : MetD) (lw ls lc : Int) (li lt : Bool) (p t : Int) : Bool := decide (opE M lw ls lc p t = 0) && openB (M.may p t) lw ls lc li lt
theorem wOpen_c (M : MetD) (vF vS : Value) (lw ls lc : Int) (li lt : Bool) (p t : Int) (w : World) (hA : MetAt w vF vS M) :
   Calls Tryz.prog 98 #[.agg #[.int .i64 M.places, .int .i64 M.any.a0, .int .i64 M.any.a1, .int .i64 M.any.a2, .int .i64 M.any.a3, .int .i64 M.any.a4, .int .i64 M.any.a5, .bool M.any.i, .bool M.any.s, .int .i64 M.mw, .int .i64 M.ms, .int .i64 M.mc, vF, vS], .agg #[.int .i64 lw, .int .i64 ls, .int .i64 lc, .bool li, .bool lt], .int .i64 p, .int .i64 t] w fun e w' => e = .returned (.tuple #[.bool (openV M lw ls lc li lt p t), .int .i64 (opE M lw ls lc p t)]) ∧ Below w.heap.size w w' := by
  have HA := Lib.hid hA
  have hco := fun w1 h => wcheckOpen_c M vF vS lw ls lc li lt p t w1 h
  clear hA
  unfold openV
  by_cases he : opE M lw ls lc p t = 0
  · obtain ⟨hM, ht0, ht1⟩ := opE_ok he
    have hop := fun w1 h => wopen_c M vF vS lw ls lc li lt p t w1 hM h ht0 ht1
    rw [he] at hco ⊢
    rw [show (decide ((0 : Int) = 0) && openB (M.may p t) lw ls lc li lt) = openB (M.may p t) lw ls lc li lt from rfl]
    generalize openB (M.may p t) lw ls lc li lt = R at *
    have HCO := Lib.hid hco
    have HOP := Lib.hid hop
    clear hco hop hM he
    go_enter Tryz.func98, Tryz.ntmps98
    go_wp2_with (first | (refine wpl_row rfl 29 _ rfl _ rfl #[.int .i64 M.places, .int .i64 M.any.a0, .int .i64 M.any.a1, .int .i64 M.any.a2, .int .i64 M.any.a3, .int .i64 M.any.a4, .int .i64 M.any.a5, .bool M.any.i, .bool M.any.s, .int .i64 M.mw, .int .i64 M.ms, .int .i64 M.mc, vF, vS] 14 ?_ Tryz.rowMet rfl ?_; (focus exact (by repeat (first | (refine Blk.newAt _ _ _ ?_; first | rfl | (simp; done)) | refine Blk.alloc ?_ _))); simp only [Act.put]) | (refine wpl_row rfl 31 _ rfl _ rfl #[.int .i64 lw, .int .i64 ls, .int .i64 lc, .bool li, .bool lt] 5 ?_ Tryz.rowMin rfl ?_; (focus exact (by repeat (first | (refine Blk.newAt _ _ _ ?_; first | rfl | (simp; done)) | refine Blk.alloc ?_ _))); simp only [Act.put]))
    have _x := frm2 w #[.int .i64 M.places, .int .i64 M.any.a0, .int .i64 M.any.a1, .int .i64 M.any.a2, .int .i64 M.any.a3, .int .i64 M.any.a4, .int .i64 M.any.a5, .bool M.any.i, .bool M.any.s, .int .i64 M.mw, .int .i64 M.ms, .int .i64 M.mc, vF, vS] 29 #[.int .i64 lw, .int .i64 ls, .int .i64 lc, .bool li, .bool lt] 31
    have HX := Lib.hid _x.1
    have HL := Lib.hid _x.2.1
    have HB := Lib.hid _x.2.2.1
    have zW := _x.2.2.2
    clear _x
    generalize World.alloc (World.alloc w _) _ = W at *
    go_wp2_with (first | (go_at_call 132; (with_reducible refine (HCO.out _ (HA.out.below HB.out)).mono ?_); rintro e w1 ⟨rfl, hb1⟩; have nHX := Lib.hid (HX.out.below hb1); have nHL := Lib.hid (HL.out.below hb1); have nHB := Lib.hid (bthen HB.out hb1); have zz1 := hb1.size; clear HX HL HB hb1; have HX := nHX; have HL := nHL; have HB := nHB; clear nHX nHL nHB) | (refine wpl_row rfl 29 _ rfl _ rfl #[.int .i64 M.places, .int .i64 M.any.a0, .int .i64 M.any.a1, .int .i64 M.any.a2, .int .i64 M.any.a3, .int .i64 M.any.a4, .int .i64 M.any.a5, .bool M.any.i, .bool M.any.s, .int .i64 M.mw, .int .i64 M.ms, .int .i64 M.mc, vF, vS] 14 HX.out Tryz.rowMet rfl ?_; simp only [Act.put]) | (refine wpl_row rfl 31 _ rfl _ rfl #[.int .i64 lw, .int .i64 ls, .int .i64 lc, .bool li, .bool lt] 5 HL.out Tryz.rowMin rfl ?_; simp only [Act.put]) | (go_at_call 39; (with_reducible refine (HOP.out _ (HA.out.below HB.out)).mono ?_); rintro e w1 ⟨rfl, hb1⟩; have nHX := Lib.hid (HX.out.below hb1); have nHL := Lib.hid (HL.out.below hb1); have nHB := Lib.hid (bthen HB.out hb1); have zz1 := hb1.size; clear HX HL HB hb1; have HX := nHX; have HL := nHL; have HB := nHB; clear nHX nHL nHB))
    go_ret2
    exact ⟨rfl, HB.out⟩
  · have hez : (opE M lw ls lc p t != 0) = true := by simpa using he
    rw [show decide (opE M lw ls lc p t = 0) = false from decide_eq_false he, Bool.false_and]
    generalize opE M lw ls lc p t = E at *
    have HCO := Lib.hid hco
    have HOP := Lib.hid (fun (w1 : World) (_ : MetAt w1 vF vS M) => True.intro)
    clear hco he
    go_enter Tryz.func98, Tryz.ntmps98
    go_wp2_with (first | (refine wpl_row rfl 29 _ rfl _ rfl #[.int .i64 M.places, .int .i64 M.any.a0, .int .i64 M.any.a1, .int .i64 M.any.a2, .int .i64 M.any.a3, .int .i64 M.any.a4, .int .i64 M.any.a5, .bool M.any.i, .bool M.any.s, .int .i64 M.mw, .int .i64 M.ms, .int .i64 M.mc, vF, vS] 14 ?_ Tryz.rowMet rfl ?_; (focus exact (by repeat (first | (refine Blk.newAt _ _ _ ?_; first | rfl | (simp; done)) | refine Blk.alloc ?_ _))); simp only [Act.put]) | (refine wpl_row rfl 31 _ rfl _ rfl #[.int .i64 lw, .int .i64 ls, .int .i64 lc, .bool li, .bool lt] 5 ?_ Tryz.rowMin rfl ?_; (focus exact (by repeat (first | (refine Blk.newAt _ _ _ ?_; first | rfl | (simp; done)) | refine Blk.alloc ?_ _))); simp only [Act.put]))
    have _x := frm2 w #[.int .i64 M.places, .int .i64 M.any.a0, .int .i64 M.any.a1, .int .i64 M.any.a2, .int .i64 M.any.a3, .int .i64 M.any.a4, .int .i64 M.any.a5, .bool M.any.i, .bool M.any.s, .int .i64 M.mw, .int .i64 M.ms, .int .i64 M.mc, vF, vS] 29 #[.int .i64 lw, .int .i64 ls, .int .i64 lc, .bool li, .bool lt] 31
    have HX := Lib.hid _x.1
    have HL := Lib.hid _x.2.1
    have HB := Lib.hid _x.2.2.1
    have zW := _x.2.2.2
    clear _x
    generalize World.alloc (World.alloc w _) _ = W at *
    go_wp2_with (first | (go_at_call 132; (with_reducible refine (HCO.out _ (HA.out.below HB.out)).mono ?_); rintro e w1 ⟨rfl, hb1⟩; have nHX := Lib.hid (HX.out.below hb1); have nHL := Lib.hid (HL.out.below hb1); have nHB := Lib.hid (bthen HB.out hb1); have zz1 := hb1.size; clear HX HL HB hb1; have HX := nHX; have HL := nHL; have HB := nHB; clear nHX nHL nHB) | (refine wpl_row rfl 29 _ rfl _ rfl #[.int .i64 M.places, .int .i64 M.any.a0, .int .i64 M.any.a1, .int .i64 M.any.a2, .int .i64 M.any.a3, .int .i64 M.any.a4, .int .i64 M.any.a5, .bool M.any.i, .bool M.any.s, .int .i64 M.mw, .int .i64 M.ms, .int .i64 M.mc, vF, vS] 14 HX.out Tryz.rowMet rfl ?_; simp only [Act.put]) | (refine wpl_row rfl 31 _ rfl _ rfl #[.int .i64 lw, .int .i64 ls, .int .i64 lc, .bool li, .bool lt] 5 HL.out Tryz.rowMin rfl ?_; simp only [Act.put]) | (go_at_call 39; (with_reducible refine (HOP.out _ (HA.out.below HB.out)).mono ?_); rintro e w1 ⟨rfl, hb1⟩; have nHX := Lib.hid (HX.out.below hb1); have nHL := Lib.hid (HL.out.below hb1); have nHB := Lib.hid (bthen HB.out hb1); have zz1 := hb1.size; clear HX HL HB hb1; have HX := nHX; have HL := nHL; have HB := nHB; clear nHX nHL nHB))
    go_ret2
    exact ⟨rfl, HB.out⟩
end Go.Proofs.YtonfnhonbnfdoaaGreat

namespace Go.Proofs.YtonfnhonbnfdoaaGreat
open Go Go.RowKit Go.Proofs
set_option maxRecDepth 100000
set_option maxHeartbeats 8000000

theorem atE_ok {M : MetD} {p t : Int} (h : atE M p t = 0) : M.Ok ∧ 0 ≤ t ∧ t ≤ 2000 := by
  unfold atE at h
  cases hb : M.bad
  · rw [hb, if_neg (by decide)] at h
    cases b1 : inB p 0 (M.places - 1)
    · rw [b1] at h; cases h
    · cases b2 : inB t 0 2000
      · rw [b1, b2] at h; cases h
      · exact ⟨MetD.ok_of hb, inB_iff.1 b2⟩
  · rw [hb, if_pos rfl] at h; cases h
end Go.Proofs.YtonfnhonbnfdoaaGreat

namespace Go.Proofs.YtonfnhonbnfdoaaGreat
open Go Go.RowKit Go.Proofs
set_option maxRecDepth 100000
set_option maxHeartbeats 8000000

/-- What the loop keeps. -/
structure FiK (M : MetD) (vF vS : Value) (lw ls lc : Int) (li lt : Bool) (w wr : World) : Prop where
  b : Below w.heap.size w wr
  m : Blk wr w.heap.size 29 #[.int .i64 M.places, .int .i64 M.any.a0, .int .i64 M.any.a1, .int .i64 M.any.a2, .int .i64 M.any.a3, .int .i64 M.any.a4, .int .i64 M.any.a5, .bool M.any.i, .bool M.any.s, .int .i64 M.mw, .int .i64 M.ms, .int .i64 M.mc, vF, vS]
  l : Blk wr (w.heap.size + 1) 31 #[.int .i64 lw, .int .i64 ls, .int .i64 lc, .bool li, .bool lt]
theorem FiK.grow {M : MetD} {vF vS : Value} {lw ls lc : Int} {li lt : Bool} {w wr w2 : World} (h : FiK M vF vS lw ls lc li lt w wr) (hb : Below wr.heap.size wr w2) : FiK M vF vS lw ls lc li lt w w2 :=
  ⟨bthen h.b hb, h.m.below hb, h.l.below hb⟩
end Go.Proofs.YtonfnhonbnfdoaaGreat

namespace Go.Proofs.YtonfnhonbnfdoaaGreat
open Go Go.RowKit Go.Proofs
set_option maxRecDepth 100000
set_option maxHeartbeats 8000000

theorem RecsAt.frame {w w' : World} {A : Option Addr} {n k : Nat} {V : Nat → Nat → Value} (h : RecsAt w A n k V) (hs : w.heap.size ≤ w'.heap.size) (hf : 0 < n → ∀ b off, A = some ⟨b, off, none⟩ → w'.heap[b]? = w.heap[b]?) : RecsAt w' A n k V := by
  intro hn
  obtain ⟨b, off, rfl, hb, hc⟩ := h hn
  refine ⟨b, off, rfl, by omega, fun i hi j hj => ?_⟩
  rw [← hc i hi j hj]
  exact World.cell?_of_block (w := w) (hf hn b off rfl)
theorem wpl_cp {ty sl : TypeId} {k : Nat} {V : Nat → Nat → Value} {ops : Array Oper} {rest : List Oper} {o : Oper} {a : Act} {w : World} {Q : Exit → Act → World → Prop} (hgd : o.guard = none) (s x : Operand)
    (hu : Tryz.prog.underlying sl = some (.slice ty)) (hi : (Tryz.prog.info? ty).map (fun i => (i.zero.map (·.cells.size), i.size, decide (i.bytes ≤ 200))) = some (some k, k, true)) (hk : 0 < k) (h1 : ∀ i j, (V i j).oneCell' = true)
    (ho : o.op = .call { callee := .builtin .append, args := #[s, x], argTypes := #[sl, sl] }) (g : Nat) (hs : a.eval s = .slice (some ⟨g, 0, none⟩) 0 0) (hgb : w.heap[g]? = some (.cells #[] ty (0, 0)))
    (A : Option Addr) (n c : Nat) (hx : a.eval x = .slice A n c) (hr : RecsAt w A n k V) (hn : n ≤ 50)
    (h : ∀ v' w', Hid (∃ A' c', v' = .slice A' n c' ∧ n ≤ c' ∧ c' ≤ 9223372036854775807 ∧ RecsAt w' A' n k V ∧ ∀ b, some b = v'.ownBlock → g ≤ b) → Hid (Below w.heap.size w w') → wpList Tryz.prog ops Q rest (a.put o.dst v') w') : wpList Tryz.prog ops Q (o :: rest) a w := by
  cases hI : Tryz.prog.info? ty with
  | none => rw [hI] at hi; cases hi
  | some i =>
    rw [hI] at hi
    simp only [Option.map_some, Option.some.injEq, Prod.mk.injEq, decide_eq_true_eq] at hi
    obtain ⟨i1, i2, i3⟩ := hi
    cases hz : i.zero with
    | none => rw [hz] at i1; cases i1
    | some z =>
      rw [hz] at i1
      simp only [Option.map_some, Option.some.injEq] at i1
      have hb : n * i.bytes ≤ 50 * 200 := Nat.mul_le_mul hn i3
      refine wpl_append_newk hgd s x sl ho ty i z k i.bytes hu hI hz i2 rfl i1 hk g hs hgb g (Nat.le_refl _) A n c hx _ hr.cells (fun q _ => h1 _ _) (by unfold maxLen; omega) (by omega) (fun v' w' ho' hbl => ?_)
      obtain ⟨A', c', e, q1, q2, q3⟩ := RecsAt.of_owns (V := V) hk ho'
      exact h v' w' ⟨A', c', e, q1, q2, q3, fun b hb => owns_base ho' hb⟩ hbl
theorem fcV_one (D : Nat → Nat → Int) (B : Nat → Nat → Bool) (i j : Nat) : (fcV D B i j).oneCell' = true := by unfold fcV; split <;> rfl
theorem siV_one (E : Nat → Nat → Int) (C : Nat → Nat → Bool) (i j : Nat) : (siV E C i j).oneCell' = true := by unfold siV; split <;> rfl
theorem Tryz.fcU : Tryz.prog.underlying 26 = some (.slice 68) := by kernel_rfl
theorem Tryz.siU : Tryz.prog.underlying 27 = some (.slice 71) := by kernel_rfl
theorem Tryz.fcI : (Tryz.prog.info? 68).map (fun i => (i.zero.map (·.cells.size), i.size, decide (i.bytes ≤ 200))) = some (some 12, 12, true) := by kernel_rfl
theorem Tryz.siI : (Tryz.prog.info? 71).map (fun i => (i.zero.map (·.cells.size), i.size, decide (i.bytes ≤ 200))) = some (some 7, 7, true) := by kernel_rfl

def MetD.far (M : MetD) : Bool := decide (50 < M.n) || decide (30 < M.m)
theorem wFar_c (M : MetD) (vF vS : Value) (w : World) (hA : MetAt w vF vS M) :
   Calls Tryz.prog 31 #[.agg #[.int .i64 M.places, .int .i64 M.any.a0, .int .i64 M.any.a1, .int .i64 M.any.a2, .int .i64 M.any.a3, .int .i64 M.any.a4, .int .i64 M.any.a5, .bool M.any.i, .bool M.any.s, .int .i64 M.mw, .int .i64 M.ms, .int .i64 M.mc, vF, vS]] w fun e w' => e = .returned (.bool M.far) ∧ Below w.heap.size w w' := by
  obtain ⟨⟨A, cF, rfl, hF1, hF2, -⟩, ⟨A2, cS, rfl, hS1, hS2, -⟩⟩ := hA
  unfold MetD.far
  by_cases h1 : 50 < M.n
  · have h1z : (50 : Int) < (M.n : Int) := by omega
    rw [show decide (50 < M.n) = true from decide_eq_true h1, Bool.true_or]
    go_enter Tryz.func31, Tryz.ntmps31
    go_wp2
    go_ret
    exact ⟨rfl, (by repeat' (first | exact Below.refl _ _ | assumption | refine Below.drew ?_ | refine bdn ?_ _ | refine bal ?_ _ | refine Below.setCell ?_ (by first | (simp; done) | omega | (simp; omega)) _))⟩
  · have h1z : ¬ (50 : Int) < (M.n : Int) := by omega
    rw [show decide (50 < M.n) = false from decide_eq_false h1, Bool.false_or]
    by_cases h2 : 30 < M.m
    · have h2z : (30 : Int) < (M.m : Int) := by omega
      rw [show decide (30 < M.m) = true from decide_eq_true h2]
      go_enter Tryz.func31, Tryz.ntmps31
      go_wp2
      go_ret
      exact ⟨rfl, (by repeat' (first | exact Below.refl _ _ | assumption | refine Below.drew ?_ | refine bdn ?_ _ | refine bal ?_ _ | refine Below.setCell ?_ (by first | (simp; done) | omega | (simp; omega)) _))⟩
    · have h2z : ¬ (30 : Int) < (M.m : Int) := by omega
      rw [show decide (30 < M.m) = false from decide_eq_false h2]
      go_enter Tryz.func31, Tryz.ntmps31
      go_wp2
      go_ret
      exact ⟨rfl, (by repeat' (first | exact Below.refl _ _ | assumption | refine Below.drew ?_ | refine bdn ?_ _ | refine bal ?_ _ | refine Below.setCell ?_ (by first | (simp; done) | omega | (simp; omega)) _))⟩
theorem Tryz.sizeMet : (Tryz.prog.info? 29).map (·.size) = some 14 := by kernel_rfl
theorem oneM (M : MetD) (A A' : Option Addr) (n c n' c' : Nat) : (#[.int .i64 M.places, .int .i64 M.any.a0, .int .i64 M.any.a1, .int .i64 M.any.a2, .int .i64 M.any.a3, .int .i64 M.any.a4, .int .i64 M.any.a5, .bool M.any.i, .bool M.any.s, .int .i64 M.mw, .int .i64 M.ms, .int .i64 M.mc, .slice A n c, .slice A' n' c'] : Array Value).all (·.oneCell') = true := by simp [Value.oneCell']
theorem wCopy_c (M : MetD) (vF vS : Value) (w : World) (hA : MetAt w vF vS M) (hn : M.far = false) :
   Calls Tryz.prog 13 #[.agg #[.int .i64 M.places, .int .i64 M.any.a0, .int .i64 M.any.a1, .int .i64 M.any.a2, .int .i64 M.any.a3, .int .i64 M.any.a4, .int .i64 M.any.a5, .bool M.any.i, .bool M.any.s, .int .i64 M.mw, .int .i64 M.ms, .int .i64 M.mc, vF, vS]] w fun e w' => ∃ vF' vS', e = .returned (.agg #[.int .i64 M.places, .int .i64 M.any.a0, .int .i64 M.any.a1, .int .i64 M.any.a2, .int .i64 M.any.a3, .int .i64 M.any.a4, .int .i64 M.any.a5, .bool M.any.i, .bool M.any.s, .int .i64 M.mw, .int .i64 M.ms, .int .i64 M.mc, vF', vS']) ∧ Below w.heap.size w w' ∧ MetAt w' vF' vS' M ∧ (∀ b, some b = vF'.ownBlock → w.heap.size ≤ b) ∧ ∀ b, some b = vS'.ownBlock → w.heap.size ≤ b := by
  unfold MetD.far at hn
  simp only [Bool.or_eq_false_iff, decide_eq_false_iff_not] at hn
  have hn1 : M.n ≤ 50 := by omega
  have hn2 : M.m ≤ 50 := by omega
  have HA := Lib.hid hA
  obtain ⟨⟨A, cF, rfl, hF1, hF2, hrF⟩, ⟨A2, cS, rfl, hS1, hS2, hrS⟩⟩ := hA
  have HF := Lib.hid hrF
  have HS := Lib.hid hrS
  clear hn hrF hrS
  go_enter Tryz.func13, Tryz.ntmps13
  go_wp2_with (first | (at_builtin; refine wpl_cp rfl _ _ Tryz.fcU Tryz.fcI (by omega) (fcV_one M.D M.B) rfl _ rfl (Blk.newA _ _ _ (by simp)) A M.n cF rfl (HF.out.below (by repeat' (first | exact Below.refl _ _ | assumption | refine Below.drew ?_ | refine bdn ?_ _ | refine bal ?_ _ | refine Below.setCell ?_ (by first | (simp; done) | omega | (simp; omega)) _))) hn1 ?_))
  intro v1 w1 hq hbh
  have hb1 := hbh.out
  obtain ⟨A3, c3, rfl, q1, q2, q3, q4⟩ := hq.out
  clear hbh hq
  have HX := Lib.hid (Blk.under ((((Blk.newA (g := w.heap.size) w 29 #[.int .i64 M.places, .int .i64 M.any.a0, .int .i64 M.any.a1, .int .i64 M.any.a2, .int .i64 M.any.a3, .int .i64 M.any.a4, .int .i64 M.any.a5, .bool M.any.i, .bool M.any.s, .int .i64 M.mw, .int .i64 M.ms, .int .i64 M.mc, .slice A M.n cF, .slice A2 M.m cS] rfl).alloc _).alloc _).alloc _) hb1 (by omega))
  have HR := Lib.hid (Blk.under (((Blk.newA (g := w.heap.size + 1) (w.alloc _) 29 #[.int .i64 0, .int .i64 0, .int .i64 0, .int .i64 0, .int .i64 0, .int .i64 0, .int .i64 0, .bool false, .bool false, .int .i64 0, .int .i64 0, .int .i64 0, .slice none 0 0, .slice none 0 0] (by simp)).alloc _).alloc _) hb1 (by omega))
  have HO := Lib.hid (Blk.under ((Blk.newA (g := w.heap.size + 1 + 1) ((w.alloc _).alloc _) 29 #[.int .i64 M.places, .int .i64 M.any.a0, .int .i64 M.any.a1, .int .i64 M.any.a2, .int .i64 M.any.a3, .int .i64 M.any.a4, .int .i64 M.any.a5, .bool M.any.i, .bool M.any.s, .int .i64 M.mw, .int .i64 M.ms, .int .i64 M.mc, .slice A M.n cF, .slice A2 M.m cS] (by simp)).alloc _) hb1 (by omega))
  have HB := Lib.hid ((show Below w.heap.size w _ from (by repeat' (first | exact Below.refl _ _ | assumption | refine Below.drew ?_ | refine bdn ?_ _ | refine bal ?_ _ | refine Below.setCell ?_ (by first | (simp; done) | omega | (simp; omega)) _))).trans (hb1.mono (by omega)))
  have hz1 : w.heap.size + 1 + 1 + 1 + 1 ≤ w1.heap.size := by have := hb1.size; simpa using this
  have Q3 := Lib.hid q3
  clear q3 hb1
  have x13 := HX.out.cell 13
  have o12 := HO.out.cell 12
  have f12 := HO.out.frozen 12
  simp only [List.getElem?_toArray, List.getElem?_cons_succ, List.getElem?_cons_zero] at x13 o12
  have hz2 : w.heap.size < w1.heap.size := by omega
  have hz3 : w.heap.size + 1 < w1.heap.size := by omega
  have hz4 : w.heap.size + 1 + 1 < w1.heap.size := by omega
  have HS1 := Lib.hid (HS.out.below HB.out)
  have Q4 := Lib.hid q4
  have HZ := Lib.hid hz1
  clear q4 hz1
  have W1 := Lib.hid (RecsAt.frame (w' := w1.setCell ⟨w.heap.size + 1 + 1, 12, none⟩ (.slice A3 M.n c3)) Q3.out (by simp [World.setCell]) (fun _ b off e => Below.heap_setCell _ _ _ _ (by have := Q4.out b (by rw [e]; rfl); show b ≠ w.heap.size + 1 + 1; omega)))
  have HS2 := Lib.hid (RecsAt.frame (w' := w1.setCell ⟨w.heap.size + 1 + 1, 12, none⟩ (.slice A3 M.n c3)) HS1.out (by simp [World.setCell]) (fun h0 b off e => Below.heap_setCell _ _ _ _ (by
    obtain ⟨b', off', e', hlt, -⟩ := HS.out h0
    rw [e] at e'
    simp only [Option.some.injEq, Addr.mk.injEq] at e'
    show b ≠ w.heap.size + 1 + 1
    omega)))
  go_wp2_with (first | (at_builtin; refine wpl_cp rfl _ _ Tryz.siU Tryz.siI (by omega) (siV_one M.E M.C) rfl _ rfl (Blk.newA _ _ _ (by simp [World.setCell])) A2 M.m cS rfl (HS2.out.below (bal (Below.refl _ _) _)) hn2 ?_))
  intro v2 w2 hq2 hbh2
  have hb2 := hbh2.out
  obtain ⟨A5, c5, rfl, p1, p2, p3, p4⟩ := hq2.out
  clear hbh2 hq2 x13 o12 f12 HX HS HS1 HS2 HF
  have hsz : (w1.setCell ⟨w.heap.size + 1 + 1, 12, none⟩ (.slice A3 M.n c3)).heap.size = w1.heap.size := by simp [World.setCell]
  have HO2 := Lib.hid (((HO.out.set_ 12 (.slice A3 M.n c3)).alloc (.cells #[] 71)).under hb2 (by simp [World.setCell] at *; omega))
  have HR2 := Lib.hid (((HR.out.far' (f := w.heap.size + 1 + 1) (by omega) (i := 12) (.slice A3 M.n c3)).alloc (.cells #[] 71)).under hb2 (by simp [World.setCell] at *; omega))
  have HB2 := Lib.hid ((bal (bset HB.out (g := w.heap.size + 1 + 1) (by omega) (i := 12) (.slice A3 M.n c3)) (.cells #[] 71)).trans (hb2.mono (by simp [World.setCell] at *; omega)))
  have hz5 : w1.heap.size ≤ w2.heap.size := by have := hb2.size; simp [World.setCell] at this; omega
  have R3 := Lib.hid ((W1.out.below (bal (Below.refl _ _) (.cells #[] 71))).below (hb2.mono (by simp [World.setCell])))
  have P3 := Lib.hid p3
  have P4 := Lib.hid (show ∀ b, some b = (Value.slice A5 M.m c5).ownBlock → w1.heap.size ≤ b from p4)
  have o13 := HO2.out.cell 13
  have f13 := HO2.out.frozen 13
  have HO3 := Lib.hid (show Blk (w2.setCell ⟨w.heap.size + 1 + 1, 13, none⟩ (.slice A5 M.m c5)) (w.heap.size + 1 + 1) 29 #[.int .i64 M.places, .int .i64 M.any.a0, .int .i64 M.any.a1, .int .i64 M.any.a2, .int .i64 M.any.a3, .int .i64 M.any.a4, .int .i64 M.any.a5, .bool M.any.i, .bool M.any.s, .int .i64 M.mw, .int .i64 M.ms, .int .i64 M.mc, .slice A3 M.n c3, .slice A5 M.m c5] from HO2.out.set_ 13 (.slice A5 M.m c5))
  have HR3 := Lib.hid (HR2.out.far' (f := w.heap.size + 1 + 1) (by omega) (i := 13) (.slice A5 M.m c5))
  simp only [List.setIfInBounds_toArray, List.set_cons_succ, List.set_cons_zero, List.getElem?_toArray, List.getElem?_cons_succ, List.getElem?_cons_zero] at o13
  clear hb2 p3 p4 W1 HO HR HB HO2 HR2 hsz Q3
  go_wp2_with (first | (refine wpl_row rfl 29 _ rfl _ rfl #[.int .i64 M.places, .int .i64 M.any.a0, .int .i64 M.any.a1, .int .i64 M.any.a2, .int .i64 M.any.a3, .int .i64 M.any.a4, .int .i64 M.any.a5, .bool M.any.i, .bool M.any.s, .int .i64 M.mw, .int .i64 M.ms, .int .i64 M.mc, .slice A3 M.n c3, .slice A5 M.m c5] 14 HO3.out Tryz.rowMet rfl ?_; simp only [Act.put]) | (refine wpList_store_row rfl 29 _ _ rfl (w.heap.size + 1) #[.int .i64 M.places, .int .i64 M.any.a0, .int .i64 M.any.a1, .int .i64 M.any.a2, .int .i64 M.any.a3, .int .i64 M.any.a4, .int .i64 M.any.a5, .bool M.any.i, .bool M.any.s, .int .i64 M.mw, .int .i64 M.ms, .int .i64 M.mc, .slice A3 M.n c3, .slice A5 M.m c5] rfl rfl 29 #[.int .i64 0, .int .i64 0, .int .i64 0, .int .i64 0, .int .i64 0, .int .i64 0, .int .i64 0, .bool false, .bool false, .int .i64 0, .int .i64 0, .int .i64 0, .slice none 0 0, .slice none 0 0] HR3.out Tryz.sizeMet rfl (oneM M A3 A5 M.n c3 M.m c5) ?_; simp only [Act.put]))
  have fr : ∀ b, w.heap.size + 1 + 1 + 1 ≤ b → ((w2.setCell ⟨w.heap.size + 1 + 1, 13, none⟩ (.slice A5 M.m c5)).setRow (w.heap.size + 1) #[.int .i64 M.places, .int .i64 M.any.a0, .int .i64 M.any.a1, .int .i64 M.any.a2, .int .i64 M.any.a3, .int .i64 M.any.a4, .int .i64 M.any.a5, .bool M.any.i, .bool M.any.s, .int .i64 M.mw, .int .i64 M.ms, .int .i64 M.mc, .slice A3 M.n c3, .slice A5 M.m c5]).heap[b]? = w2.heap[b]? := fun b hb => by
    rw [setRow_other _ _ _ _ (by omega)]
    exact Below.heap_setCell _ _ _ _ (by show b ≠ w.heap.size + 1 + 1; omega)
  refine bodyPost_ret (res_c rfl _ _ _ 14 rfl (setRow_heap _ _ _ _ _ _ HR3.out) Tryz.rowMet rfl) rfl ⟨_, _, rfl, rowBelow (bset HB2.out (by omega) _) (by omega) _, ⟨⟨A3, c3, rfl, q1, q2, ?_⟩, ⟨A5, c5, rfl, p1, p2, ?_⟩⟩, fun b hb => by have := Q4.out b hb; omega, fun b hb => by have := P4.out b hb; omega⟩
  · exact R3.out.frame (by simp [World.setRow, World.setCell]) (fun _ b off e => fr b (by have := Q4.out b (by rw [e]; rfl); omega))
  · exact P3.out.frame (by simp [World.setRow, World.setCell]) (fun _ b off e => fr b (by have := P4.out b (by rw [e]; rfl); omega))

/-- A met under a store into a block that it does not lie in. -/
theorem MetAt.setRow {w : World} {vF vS : Value} {M : MetD} (h : MetAt w vF vS M) {g : Nat} (h1 : ∀ b, some b = vF.ownBlock → b ≠ g) (h2 : ∀ b, some b = vS.ownBlock → b ≠ g) (us : Array Value) : MetAt (w.setRow g us) vF vS M := by
  obtain ⟨⟨A, c, rfl, q1, q2, q3⟩, ⟨A', c', rfl, k1, k2, k3⟩⟩ := h
  exact ⟨⟨A, c, rfl, q1, q2, q3.frame (by simp [World.setRow]) (fun _ b off e => setRow_other _ _ _ _ (h1 b (by rw [e]; rfl)))⟩, ⟨A', c', rfl, k1, k2, k3.frame (by simp [World.setRow]) (fun _ b off e => setRow_other _ _ _ _ (h2 b (by rw [e]; rfl)))⟩⟩
end Go.Proofs.YtonfnhonbnfdoaaGreat
