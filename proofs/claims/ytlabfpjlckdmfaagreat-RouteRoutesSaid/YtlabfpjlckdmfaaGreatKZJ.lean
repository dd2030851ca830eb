/- Texts joined: KZJ. -/
import Derived.Test.YtlabfpjlckdmfaaGreatKAR
import Derived.Test.YtlabfpjlckdmfaaGreatKAO
set_option linter.all false
namespace Go.Proofs.YtlabfpjlckdmfaaGreat
open Go Go.RowKit Go.Proofs
set_option maxRecDepth 100000
set_option maxHeartbeats 8000000
def MetD.keyF (M : MetD) (i : Nat) : Int := M.D i 3
structure CvK (M : MetD) (vF vS : Value) (p t : Int) (w : World) (k : Nat) (v : Value) (wr : World) : Prop where
 b : RowKit.Below w.heap.size w wr
 m : Blk wr w.heap.size 29 #[.int .i64 M.places, .int .i64 M.any.a0, .int .i64 M.any.a1, .int .i64 M.any.a2, .int .i64 M.any.a3, .int .i64 M.any.a4, .int .i64 M.any.a5, .bool M.any.i, .bool M.any.s, .int .i64 M.mw, .int .i64 M.ms, .int .i64 M.mc, vF, vS]
 o : wr.ownsRow (w.heap.size + 1) 3 1 v (stab M.keyF (M.cov p t k)).length ((stab M.keyF (M.cov p t k)).map encN)
 n : v = .slice none 0 0 ↔ M.cov p t k = []
 z : w.heap.size + 1 ≤ wr.heap.size
theorem CvK.grow {M : MetD} {vF vS : Value} {p t : Int} {w : World} {k : Nat} {v : Value} {wr w2 : World} (h : CvK M vF vS p t w k v wr) (hb : RowKit.Below wr.heap.size wr w2) : CvK M vF vS p t w k v w2 :=
 ⟨bthen h.b hb, h.m.below hb, ownsRow_below h.o hb, h.n, Nat.le_trans h.z hb.size⟩
theorem CvK.skip {M : MetD} {vF vS : Value} {p t : Int} {w : World} {k : Nat} {v : Value} {wr : World} (h : CvK M vF vS p t w k v wr) (hc : M.covP p t k = false) : CvK M vF vS p t w (k + 1) v wr := by
 have e : M.cov p t (k + 1) = M.cov p t k := by rw [M.cov_succ, hc]; simp
 exact ⟨h.b, h.m, by rw [e]; exact h.o, by rw [e]; exact h.n, h.z⟩
theorem CvK.put {M : MetD} {vF vS : Value} {p t : Int} {w : World} {k n1 : Nat} {v : Value} {wr : World} {a b : List Nat} (hc : M.covP p t k = true) (hI : Ins M.keyF (stab M.keyF (M.cov p t k)) k a b) (ha : a = [] ∨ ∃ a' y, a = a' ++ [y] ∧ M.keyF y ≤ M.keyF k)
  (hb : RowKit.Below w.heap.size w wr) (hm : Blk wr w.heap.size 29 #[.int .i64 M.places, .int .i64 M.any.a0, .int .i64 M.any.a1, .int .i64 M.any.a2, .int .i64 M.any.a3, .int .i64 M.any.a4, .int .i64 M.any.a5, .bool M.any.i, .bool M.any.s, .int .i64 M.mw, .int .i64 M.ms, .int .i64 M.mc, vF, vS]) (ho : wr.ownsRow (w.heap.size + 1) 3 1 v n1 ((a ++ k :: b).map encN)) (hv : v ≠ .slice none 0 0) : CvK M vF vS p t w (k + 1) v wr := by
 have ec : M.cov p t (k + 1) = M.cov p t k ++ [k] := by rw [M.cov_succ, hc]; rfl
 have e : stab M.keyF (M.cov p t (k + 1)) = a ++ k :: b := by
  rw [ec]; exact ins_done hI.s (fun j hj => M.cov_lt hj) hI.b ha
 have hn : n1 = (a ++ k :: b).length := by have := ho.1; simpa using this.symm
 exact ⟨hb, hm, by rw [e, ← hn]; exact ho, by rw [ec]; simp [hv], hm.lt⟩
theorem yields_move {P : Program} {ops : Array Oper} {o : Oper} {a : Act} (hg : o.guard = none) (x : Operand) (ho : o.op = .move x) (v : Value) (hx : a.eval x = v) : Yields P ops o v a := by
 refine .inl ⟨by simp [Region.wanted, hg], fun w => ?_⟩
 simp only [execOp, ho, hx]
 simp [Sem.run_pure]
theorem yields_sub {P : Program} {ops : Array Oper} {o : Oper} {a : Act} (hg : o.guard = none) (t u : TypeId) (x y : Operand) (ho : o.op = .binOp .sub t x y u) (n : Nat) (hx : a.eval x = .int .i64 ((n : Int) + 1)) (hy : a.eval y = .int .i64 1) (hn : n ≤ 1000) : Yields P ops o (.int .i64 n) a := by
 refine .inl ⟨by simp [Region.wanted, hg], fun w => ?_⟩
 simp only [execOp, ho, hx, hy]
 simp [go_sem]
 rw [IntKind.wrap_i64]
 omega
theorem swap_list (a b : List Nat) (y k : Nat) : ((a ++ [y] ++ k :: b).set (a.length + 1) y).set a.length k = a ++ k :: y :: b := by
 simp [List.set_append_right]
def CvJ (M : MetD) (vF vS : Value) (w wr : World) (g c n : Nat) (l : List Nat) : Prop :=
 RowKit.Below w.heap.size w wr ∧ Blk wr w.heap.size 29 #[.int .i64 M.places, .int .i64 M.any.a0, .int .i64 M.any.a1, .int .i64 M.any.a2, .int .i64 M.any.a3, .int .i64 M.any.a4, .int .i64 M.any.a5, .bool M.any.i, .bool M.any.s, .int .i64 M.mw, .int .i64 M.ms, .int .i64 M.mc, vF, vS] ∧ wr.ownsRow (w.heap.size + 1) 3 1 (.slice (some ⟨g, 0, none⟩) n c) n (l.map encN)
theorem CvJ.grow {M : MetD} {vF vS : Value} {w wr w2 : World} {g c n : Nat} {l : List Nat} (h : CvJ M vF vS w wr g c n l) (hb : RowKit.Below wr.heap.size wr w2) : CvJ M vF vS w w2 g c n l :=
 ⟨bthen h.1 hb, h.2.1.below hb, ownsRow_below h.2.2 hb⟩
theorem CvJ.set {M : MetD} {vF vS : Value} {w wr : World} {g c n i : Nat} {l : List Nat} (h : CvJ M vF vS w wr g c n l) (hi : i < n) (y : Nat) : CvJ M vF vS w (wr.setCell ⟨g, i, none⟩ (encN y)) g c n (l.set i y) := by
 have hg : w.heap.size + 1 ≤ g := owns_base h.2.2 rfl
 refine ⟨bset h.1 (by omega) _, h.2.1.far' (by omega) _, ?_⟩
 have := owns_set h.2.2 (i := i) (by omega) (encN y)
 rw [← List.map_set] at this
 exact this
def swR (w0 : Nat) (S : Value) (g n y x : Nat) : Nat → Value → World → Prop
 | 0, v, _ => v = S
 | 1, v, _ => v = .int .i64 ((n : Int) + 1)
 | 2, v, _ => v = S
 | 3, v, _ => v = .int .i64 ((n : Int) + 1)
 | 4, v, _ => v = .int .i64 (n : Int)
 | 5, v, _ => v = S
 | 6, v, _ => v = .int .i64 ((n : Int) + 1)
 | 7, v, _ => v = .int .i64 (n : Int)
 | 8, v, _ => v = .pointer (some ⟨g, n, none⟩)
 | 9, v, _ => v = .int .i64 (y : Int)
 | 10, v, _ => v = S
 | 11, v, _ => v = .int .i64 ((n : Int) + 1)
 | 12, v, _ => v = .pointer (some ⟨g, n + 1, none⟩)
 | 13, v, _ => v = .int .i64 (x : Int)
 | _, _, _ => True
theorem swR_below {w0 : Nat} {S : Value} {g n y x : Nat} (k : Nat) (v : Value) (w w' : World) (hb : Below w.heap.size w w') (h : swR w0 S g n y x k v w) : swR w0 S g n y x k v w' := by
 unfold swR at *
 split at h <;> first | exact h
theorem rw_covers_c (M : MetD) (vF vS : Value) (p t : Int) (w : World) (hM : M.Ok) (hA : MetAt w vF vS M) :
  Calls Tryz.prog 124 #[.agg #[.int .i64 M.places, .int .i64 M.any.a0, .int .i64 M.any.a1, .int .i64 M.any.a2, .int .i64 M.any.a3, .int .i64 M.any.a4, .int .i64 M.any.a5, .bool M.any.i, .bool M.any.s, .int .i64 M.mw, .int .i64 M.ms, .int .i64 M.mc, vF, vS], .int .i64 p, .int .i64 t] w fun e w' => ∃ v, e = .returned v ∧ RowKit.Below w.heap.size w w' ∧ w'.ownsRow (w.heap.size + 1) 3 1 v (M.ordF p t).length ((M.ordF p t).map encN) ∧ (v = .slice none 0 0 ↔ M.ordF p t = []) := by
 have HM := hI9 hM
 have HA := hI9 hA
 obtain ⟨⟨A, cF, rfl, hF1, hF2, -⟩, ⟨A2, cS, rfl, hS1, hS2, -⟩⟩ := hA
 clear hM
 go_enter Tryz.func124, Tryz.ntmps124
 go_wp2_with (fail)
 have _x := frm1 w #[.int .i64 M.places, .int .i64 M.any.a0, .int .i64 M.any.a1, .int .i64 M.any.a2, .int .i64 M.any.a3, .int .i64 M.any.a4, .int .i64 M.any.a5, .bool M.any.i, .bool M.any.s, .int .i64 M.mw, .int .i64 M.ms, .int .i64 M.mc, .slice A M.n cF, .slice A2 M.m cS] 29
 have HX := hI9 _x.1
 have HB := hI9 _x.2.1
 have zW := _x.2.2
 clear _x
 generalize World.alloc w _ = W at *
 have L0 := hI9 (show CvK M (.slice A M.n cF) (.slice A2 M.m cS) p t w 0 (.slice none 0 0) W from ⟨HB.out, HX.out, by rw [show stab M.keyF (M.cov p t 0) = [] from by simp [MetD.cov, stab_nil]]; exact World.ownsRow_nil _ _ _ _, by simp [MetD.cov], HX.out.lt⟩)
 clear HX HB
 go_wp2_with (fail)
 go_loopg [7, 8] M.n (fun gx v i wr => ∃ k : Nat, i = .int .i64 k ∧ k ≤ M.n ∧ M.n - k ≤ gx ∧ Hid (CvK M (.slice A M.n cF) (.slice A2 M.m cS) p t w k v wr))
 case atStart => exact ⟨0, rfl, Nat.zero_le _, Nat.le_refl _, L0⟩
 case round =>
  clear L0
  obtain ⟨k, rfl, hk, hgx, L0⟩ := hrel
  have m12 := L0.out.m.cell 12
  simp only [gtA, gtS, gtZ] at m12
  by_cases hlt : k < M.n
  ·have hltz : (k : Int) < (M.n : Int) := by omega
   obtain ⟨A', c', hA', -, -, hrec⟩ := HA.out.f
   simp only [Value.slice.injEq] at hA'
   obtain ⟨rfl, -, rfl⟩ := hA'
   obtain ⟨bf, off, rfl, hbf, hcell⟩ := hrec (by omega)
   have HR0 := hI9 hcell
   have hcr : ∀ j, j < 12 → wr.cell? ⟨bf, off + k * 12 + j, none⟩ = some (fcV M.D M.B k j) := fun j hj => (L0.out.b.cell (p := ⟨bf, off + k * 12 + j, none⟩) hbf).trans (hcell k hlt j hj)
   have c0 : wr.cell? ⟨bf, off + k * 12, none⟩ = some (.int .i64 (M.D k 0)) := hcr 0 (by omega)
   have c1 : wr.cell? ⟨bf, off + k * 12 + 1, none⟩ = some (.int .i64 (M.D k 1)) := hcr 1 (by omega)
   have c2 : wr.cell? ⟨bf, off + k * 12 + 2, none⟩ = some (.int .i64 (M.D k 2)) := hcr 2 (by omega)
   have c3 : wr.cell? ⟨bf, off + k * 12 + 3, none⟩ = some (.int .i64 (M.D k 3)) := hcr 3 (by omega)
   have c4 : wr.cell? ⟨bf, off + k * 12 + 4, none⟩ = some (.int .i64 (M.D k 4)) := hcr 4 (by omega)
   have c5 : wr.cell? ⟨bf, off + k * 12 + 5, none⟩ = some (.int .i64 (M.D k 5)) := hcr 5 (by omega)
   have c6 : wr.cell? ⟨bf, off + k * 12 + 6, none⟩ = some (.int .i64 (M.D k 6)) := hcr 6 (by omega)
   have c7 : wr.cell? ⟨bf, off + k * 12 + 7, none⟩ = some (.int .i64 (M.D k 7)) := hcr 7 (by omega)
   have c8 : wr.cell? ⟨bf, off + k * 12 + 8, none⟩ = some (.int .i64 (M.D k 8)) := hcr 8 (by omega)
   have c9 : wr.cell? ⟨bf, off + k * 12 + 9, none⟩ = some (.int .i64 (M.D k 9)) := hcr 9 (by omega)
   have c10 : wr.cell? ⟨bf, off + k * 12 + 10, none⟩ = some (.bool (M.B k 10)) := hcr 10 (by omega)
   have c11 : wr.cell? ⟨bf, off + k * 12 + 11, none⟩ = some (.bool (M.B k 11)) := hcr 11 (by omega)
   have ft := HM.out.ft k hlt
   have hkk : k ≤ 40 := by have := HM.out.n; omega
   clear hcr hcell hrec
   have hz := L0.out.z
   cases hcp : M.covP p t k with
   | false =>
    have L2 := hI9 ((L0.out.grow (bal (RowKit.Below.refl _ _) (.cells #[.int .i64 (M.D k 0), .int .i64 (M.D k 1), .int .i64 (M.D k 2), .int .i64 (M.D k 3), .int .i64 (M.D k 4), .int .i64 (M.D k 5), .int .i64 (M.D k 6), .int .i64 (M.D k 7), .int .i64 (M.D k 8), .int .i64 (M.D k 9), .bool (M.B k 10), .bool (M.B k 11)] 98))).skip hcp)
    unfold MetD.covP at hcp
    by_cases hp : M.D k 0 = p
    ·have e0 : (M.D k 0 != p) = false := by simp [hp]
     rw [show decide (M.D k 0 = p) = true by simp [hp], Bool.true_and] at hcp
     have hin : ¬ (M.D k 1 ≤ t ∧ t ≤ M.D k 2 - 1) := fun h => by rw [inB_iff.2 h] at hcp; cases hcp
     by_cases h1 : t < M.D k 1
     ·clear hcp hin L0 hp
      go_wp2_with (fail)
      go_roundg (M.n - (k + 1))
      case measure => omega
      case rel => exact ⟨k + 1, by first | rfl | go_num | (congr 1; omega), by omega, Nat.le_refl _, L2⟩
     ·have h2 : M.D k 2 ≤ t := by omega
      clear hcp hin L0 hp
      go_wp2_with (fail)
      go_roundg (M.n - (k + 1))
      case measure => omega
      case rel => exact ⟨k + 1, by first | rfl | go_num | (congr 1; omega), by omega, Nat.le_refl _, L2⟩
    ·have e0 : (M.D k 0 != p) = true := by simp [hp]
     clear hcp L0 hp
     go_wp2_with (fail)
     go_roundg (M.n - (k + 1))
     case measure => omega
     case rel => exact ⟨k + 1, by first | rfl | go_num | (congr 1; omega), by omega, Nat.le_refl _, L2⟩
   | true =>
    have hcp2 := hcp
    unfold MetD.covP at hcp2
    simp only [Bool.and_eq_true, decide_eq_true_eq, inB_iff] at hcp2
    have e0 : (M.D k 0 != p) = false := by simp [hcp2.1]
    have h1 : ¬ t < M.D k 1 := by omega
    have h2 : ¬ M.D k 2 ≤ t := by omega
    have HC := hI9 hcp
    clear hcp hcp2
    have HL := hI9 (show (stab M.keyF (M.cov p t k)).length ≤ 40 from by have := M.cov_len p t k; unfold stab; rw [List.length_mergeSort]; omega)
    go_wp2_with (first | (at_builtin; go_loud (refine wpl_appN rfl _ _ rfl (w.heap.size + 1) _ (stab M.keyF (M.cov p t k)) rfl ((ownsRow_below L0.out.o (bal (RowKit.Below.refl _ _) _)) |> fun h => ownsRow_below h (bal (RowKit.Below.refl _ _) _)) _ k rfl ?c1 (by have := HL.out; omega) ?c2 ?_)))
    case c1 => simp [encN]
    case c2 => first | omega | (simp; omega)
    ·intro v2 w2 O2 B2 N2
     rcases O2.2 with ⟨rfl, -⟩ | ⟨g, cc, cur, rfl, hg0, -, hc0, hc1, -⟩
     ·exact absurd rfl N2
     have hO := hI9 (show w2.ownsRow (w.heap.size + 1) 3 1 (.slice (some ⟨g, 0, none⟩) ((stab M.keyF (M.cov p t k)).length + 1) cc) ((stab M.keyF (M.cov p t k)).length + 1) ((stab M.keyF (M.cov p t k) ++ [k]).map encN) from by simpa using O2)
     clear O2 N2
     have hb2 := below_grown B2 (show w.heap.size + 1 ≤ _ from by first | omega | (simp; omega)) (fun b hb => owns_base L0.out.o hb)
     have KB : RowKit.Below w.heap.size w w2 := (bthen L0.out.b (bal (bal (RowKit.Below.refl _ _) _) _)).trans (hb2.mono (by omega))
     have KM : Blk w2 w.heap.size 29 #[.int .i64 M.places, .int .i64 M.any.a0, .int .i64 M.any.a1, .int .i64 M.any.a2, .int .i64 M.any.a3, .int .i64 M.any.a4, .int .i64 M.any.a5, .bool M.any.i, .bool M.any.s, .int .i64 M.mw, .int .i64 M.ms, .int .i64 M.mc, .slice (some ⟨bf, off, none⟩) M.n cF, .slice A2 M.m cS] := ((L0.out.m.alloc _).alloc _).under hb2 (by omega)
     have hrc : ∀ q, q < M.n → ∀ w3, RowKit.Below w.heap.size w w3 → w3.cell? ⟨bf, off + q * 12 + 3, none⟩ = some (.int .i64 (M.D q 3)) := fun q hq w3 hb3 => (hb3.cell (p := ⟨bf, off + q * 12 + 3, none⟩) hbf).trans (HR0.out q hq 3 (by omega))
     have HRC := hI9 hrc
     have HLT := hI9 (show ∀ y ∈ stab M.keyF (M.cov p t k), y < k from fun y hy => M.cov_lt (stab_mem.1 hy))
     generalize hs : stab M.keyF (M.cov p t k) = s at *
     have HS := hI9 hs
     have K0 := hI9 (show RowKit.Below w.heap.size w w2 ∧ Blk w2 w.heap.size 29 #[.int .i64 M.places, .int .i64 M.any.a0, .int .i64 M.any.a1, .int .i64 M.any.a2, .int .i64 M.any.a3, .int .i64 M.any.a4, .int .i64 M.any.a5, .bool M.any.i, .bool M.any.s, .int .i64 M.mw, .int .i64 M.ms, .int .i64 M.mc, .slice (some ⟨bf, off, none⟩) M.n cF, .slice A2 M.m cS] ∧ w2.ownsRow (w.heap.size + 1) 3 1 (.slice (some ⟨g, 0, none⟩) (s.length + 1) cc) (s.length + 1) ((s ++ k :: []).map encN) from ⟨KB, KM, hO.out⟩)
     have hs40 : s.length ≤ 40 := HL.out
     clear hrc hs hO KB KM hb2 B2 L0 hc0 hc1 c0 c1 c2 c3 c4 c5 c6 c7 c8 c9 c10 c11 m12
     go_wp2_with (fail)
     go_loopg [10] s.length (fun gy vj wr2 => ∃ (a b : List Nat), vj = .int .i64 (a.length : Nat) ∧ a.length ≤ gy ∧ Hid (Ins M.keyF s k a b) ∧ Hid (RowKit.Below w.heap.size w wr2 ∧ Blk wr2 w.heap.size 29 #[.int .i64 M.places, .int .i64 M.any.a0, .int .i64 M.any.a1, .int .i64 M.any.a2, .int .i64 M.any.a3, .int .i64 M.any.a4, .int .i64 M.any.a5, .bool M.any.i, .bool M.any.s, .int .i64 M.mw, .int .i64 M.ms, .int .i64 M.mc, .slice (some ⟨bf, off, none⟩) M.n cF, .slice A2 M.m cS] ∧ wr2.ownsRow (w.heap.size + 1) 3 1 (.slice (some ⟨g, 0, none⟩) (s.length + 1) cc) (s.length + 1) ((a ++ k :: b).map encN)))
     case atStart => exact ⟨s, [], by first | rfl | go_num | (congr 1; omega), Nat.le_refl _, Ins.start _ _ _, K0⟩
     case round =>
      clear K0
      obtain ⟨a, b, rfl, hay, HI, K0⟩ := hrel
      have m12 := K0.out.2.1.cell 12
      simp only [gtA, gtS, gtZ] at m12
      rcases (show a = [] ∨ ∃ a' y, a = a' ++ [y] from by rcases List.eq_nil_or_concat a with h | ⟨a', y, h⟩; exact Or.inl h; exact Or.inr ⟨a', y, by simpa using h⟩) with rfl | ⟨a', y, rfl⟩
      ·simp only [List.length_nil]
       go_wp2_with (fail)
       go_quiet (fail)
       have hbd : RowKit.Below wr.heap.size wr (wr.drewN nq) := bdn (RowKit.Below.refl _ _) nq
       have L2 := hI9 (CvK.put (vF := .slice (some ⟨bf, off, none⟩) M.n cF) (vS := .slice A2 M.m cS) HC.out (by rw [HS.out]; exact HI.out) (Or.inl rfl) (bthen K0.out.1 hbd) (K0.out.2.1.below hbd) (ownsRow_below K0.out.2.2 hbd) (by simp))
       go_wp2_with (fail)
       go_roundg (M.n - (k + 1))
       case measure => omega
       case rel => exact ⟨k + 1, by first | rfl | go_num | (congr 1; omega), by omega, Nat.le_refl _, L2⟩
      ·have hsl := congrArg List.length HI.out.s
       simp only [List.length_append, List.length_cons, List.length_nil] at hsl hay
       have hyk : y < k := HLT.out y (by rw [HI.out.s]; simp)
       have o1 : wr.cell? ⟨g, a'.length + 1, none⟩ = some (.int .i64 (k : Int)) := by
        have := K0.out.2.2.cellAt (g := g) (a'.length + 1) (by omega)
        rw [this]; simp [encN]
       have o0 : wr.cell? ⟨g, a'.length, none⟩ = some (.int .i64 (y : Int)) := by
        have := K0.out.2.2.cellAt (g := g) a'.length (by omega)
        rw [this]; simp [encN]
       have rk := HRC.out k hlt wr K0.out.1
       have ry := HRC.out y (by omega) wr K0.out.1
       have hpos : (0 : Int) < ((a'.length + 1 : Nat) : Int) := by omega
       have hlz : ((a'.length + 1 : Nat) : Int) < ((s.length + 1 : Nat) : Int) := by omega
       have hl1 : a'.length + 1 < (s.length + 1) * 1 := by omega
       have hl0 : a'.length < (s.length + 1) * 1 := by omega
       have ha40 : a'.length ≤ 40 := by omega
       clear hsl
       have hkn : (k : Int) < (M.n : Int) := by omega
       have hyn : (y : Int) < (M.n : Int) := by omega
       simp only [List.length_append, List.length_cons, List.length_nil]
       by_cases hky : M.D k 3 < M.D y 3
       ·go_wp2_with (fail)
        go_quiet (fail)
        go_wp2_with (fail)
        have fz : ∀ i, wr.frozen? ⟨g, i, none⟩ = false := fun i => by
         rcases K0.out.2.2.2 with ⟨e, -⟩ | ⟨g', cap', cur', e, -, hh, -⟩
         ·cases e
         ·simp only [Value.slice.injEq, Option.some.injEq, Addr.mk.injEq, and_true] at e
          obtain ⟨rfl, -, -⟩ := e
          exact (show Blk wr g 3 cur' from hh).frozen _
        have f1 := fz (a'.length + 1)
        have f0 := fz a'.length
        have hgl := owns_lt K0.out.2.2 (b := g) rfl
        clear fz
        have hbd : RowKit.Below wr.heap.size wr (wr.drewN nq) := bdn (RowKit.Below.refl _ _) nq
        have K1 := hI9 (show RowKit.Below w.heap.size w (wr.drewN nq) ∧ Blk (wr.drewN nq) w.heap.size 29 #[.int .i64 M.places, .int .i64 M.any.a0, .int .i64 M.any.a1, .int .i64 M.any.a2, .int .i64 M.any.a3, .int .i64 M.any.a4, .int .i64 M.any.a5, .bool M.any.i, .bool M.any.s, .int .i64 M.mw, .int .i64 M.ms, .int .i64 M.mc, .slice (some ⟨bf, off, none⟩) M.n cF, .slice A2 M.m cS] ∧ (wr.drewN nq).ownsRow (w.heap.size + 1) 3 1 (.slice (some ⟨g, 0, none⟩) (s.length + 1) cc) (s.length + 1) ((a' ++ [y] ++ k :: b).map encN) from ⟨bthen K0.out.1 hbd, K0.out.2.1.below hbd, ownsRow_below K0.out.2.2 hbd⟩)
        have O1 := hI9 ((hbd.cell (p := ⟨g, a'.length + 1, none⟩) hgl).trans o1)
        have O0 := hI9 ((hbd.cell (p := ⟨g, a'.length, none⟩) hgl).trans o0)
        have Z1 := hI9 ((hbd.frozen (p := ⟨g, a'.length + 1, none⟩) hgl).trans f1)
        have Z0 := hI9 ((hbd.frozen (p := ⟨g, a'.length, none⟩) hgl).trans f0)
        have hgl2 : g < (wr.drewN nq).heap.size := hgl
        clear K0 o1 o0 f1 f0 rk ry m12 hbd hgl
        generalize wr.drewN nq = W at *
        refine wp_region_specL 14 [2, 3, 4] (swR W.heap.size (.slice (some ⟨g, 0, none⟩) (s.length + 1) cc) g a'.length y k) (fun i => false) (by kernel_rfl) (by kernel_rfl) (by decide) swR_below ?hop1 ?htail1
        case hop1 =>
         simp only [List.take_succ_cons, List.take_zero, allOps]
         refine ⟨?_, ?_, ?_, ?_, ?_, ?_, ?_, ?_, ?_, ?_, ?_, ?_, ?_, ?_, trivial⟩
         all_goals intro u A w1 hA hb hd
         all_goals simp only [putAll, dstOf, gtA, gtS, gtZ, Option.bind_some, Option.bind, Act.put, List.setIfInBounds_toArray, List.set_cons_succ, List.set_cons_zero] at hA; subst hA
         all_goals have HB1 := hI9 hb
         ·refine OpOk.now rfl ?_
          clear hb hd
          go_wp2
          exact ⟨_, rfl, Below.refl _ _, rfl, fun h => absurd h (by decide)⟩
         ·refine OpOk.now rfl ?_
          clear hb hd
          go_wp2
          exact ⟨_, rfl, Below.refl _ _, rfl, fun h => absurd h (by decide)⟩
         ·clear hb hd
          refine OpOk.late rfl ?_
          first | (refine ⟨_, yields_move rfl _ rfl _ rfl, ?_⟩; rfl) | (refine ⟨_, yields_sub rfl _ _ _ _ rfl _ rfl rfl (by omega), ?_⟩; rfl)
         ·clear hb hd
          refine OpOk.late rfl ?_
          first | (refine ⟨_, yields_move rfl _ rfl _ rfl, ?_⟩; rfl) | (refine ⟨_, yields_sub rfl _ _ _ _ rfl _ rfl rfl (by omega), ?_⟩; rfl)
         ·have d3 : u 3 = _ := hd 3 (by omega) (by kernel_rfl)
          clear hb hd
          rw [d3]
          clear d3
          refine OpOk.late rfl ?_
          first | (refine ⟨_, yields_move rfl _ rfl _ rfl, ?_⟩; rfl) | (refine ⟨_, yields_sub rfl _ _ _ _ rfl _ rfl rfl (by omega), ?_⟩; rfl)
         ·refine OpOk.now rfl ?_
          clear hb hd
          go_wp2
          exact ⟨_, rfl, Below.refl _ _, rfl, fun h => absurd h (by decide)⟩
         ·refine OpOk.now rfl ?_
          clear hb hd
          go_wp2
          exact ⟨_, rfl, Below.refl _ _, rfl, fun h => absurd h (by decide)⟩
         ·refine OpOk.now rfl ?_
          have d6 : u 6 = _ := hd 6 (by omega) (by kernel_rfl)
          clear hb hd
          rw [d6]
          clear d6
          go_wp2
          exact ⟨_, rfl, Below.refl _ _, rfl, fun h => absurd h (by decide)⟩
         ·refine OpOk.now rfl ?_
          have d5 : u 5 = _ := hd 5 (by omega) (by kernel_rfl)
          have d7 : u 7 = _ := hd 7 (by omega) (by kernel_rfl)
          clear hb hd
          rw [d5, d7]
          clear d5 d7
          go_wp2
          exact ⟨_, rfl, Below.refl _ _, rfl, fun h => absurd h (by decide)⟩
         ·refine OpOk.now rfl ?_
          have d8 : u 8 = _ := hd 8 (by omega) (by kernel_rfl)
          clear hb hd
          rw [d8]
          clear d8
          have c0 := (HB1.out.cell (p := ⟨g, a'.length, none⟩) hgl2).trans O0.out
          go_wp2
          exact ⟨_, rfl, Below.refl _ _, rfl, fun h => absurd h (by decide)⟩
         ·refine OpOk.now rfl ?_
          clear hb hd
          go_wp2
          exact ⟨_, rfl, Below.refl _ _, rfl, fun h => absurd h (by decide)⟩
         ·refine OpOk.now rfl ?_
          clear hb hd
          go_wp2
          exact ⟨_, rfl, Below.refl _ _, rfl, fun h => absurd h (by decide)⟩
         ·refine OpOk.now rfl ?_
          have d10 : u 10 = _ := hd 10 (by omega) (by kernel_rfl)
          have d11 : u 11 = _ := hd 11 (by omega) (by kernel_rfl)
          clear hb hd
          rw [d10, d11]
          clear d10 d11
          go_wp2
          exact ⟨_, rfl, Below.refl _ _, rfl, fun h => absurd h (by decide)⟩
         ·refine OpOk.now rfl ?_
          have d12 : u 12 = _ := hd 12 (by omega) (by kernel_rfl)
          clear hb hd
          rw [d12]
          clear d12
          have c1 := (HB1.out.cell (p := ⟨g, a'.length + 1, none⟩) hgl2).trans O1.out
          go_wp2
          exact ⟨_, rfl, Below.refl _ _, rfl, fun h => absurd h (by decide)⟩
        case htail1 =>
         intro u A w1 hA hb hd hf
         simp only [putAll, dstOf, gtA, gtS, gtZ, Option.bind_some, Option.bind, Act.put, List.setIfInBounds_toArray, List.set_cons_succ, List.set_cons_zero] at hA; subst hA
         have e0 : u 0 = _ := hd 0 (by omega)
         have e1 : u 1 = _ := hd 1 (by omega)
         have e2 : u 2 = _ := hd 2 (by omega)
         have e3 : u 3 = _ := hd 3 (by omega)
         have e4 : u 4 = _ := hd 4 (by omega)
         have e5 : u 5 = _ := hd 5 (by omega)
         have e6 : u 6 = _ := hd 6 (by omega)
         have e7 : u 7 = _ := hd 7 (by omega)
         have e8 : u 8 = _ := hd 8 (by omega)
         have e9 : u 9 = _ := hd 9 (by omega)
         have e10 : u 10 = _ := hd 10 (by omega)
         have e11 : u 11 = _ := hd 11 (by omega)
         have e12 : u 12 = _ := hd 12 (by omega)
         have e13 : u 13 = _ := hd 13 (by omega)
         first | rw [e0, e1, e2, e3, e4, e5, e6, e7, e8, e9, e10, e11, e12, e13] | simp only [e0, e1, e2, e3, e4, e5, e6, e7, e8, e9, e10, e11, e12, e13]
         clear e0 e1 e2 e3 e4 e5 e6 e7 e8 e9 e10 e11 e12 e13
         clear hd hf
         have z1 := (hb.frozen (p := ⟨g, a'.length + 1, none⟩) hgl2).trans Z1.out
         have z0 := (hb.frozen (p := ⟨g, a'.length, none⟩) hgl2).trans Z0.out
         have c1 := (hb.cell (p := ⟨g, a'.length + 1, none⟩) hgl2).trans O1.out
         have c0 := (hb.cell (p := ⟨g, a'.length, none⟩) hgl2).trans O0.out
         have K2 := hI9 (CvJ.grow (show CvJ M (.slice (some ⟨bf, off, none⟩) M.n cF) (.slice A2 M.m cS) w W g cc (s.length + 1) (a' ++ [y] ++ k :: b) from K1.out) hb)
         have K3 := hI9 ((K2.out.set (i := a'.length + 1) (by omega) y).set (i := a'.length) (by omega) k)
         clear K1 K2 O1 O0 Z1 Z0 hb
         go_wp2_with (fail)
         dsimp only [NoPanic]
         go_wp2_with (fail)
         go_roundg a'.length
         case measure => omega
         case rel => exact ⟨a', y :: b, by first | rfl | go_num | (congr 1; omega), Nat.le_refl _, HI.out.step hky, by have h := K3.out; rw [swap_list] at h; exact hI9 h⟩
       ·go_wp2_with (fail)
        go_quiet (fail)
        have hbd : RowKit.Below wr.heap.size wr (wr.drewN nq) := bdn (RowKit.Below.refl _ _) nq
        have L2 := hI9 (CvK.put (vF := .slice (some ⟨bf, off, none⟩) M.n cF) (vS := .slice A2 M.m cS) HC.out (by rw [HS.out]; exact HI.out) (Or.inr ⟨a', y, rfl, by show M.D y 3 ≤ M.D k 3; omega⟩) (bthen K0.out.1 hbd) (K0.out.2.1.below hbd) (ownsRow_below K0.out.2.2 hbd) (by simp))
        go_wp2_with (fail)
        go_roundg (M.n - (k + 1))
        case measure => omega
        case rel => exact ⟨k + 1, by first | rfl | go_num | (congr 1; omega), by omega, Nat.le_refl _, L2⟩
  ·obtain rfl : k = M.n := by omega
   go_wp2_with (fail)
   go_ret
   refine ⟨_, rfl, L0.out.b, L0.out.o, ?_⟩
   refine L0.out.n.trans ⟨fun h => ?_, fun h => ?_⟩
   ·unfold MetD.ordF; rw [h]; exact stab_nil _
   ·have := stab2_perm (fun i => M.D i 3) (M.cov p t M.n)
    unfold MetD.ordF at h
    rw [h] at this
    exact this.symm.eq_nil
end Go.Proofs.YtlabfpjlckdmfaaGreat
