/- Texts joined: JAU. -/
import Derived.Test.YtonfnhonbnfdoaaGreatBas
import Derived.Test.YtonfnhonbnfdoaaGreatJAP
import Derived.Great.CaseRows
import Derived.Deep.WholeRow
import Derived.Test.YtonfnhonbnfdoaaGreatNbC
import Derived.Test.YtonfnhonbnfdoaaGreatJAS
set_option linter.all false
namespace Go.Proofs.YtonfnhonbnfdoaaGreat
open Go Go.RowKit Go.Proofs

section
variable {P : Program} {ops : Array Oper} {rest : List Oper} {o : Oper} {a : Act} {w : World}
theorem wpl_row_g {Q : Exit → Act → World → Prop} (hgd : Region.wanted o (yielded ops a.tmps) = true) (ty : TypeId) (x : Operand) (ho : o.op = .load ty x)
    (g : Nat) (hx : a.eval x = .pointer (some ⟨g, 0, none⟩)) (cs : Array Value) (n : Nat) (hB : w.heap[g]? = some (.cells cs ty (0, 0)))
    (hr : RowTy P ty n) (hn : cs.size = n)
    (h : wpList P ops Q rest (a.put o.dst (.agg cs)) w) : wpList P ops Q (o :: rest) a w := by
  obtain ⟨hu, hi⟩ := hr
  cases hd : P.underlying ty with
  | none => rw [hd] at hu; cases hu
  | some d =>
    rw [hd] at hu
    refine wpList_step fun K hK => ?_
    simp only [hgd, if_true]
    unfold Oper.wp execOp
    simp only [ho, hx, Instr.loadAt, Instr.sureAddr, Sem.run_bind, Sem.run_pure, Result.andThen_ok, run_loadVar_row w g ty ty cs (0, 0) d hB hd (by cases d <;> first | rfl | (simp at hu)) (by rw [hi, hn]), Oper.upon]
    exact hK _ _ h
end
end Go.Proofs.YtonfnhonbnfdoaaGreat

namespace Go.Proofs.YtonfnhonbnfdoaaGreat
open Go Go.RowKit Go.Proofs

section
variable {P : Program} {ops : Array Oper} {rest : List Oper} {o : Oper} {a : Act} {w : World}
theorem wpl_mid_g {Q : Exit → Act → World → Prop} (hgd : Region.wanted o (yielded ops a.tmps) = true) (ty : TypeId) (x : Operand) (ho : o.op = .load ty x)
    (g off : Nat) (hx : a.eval x = .pointer (some ⟨g, off, none⟩)) (tb : TypeId) (big cs : Array Value) (n : Nat) (hB : w.heap[g]? = some (.cells big tb (0, 0)))
    (hr : RowTy P ty n) (pre post : List Value) (hpre : pre.length = off) (hcs : big.toList = pre ++ (cs.toList ++ post)) (hn : cs.size = n)
    (h : wpList P ops Q rest (a.put o.dst (.agg cs)) w) : wpList P ops Q (o :: rest) a w := by
  refine wpList_step fun K hK => ?_
  simp only [hgd, if_true]
  unfold Oper.wp execOp
  simp only [ho, hx, Instr.loadAt, Instr.sureAddr, Sem.run_bind, Sem.run_pure, Result.andThen_ok, run_mid hB hr pre post hpre hcs hn, Oper.upon]
  exact hK _ _ h
end
end Go.Proofs.YtonfnhonbnfdoaaGreat

namespace Go.Proofs.YtonfnhonbnfdoaaGreat
open Go Go.RowKit Go.Proofs
set_option maxRecDepth 100000

/-- One open tick behind the stretches so far. -/
def winA (out : List (Int × Int)) (t : Int) : List (Int × Int) :=
  match out.getLast? with
  | some p => if p.2 = t - 1 then out.dropLast ++ [(p.1, t)] else out ++ [(t, t)]
  | none => out ++ [(t, t)]
def winR (op : Int → Bool) : Nat → Int → List (Int × Int) → List (Int × Int)
  | 0, _, out => out
  | k + 1, t, out => winR op k (t + 1) (if op t then winA out t else out)
def spC (l : List (Int × Int)) : List Value := l.flatMap fun p => [.int .i64 p.1, .int .i64 p.2]
theorem spC_length (l : List (Int × Int)) : (spC l).length = l.length * 2 := by
  induction l with
  | nil => rfl
  | cons p l ih => simp only [spC, List.flatMap_cons, List.length_append, List.length_cons, List.length_nil] at *; omega
theorem spC_snoc (l : List (Int × Int)) (p : Int × Int) : spC (l ++ [p]) = spC l ++ [.int .i64 p.1, .int .i64 p.2] := by simp [spC, List.flatMap_append]
/-- A store into the cells that a row owns. -/
theorem owns_set {w : World} {base g c i : Nat} {e : TypeId} {size : Nat} {n : Nat} {xs : List Value} (h : w.ownsRow base e size (.slice (some ⟨g, 0, none⟩) n c) n xs) (hi : i < n * size) (u : Value) :
    (w.setCell ⟨g, i, none⟩ u).ownsRow base e size (.slice (some ⟨g, 0, none⟩) n c) n (xs.set i u) := by
  obtain ⟨h1, h2⟩ := h
  refine ⟨by rw [List.length_set]; exact h1, ?_⟩
  rcases h2 with ⟨h2, -⟩ | ⟨g', cap, cur, hv, hb, hh, r1, r2, r3, r4⟩
  · cases h2
  · simp only [Value.slice.injEq, Option.some.injEq, Addr.mk.injEq, and_true] at hv
    obtain ⟨rfl, -, rfl⟩ := hv
    refine .inr ⟨g, c, cur.setIfInBounds i u, rfl, hb, (show Blk _ g e _ from (show Blk w g e cur from hh).set_ i u), r1, r2, by simpa using r3, ?_⟩
    rw [Array.toList_setIfInBounds, List.take_set, r4]
end Go.Proofs.YtonfnhonbnfdoaaGreat

namespace Go.Proofs.YtonfnhonbnfdoaaGreat
open Go Go.RowKit Go.Proofs
set_option maxRecDepth 100000
set_option maxHeartbeats 4000000

end Go.Proofs.YtonfnhonbnfdoaaGreat

namespace Go.Proofs.YtonfnhonbnfdoaaGreat
open Go Go.RowKit Go.Proofs
set_option maxRecDepth 100000
set_option maxHeartbeats 8000000

theorem Tryz.spI : (Tryz.prog.info? 23).map (fun i => (i.zero.map (·.cells.size), i.size, decide (i.bytes ≤ 200))) = some (some 2, 2, true) := by kernel_rfl
theorem Tryz.spU : Tryz.prog.underlying 51 = some (.slice 23) := by kernel_rfl
theorem wpl_appW {ops : Array Oper} {rest : List Oper} {o : Oper} {a : Act} {w : World} {Q : Exit → Act → World → Prop} (hgd : o.guard = none) (s x : Operand)
    (ho : o.op = .call { callee := .builtin .append, args := #[s, x], argTypes := #[51, 51] }) (base : Nat) (v : Value) (l : List (Int × Int)) (hs : a.eval s = v) (hown : w.ownsRow base 23 2 v l.length (spC l))
    (g : Nat) (p : Int × Int) (hx : a.eval x = .slice (some ⟨g, 0, none⟩) 1 1) (hc0 : w.cell? ⟨g, 0, none⟩ = some (.int .i64 p.1)) (hc1 : w.cell? ⟨g, 1, none⟩ = some (.int .i64 p.2)) (h40 : l.length ≤ 3000) (hbase : base ≤ w.heap.size)
    (h : ∀ v' w', w'.ownsRow base 23 2 v' (l ++ [p]).length (spC (l ++ [p])) → w.grownBy w' v.ownBlock → v' ≠ .slice none 0 0 → wpList Tryz.prog ops Q rest (a.put o.dst v') w') : wpList Tryz.prog ops Q (o :: rest) a w := by
  have hi := Tryz.spI
  cases hI : Tryz.prog.info? 23 with
  | none => rw [hI] at hi; cases hi
  | some i =>
    rw [hI] at hi
    simp only [Option.map_some, Option.some.injEq, Prod.mk.injEq, decide_eq_true_eq] at hi
    obtain ⟨i1, i2, i3⟩ := hi
    cases hz : i.zero with
    | none => rw [hz] at i1; cases i1
    | some z =>
      rw [hz] at i1
      simp only [Option.map_some, Option.some.injEq] at i1
      have hb : (l.length + 1) * i.bytes ≤ 3001 * 200 := Nat.mul_le_mul (by omega) i3
      refine wpList_append_own w hgd s x 51 ho base 23 i z 2 i.bytes Tryz.spU hI hz i2 rfl i1 (by decide) v l.length (spC l) hs hown ⟨g, 0, none⟩ 1 1 [.int .i64 p.1, .int .i64 p.2] hx rfl ?_ ?_ (by unfold maxLen; omega) (by omega) hbase ?_
      · intro j u hj
        match j, hj with
        | 0, hj =>
          have : u = .int .i64 p.1 := by simpa using hj.symm
          subst this
          exact hc0
        | 1, hj =>
          have : u = .int .i64 p.2 := by simpa using hj.symm
          subst this
          exact hc1
      · intro u hu
        simp only [List.mem_cons, List.not_mem_nil, or_false] at hu
        rcases hu with rfl | rfl <;> rfl
      · intro v' w' h1 h2 h3
        refine h v' w' (by rw [spC_snoc]; simpa using h1) h2 (fun e => ?_)
        have := (h3.1 e).2
        omega
/-- What the loop of Windows keeps. -/
structure WiK (M : MetD) (vF vS : Value) (lw ls lc : Int) (li lt : Bool) (w : World) (l : List (Int × Int)) (v : Value) (wr : World) : Prop where
  k : FiK M vF vS lw ls lc li lt w wr
  o : wr.ownsRow (w.heap.size + 2) 23 2 v l.length (spC l)
  n : v = .slice none 0 0 ↔ l = []
  z : w.heap.size + 2 ≤ wr.heap.size
theorem WiK.grow {M : MetD} {vF vS : Value} {lw ls lc : Int} {li lt : Bool} {w wr w2 : World} {l : List (Int × Int)} {v : Value} (h : WiK M vF vS lw ls lc li lt w l v wr) (hb : Below wr.heap.size wr w2) : WiK M vF vS lw ls lc li lt w l v w2 :=
  ⟨h.k.grow hb, ownsRow_below h.o hb, h.n, Nat.le_trans h.z hb.size⟩
theorem FiK.under {M : MetD} {vF vS : Value} {lw ls lc : Int} {li lt : Bool} {w wr w2 : World} (h : FiK M vF vS lw ls lc li lt w wr) (hb : Below (w.heap.size + 2) wr w2) : FiK M vF vS lw ls lc li lt w w2 :=
  ⟨h.b.trans (hb.mono (by omega)), h.m.under hb (by omega), h.l.under hb (by omega)⟩
theorem WiK.take {M : MetD} {vF vS : Value} {lw ls lc : Int} {li lt : Bool} {w wr w2 : World} {l : List (Int × Int)} {v v' : Value} {p : Int × Int} (h : WiK M vF vS lw ls lc li lt w l v wr) (h1 : w2.ownsRow (w.heap.size + 2) 23 2 v' (l ++ [p]).length (spC (l ++ [p])))
    (h2 : wr.grownBy w2 v.ownBlock) (h3 : v' ≠ .slice none 0 0) : WiK M vF vS lw ls lc li lt w (l ++ [p]) v' w2 :=
  ⟨h.k.under (below_grown h2 h.z (fun b hb => owns_base h.o hb)), h1, by simp [h3], Nat.le_trans h.z h2.size⟩
theorem WiK.widen {M : MetD} {vF vS : Value} {lw ls lc : Int} {li lt : Bool} {w wr : World} {l : List (Int × Int)} {p : Int × Int} {g c : Nat} (h : WiK M vF vS lw ls lc li lt w (l ++ [p]) (.slice (some ⟨g, 0, none⟩) (l.length + 1) c) wr) (t : Int) :
    WiK M vF vS lw ls lc li lt w (l ++ [(p.1, t)]) (.slice (some ⟨g, 0, none⟩) (l.length + 1) c) (wr.setCell ⟨g, l.length * 2 + 1, none⟩ (.int .i64 t)) := by
  have hg : w.heap.size + 2 ≤ g := owns_base h.o rfl
  have ho := h.o
  rw [List.length_append, List.length_singleton] at ho
  have hs := owns_set ho (i := l.length * 2 + 1) (by omega) (.int .i64 t)
  have e : (spC (l ++ [p])).set (l.length * 2 + 1) (.int .i64 t) = spC (l ++ [(p.1, t)]) := by
    rw [spC_snoc, spC_snoc, List.set_append_right _ _ (by rw [spC_length]; omega), spC_length]
    rw [show l.length * 2 + 1 - l.length * 2 = 1 by omega]
    rfl
  rw [e] at hs
  refine ⟨h.k.under ⟨rfl, rfl, rfl, by simp [World.setCell], fun k hk => Below.heap_setCell _ _ _ _ (by show k ≠ g; omega)⟩, by rw [List.length_append, List.length_singleton]; exact hs, by simp, by simpa [World.setCell] using h.z⟩
end Go.Proofs.YtonfnhonbnfdoaaGreat

namespace Go.Proofs.YtonfnhonbnfdoaaGreat
open Go Go.RowKit Go.Proofs
set_option maxRecDepth 100000
set_option maxHeartbeats 8000000

theorem wWindows_c (M : MetD) (vF vS : Value) (lw ls lc : Int) (li lt : Bool) (p f u : Int) (w : World) (hA : MetAt w vF vS M) :
   Calls Tryz.prog 14 #[.agg #[.int .i64 M.places, .int .i64 M.any.a0, .int .i64 M.any.a1, .int .i64 M.any.a2, .int .i64 M.any.a3, .int .i64 M.any.a4, .int .i64 M.any.a5, .bool M.any.i, .bool M.any.s, .int .i64 M.mw, .int .i64 M.ms, .int .i64 M.mc, vF, vS], .agg #[.int .i64 lw, .int .i64 ls, .int .i64 lc, .bool li, .bool lt], .int .i64 p, .int .i64 f, .int .i64 u] w fun e w' => ∃ v, e = .returned (.tuple #[v, .int .i64 (cwE M lw ls lc f u p)]) ∧ Below w.heap.size w w' ∧
     (cwE M lw ls lc f u p ≠ 0 → v = .slice none 0 0) ∧ (cwE M lw ls lc f u p = 0 → w'.ownsRow w.heap.size 23 2 v (winR (fun t => openB (M.may p t) lw ls lc li lt) (u - f).toNat f []).length (spC (winR (fun t => openB (M.may p t) lw ls lc li lt) (u - f).toNat f []))) := by
  have HA := Lib.hid hA
  have hcw := fun b c w1 h hq => wcheckWindow_c M vF vS lw ls lc li lt f u p b c w1 h hq
  clear hA
  by_cases he : cwE M lw ls lc f u p = 0
  · have hcz := he
    unfold cwE at hcz
    have hme : minE M lw ls lc = 0 := by
      by_cases h : minE M lw ls lc = 0
      · exact h
      · rw [if_neg h] at hcz; exact absurd hcz h
    rw [if_pos hme] at hcz
    have hM := MetD.ok_of (minE_bad hme)
    have hrg : righB M.places 0 f u = true := by
      cases h : righB M.places 0 f u
      · rw [h] at hcz; cases hcz
      · rfl
    unfold righB at hrg
    simp only [Bool.and_eq_true, decide_eq_true_eq, inB_iff] at hrg
    obtain ⟨-, ⟨hf0, -⟩, hu2⟩ := hrg
    have HOP := Lib.hid (fun t w1 h ht0 ht1 => wopen_c M vF vS lw ls lc li lt p t w1 hM h ht0 ht1)
    generalize hop : (fun t => openB (M.may p t) lw ls lc li lt) = op
    have HO := Lib.hid (show ∀ t, openB (M.may p t) lw ls lc li lt = op t from fun t => by rw [← hop])
    rw [he] at hcw ⊢
    have HCW := Lib.hid hcw
    obtain ⟨R, hR⟩ : ∃ q, q = winR op (u - f).toNat f [] := ⟨_, rfl⟩
    rw [← hR]
    have HR := Lib.hid hR
    clear hR hop hM hcz hme he hcw
    go_enter Tryz.func14, Tryz.ntmps14
    go_wp2_with (first | (refine wpl_row rfl 29 _ rfl _ rfl #[.int .i64 M.places, .int .i64 M.any.a0, .int .i64 M.any.a1, .int .i64 M.any.a2, .int .i64 M.any.a3, .int .i64 M.any.a4, .int .i64 M.any.a5, .bool M.any.i, .bool M.any.s, .int .i64 M.mw, .int .i64 M.ms, .int .i64 M.mc, vF, vS] 14 ?_ Tryz.rowMet rfl ?_; (focus exact (by repeat (first | (refine Blk.newAt _ _ _ ?_; first | rfl | (simp; done)) | refine Blk.alloc ?_ _))); simp only [Act.put]) | (refine wpl_row rfl 31 _ rfl _ rfl #[.int .i64 lw, .int .i64 ls, .int .i64 lc, .bool li, .bool lt] 5 ?_ Tryz.rowMin rfl ?_; (focus exact (by repeat (first | (refine Blk.newAt _ _ _ ?_; first | rfl | (simp; done)) | refine Blk.alloc ?_ _))); simp only [Act.put]))
    have _x := frm3 w #[.int .i64 M.places, .int .i64 M.any.a0, .int .i64 M.any.a1, .int .i64 M.any.a2, .int .i64 M.any.a3, .int .i64 M.any.a4, .int .i64 M.any.a5, .bool M.any.i, .bool M.any.s, .int .i64 M.mw, .int .i64 M.ms, .int .i64 M.mc, vF, vS] 29 #[.int .i64 lw, .int .i64 ls, .int .i64 lc, .bool li, .bool lt] 31 #[.int .i64 p] 3
    have HX := Lib.hid _x.1
    have HL := Lib.hid _x.2.1
    have HV := Lib.hid _x.2.2.1
    have HB := Lib.hid _x.2.2.2.1
    have zW := _x.2.2.2.2
    clear _x
    generalize World.alloc (World.alloc (World.alloc w _) _) _ = W at *
    refine (HCW.out _ _ _ (HA.out.below HB.out) (HV.out.cell 0)).mono ?_
    rintro _ w1 ⟨rfl, hb1⟩
    have nHX := Lib.hid (HX.out.below hb1)
    have nHL := Lib.hid (HL.out.below hb1)
    have nHB := Lib.hid (bthen HB.out hb1)
    clear HX HL HB hb1
    have HX := nHX
    have HL := nHL
    have HB := nHB
    clear nHX nHL nHB
    clear HV
    have K0 := Lib.hid (show WiK M vF vS lw ls lc li lt w [] (.slice none 0 0) w1 from ⟨⟨HB.out, HX.out, HL.out⟩, World.ownsRow_nil _ _ _ _, by simp, HL.out.lt⟩)
    clear HX HL HB HCW
    go_wp2_with (fail)
    go_loopg [10, 13] (u - f).toNat (fun gx v i wr => ∃ (tt : Int) (l : List (Int × Int)), i = .int .i64 tt ∧ f ≤ tt ∧ (l.length : Int) ≤ tt - f ∧ (u - tt).toNat ≤ gx ∧ Hid (WiK M vF vS lw ls lc li lt w l v wr) ∧ Hid (winR op (u - tt).toNat tt l = R))
    case atStart => exact ⟨f, [], rfl, Int.le_refl _, by simp, Nat.le_refl _, K0, HR.out.symm⟩
    case round =>
      clear K0
      obtain ⟨tt, l, rfl, hft, hlen, hgx, K0, HE⟩ := hrel
      by_cases hlt : tt < u
      · have hop := HOP.out tt wr (HA.out.below K0.out.k.b) (by omega) (by omega)
        rw [HO.out tt] at hop
        have hE := HE.out
        rw [show (u - tt).toNat = (u - (tt + 1)).toNat + 1 by omega] at hE
        unfold winR at hE
        cases ho : op tt
        · rw [ho] at hE hop
          rw [show (if false = true then winA l tt else l) = l from rfl] at hE
          have HE2 := Lib.hid hE
          clear hE HE ho
          obtain ⟨A, c, rfl⟩ : ∃ A c, u10 = .slice A l.length c := by
            rcases K0.out.o.2 with ⟨e, h0⟩ | ⟨g, cap, cur, e, -⟩
            · exact ⟨none, 0, by rw [e, h0]⟩
            · exact ⟨_, _, e⟩
          go_wp2_with (first | (refine wpl_row rfl 29 _ rfl _ rfl #[.int .i64 M.places, .int .i64 M.any.a0, .int .i64 M.any.a1, .int .i64 M.any.a2, .int .i64 M.any.a3, .int .i64 M.any.a4, .int .i64 M.any.a5, .bool M.any.i, .bool M.any.s, .int .i64 M.mw, .int .i64 M.ms, .int .i64 M.mc, vF, vS] 14 K0.out.k.m Tryz.rowMet rfl ?_; simp only [Act.put]) | (refine wpl_row rfl 31 _ rfl _ rfl #[.int .i64 lw, .int .i64 ls, .int .i64 lc, .bool li, .bool lt] 5 K0.out.k.l Tryz.rowMin rfl ?_; simp only [Act.put]) | (go_at_call 39; refine hop.mono ?_; clear hop; rintro _ w2 ⟨rfl, hb2⟩))
          go_roundg (u - (tt + 1)).toNat
          case measure => omega
          case rel => exact ⟨tt + 1, l, by first | rfl | go_num | (congr 1; omega), by omega, by omega, Nat.le_refl _, K0.out.grow hb2, HE2⟩
        · rw [ho] at hE hop
          rw [show (if true = true then winA l tt else l) = winA l tt from rfl] at hE
          clear ho HE
          rcases List.eq_nil_or_concat l with hl | ⟨l0, q, hl⟩
          · subst hl
            have HE2 := Lib.hid (show winR op (u - (tt + 1)).toNat (tt + 1) ([] ++ [(tt, tt)]) = R from hE)
            clear hE
            obtain rfl := K0.out.n.2 rfl
            go_wp2_with (first | (refine wpl_row rfl 29 _ rfl _ rfl #[.int .i64 M.places, .int .i64 M.any.a0, .int .i64 M.any.a1, .int .i64 M.any.a2, .int .i64 M.any.a3, .int .i64 M.any.a4, .int .i64 M.any.a5, .bool M.any.i, .bool M.any.s, .int .i64 M.mw, .int .i64 M.ms, .int .i64 M.mc, vF, vS] 14 K0.out.k.m Tryz.rowMet rfl ?_; simp only [Act.put]) | (refine wpl_row rfl 31 _ rfl _ rfl #[.int .i64 lw, .int .i64 ls, .int .i64 lc, .bool li, .bool lt] 5 K0.out.k.l Tryz.rowMin rfl ?_; simp only [Act.put]) | (go_at_call 39; refine hop.mono ?_; clear hop; rintro _ w2 ⟨rfl, hb2⟩) | (at_builtin; go_loud (refine wpl_appW rfl _ _ rfl (w.heap.size + 2) _ ([]) rfl ((K0.out.grow hb2).o.alloc _) _ (tt, tt) rfl ?a1 ?b1 (by simp) ?c1 ?_)))
            case c1 => simp; have := (K0.out.grow hb2).z; omega
            · intro v2 w3 O2 G2 N2
              have K2 := Lib.hid (((K0.out.grow hb2).grow (bal (Below.refl _ _) _)).take (p := (tt, tt)) (by simpa using O2) G2 N2)
              clear O2 G2 N2
              go_wp2
              go_roundg (u - (tt + 1)).toNat
              case measure => omega
              case rel => exact ⟨tt + 1, [] ++ [(tt, tt)], by first | rfl | go_num | (congr 1; omega), by omega, by simp; omega, Nat.le_refl _, K2, HE2⟩
          · rw [List.concat_eq_append] at hl
            subst hl
            rcases K0.out.o.2 with ⟨e, h0⟩ | ⟨g, cap, cur, rfl, -⟩
            · exact absurd (K0.out.n.1 e) (by simp)
            have hlen2 : (l0.length : Int) + 1 ≤ tt - f := by simpa using hlen
            have ek : winA (l0 ++ [q]) tt = if q.2 = tt - 1 then l0 ++ [(q.1, tt)] else l0 ++ [q] ++ [(tt, tt)] := by simp [winA]
            rw [ek] at hE
            clear ek
            have k1 := K0.out
            have hown := k1.o
            rw [List.length_append, List.length_singleton] at hown k1
            clear K0
            have K0 := Lib.hid k1
            clear k1
            have hcell : wr.cell? ⟨g, l0.length * 2 + 1, none⟩ = some (.int .i64 q.2) := by
              rw [show (⟨g, l0.length * 2 + 1, none⟩ : Addr) = ⟨g, l0.length * 2 + 1, none⟩ from rfl]
              have := hown.cellAt (g := g) (l0.length * 2 + 1) (by omega)
              rw [this, spC_snoc, List.getElem?_append_right (by rw [spC_length]; omega), spC_length, show l0.length * 2 + 1 - l0.length * 2 = 1 by omega]
              rfl
            have hgl := owns_lt hown (b := g) rfl
            have hfr : wr.frozen? ⟨g, l0.length * 2 + 1, none⟩ = false := by
              rcases hown.2 with ⟨e, -⟩ | ⟨g', cap', cur', e, -, hh, -⟩
              · cases e
              · simp only [Value.slice.injEq, Option.some.injEq, Addr.mk.injEq, and_true] at e
                obtain ⟨rfl, -, -⟩ := e
                exact (show Blk wr g 23 cur' from hh).frozen _
            have HCL := Lib.hid (fun w2 (hb : Below wr.heap.size wr w2) => (hb.cell (p := ⟨g, l0.length * 2 + 1, none⟩) hgl).trans hcell)
            have HFR := Lib.hid (fun w2 (hb : Below wr.heap.size wr w2) => (hb.frozen (p := ⟨g, l0.length * 2 + 1, none⟩) hgl).trans hfr)
            clear hown hcell hfr
            by_cases hq : q.2 = tt - 1
            · rw [if_pos hq] at hE
              have hqz : (q.2 == tt - 1) = true := by simp [hq]
              have HE2 := Lib.hid hE
              clear hE hq
              go_wp2_with (first | (refine wpl_row rfl 29 _ rfl _ rfl #[.int .i64 M.places, .int .i64 M.any.a0, .int .i64 M.any.a1, .int .i64 M.any.a2, .int .i64 M.any.a3, .int .i64 M.any.a4, .int .i64 M.any.a5, .bool M.any.i, .bool M.any.s, .int .i64 M.mw, .int .i64 M.ms, .int .i64 M.mc, vF, vS] 14 K0.out.k.m Tryz.rowMet rfl ?_; simp only [Act.put]) | (refine wpl_row rfl 31 _ rfl _ rfl #[.int .i64 lw, .int .i64 ls, .int .i64 lc, .bool li, .bool lt] 5 K0.out.k.l Tryz.rowMin rfl ?_; simp only [Act.put]) | (go_at_call 39; refine hop.mono ?_; clear hop; rintro _ w2 ⟨rfl, hb2⟩; have cc := HCL.out _ hb2; have ff := HFR.out _ hb2))
              have K2 := Lib.hid ((K0.out.grow hb2).widen tt)
              go_roundg (u - (tt + 1)).toNat
              case measure => omega
              case rel => exact ⟨tt + 1, l0 ++ [(q.1, tt)], by first | rfl | go_num | (congr 1; omega), by omega, by simp; omega, Nat.le_refl _, K2, HE2⟩
            · rw [if_neg hq] at hE
              have hqz : (q.2 == tt - 1) = false := by simp [hq]
              have HE2 := Lib.hid hE
              clear hE hq
              go_wp2_with (first | (refine wpl_row rfl 29 _ rfl _ rfl #[.int .i64 M.places, .int .i64 M.any.a0, .int .i64 M.any.a1, .int .i64 M.any.a2, .int .i64 M.any.a3, .int .i64 M.any.a4, .int .i64 M.any.a5, .bool M.any.i, .bool M.any.s, .int .i64 M.mw, .int .i64 M.ms, .int .i64 M.mc, vF, vS] 14 K0.out.k.m Tryz.rowMet rfl ?_; simp only [Act.put]) | (refine wpl_row rfl 31 _ rfl _ rfl #[.int .i64 lw, .int .i64 ls, .int .i64 lc, .bool li, .bool lt] 5 K0.out.k.l Tryz.rowMin rfl ?_; simp only [Act.put]) | (go_at_call 39; refine hop.mono ?_; clear hop; rintro _ w2 ⟨rfl, hb2⟩; have cc := HCL.out _ hb2) | (at_builtin; go_loud (refine wpl_appW rfl _ _ rfl (w.heap.size + 2) _ (l0 ++ [q]) rfl ((K0.out.grow hb2).o.alloc _) _ (tt, tt) rfl ?a2 ?b2 (by simp; omega) ?c2 ?_)))
              case c2 => simp; have := (K0.out.grow hb2).z; omega
              · intro v2 w3 O2 G2 N2
                have K2 := Lib.hid (((K0.out.grow hb2).grow (bal (Below.refl _ _) _)).take (p := (tt, tt)) (by simpa using O2) G2 N2)
                clear O2 G2 N2
                go_wp2
                go_roundg (u - (tt + 1)).toNat
                case measure => omega
                case rel => exact ⟨tt + 1, l0 ++ [q] ++ [(tt, tt)], by first | rfl | go_num | (congr 1; omega), by omega, by simp; omega, Nat.le_refl _, K2, HE2⟩
      · have hE := HE.out
        rw [show (u - tt).toNat = 0 by omega] at hE
        unfold winR at hE
        have HE2 := Lib.hid hE
        clear hE HE
        have hlt2 : u ≤ tt := by omega
        go_wp2_with (fail)
        go_ret2
        have hX := ownsRow_base K0.out.o (b2 := w.heap.size) (by omega)
        rw [HE2.out] at hX
        refine ⟨_, rfl, K0.out.k.b, ?_⟩
        first | exact hX | exact ⟨fun h => absurd rfl h, fun _ => hX⟩
  · have hez : (cwE M lw ls lc f u p != 0) = true := by simpa using he
    have HNE := Lib.hid he
    generalize cwE M lw ls lc f u p = E at *
    have HCW := Lib.hid hcw
    clear hcw he
    go_enter Tryz.func14, Tryz.ntmps14
    go_wp2_with (first | (refine wpl_row rfl 29 _ rfl _ rfl #[.int .i64 M.places, .int .i64 M.any.a0, .int .i64 M.any.a1, .int .i64 M.any.a2, .int .i64 M.any.a3, .int .i64 M.any.a4, .int .i64 M.any.a5, .bool M.any.i, .bool M.any.s, .int .i64 M.mw, .int .i64 M.ms, .int .i64 M.mc, vF, vS] 14 ?_ Tryz.rowMet rfl ?_; (focus exact (by repeat (first | (refine Blk.newAt _ _ _ ?_; first | rfl | (simp; done)) | refine Blk.alloc ?_ _))); simp only [Act.put]) | (refine wpl_row rfl 31 _ rfl _ rfl #[.int .i64 lw, .int .i64 ls, .int .i64 lc, .bool li, .bool lt] 5 ?_ Tryz.rowMin rfl ?_; (focus exact (by repeat (first | (refine Blk.newAt _ _ _ ?_; first | rfl | (simp; done)) | refine Blk.alloc ?_ _))); simp only [Act.put]))
    have _x := frm3 w #[.int .i64 M.places, .int .i64 M.any.a0, .int .i64 M.any.a1, .int .i64 M.any.a2, .int .i64 M.any.a3, .int .i64 M.any.a4, .int .i64 M.any.a5, .bool M.any.i, .bool M.any.s, .int .i64 M.mw, .int .i64 M.ms, .int .i64 M.mc, vF, vS] 29 #[.int .i64 lw, .int .i64 ls, .int .i64 lc, .bool li, .bool lt] 31 #[.int .i64 p] 3
    have HX := Lib.hid _x.1
    have HL := Lib.hid _x.2.1
    have HV := Lib.hid _x.2.2.1
    have HB := Lib.hid _x.2.2.2.1
    have zW := _x.2.2.2.2
    clear _x
    generalize World.alloc (World.alloc (World.alloc w _) _) _ = W at *
    refine (HCW.out _ _ _ (HA.out.below HB.out) (HV.out.cell 0)).mono ?_
    rintro _ w1 ⟨rfl, hb1⟩
    have nHX := Lib.hid (HX.out.below hb1)
    have nHL := Lib.hid (HL.out.below hb1)
    have nHB := Lib.hid (bthen HB.out hb1)
    clear HX HL HB hb1
    have HX := nHX
    have HL := nHL
    have HB := nHB
    clear nHX nHL nHB
    clear HV
    go_wp2_with (fail)
    go_ret2
    exact ⟨_, rfl, HB.out, fun _ => rfl, fun h => absurd h HNE.out⟩
end Go.Proofs.YtonfnhonbnfdoaaGreat

namespace Go.Proofs.YtonfnhonbnfdoaaGreat
open Go Go.RowKit Go.Proofs

end Go.Proofs.YtonfnhonbnfdoaaGreat

namespace Go.Proofs.YtonfnhonbnfdoaaGreat
open Go Go.RowKit Go.Proofs
set_option maxRecDepth 100000
set_option maxHeartbeats 8000000

end Go.Proofs.YtonfnhonbnfdoaaGreat

namespace Go.Proofs.YtonfnhonbnfdoaaGreat
open Go Go.RowKit Go.Proofs
set_option maxRecDepth 100000
set_option maxHeartbeats 8000000
theorem wblk_setRow {w : World} {g : Nat} {t : TypeId} {old cs : Array Value} (h : Blk w g t old) : Blk (w.setRow g cs) g t cs := setRow_heap w g old cs t (0, 0) h
end Go.Proofs.YtonfnhonbnfdoaaGreat

namespace Go.Proofs.YtonfnhonbnfdoaaGreat
open Go Go.RowKit Go.Proofs
set_option maxRecDepth 100000
set_option maxHeartbeats 8000000
/-- The best haven of each tick, n ticks from t on; else the first tick without one. -/
def prfR (bf : Int → Option HavD) : Nat → Int → List HavD → List HavD × Int × Bool
  | 0, _, l => (l, 0, true)
  | n + 1, t, l => match bf t with
    | none => ([], t, false)
    | some h => prfR bf n (t + 1) (l ++ [h])
def FliD.prf (F : FliD) (lt tt : Tab) (op : Nat → Int → Bool) (P : Nat) : List HavD × Int × Bool := prfR (fun t => bestL (F.havK lt tt op t false P)) (F.ticks lt) F.dep []
theorem fproof_c (M : MetD) (vF vS v vN : Value) (P : Nat) (lt tt : Tab) (F : FliD) (vR : Value) (lw ls lc : Int) (li lb : Bool) (w : World) (h : FliAt w v vN M vF vS P lt tt F vR lw ls lc li lb) (hM : MetAt w vF vS M) (hP : M.places = P) (hp8 : P ≤ 8) (hok : F.ok P lt) (hl : LegIn P lt) (htt : TabIn P 51200 tt) :
   Calls Tryz.prog 54 #[v] w fun e w' => ∃ vO, e = .returned (.tuple #[vO, .int .i64 (F.prf lt tt (opM M lw ls lc li lb) P).2.1, .bool (F.prf lt tt (opM M lw ls lc li lb) P).2.2]) ∧ RowKit.Below w.heap.size w w' ∧ SlH w' vO (F.prf lt tt (opM M lw ls lc li lb) P).1 := by
  obtain ⟨op, hop⟩ : ∃ op : Nat → Int → Bool, op = opM M lw ls lc li lb := ⟨_, rfl⟩
  have hhv := fun t w1 h hm h0 h1 => fhavens_c M vF vS v vN P lt tt F vR lw ls lc li lb t false w1 h hm hP hp8 hok hl htt h0 h1
  rw [← hop] at hhv ⊢
  have HHV := Lib.hid hhv
  have hnu := FliD.nums_iff.1 hok.1
  have har := fun w1 h => arrival_c M vF vS v vN P lt tt F vR lw ls lc li lb w1 h hnu.1.1
  have hen := hok.2.2
  have hdp : F.dep ≤ F.at_ lt (F.m - 1) := by
    have hmono : ∀ i, F.flown P lt (i + 1) → F.dep ≤ F.at_ lt i := by
      intro i
      induction i with
      | zero => intro _; exact Int.le_refl _
      | succ i ih =>
        intro hf
        have := ih ⟨fun j hj => hf.1 j (by omega), fun j hj => hf.2 j (by omega)⟩
        have := hf.2 i (by omega)
        show F.dep ≤ F.at_ lt i + lt (F.R i).toNat (F.R (i + 1)).toNat
        omega
    exact hmono _ ⟨fun j hj => hok.2.1.1 j (by omega), fun j hj => hok.2.1.2 j (by omega)⟩
  obtain ⟨ar, har0⟩ : ∃ ar, ar = F.at_ lt (F.m - 1) := ⟨_, rfl⟩
  rw [← har0] at har hen hdp
  obtain ⟨R, hR⟩ : ∃ R, R = F.prf lt tt op P := ⟨_, rfl⟩
  rw [← hR]
  have hR2 : prfR (fun t => bestL (F.havK lt tt op t false P)) ((ar - F.dep + 1).toNat - 0) (F.dep + (0 : Nat)) [] = R := by
    rw [hR]; unfold FliD.prf FliD.ticks FliD.arr; rw [← har0, Nat.sub_zero]; simp
  have HR := Lib.hid hR2
  have HAR0 := Lib.hid har0
  have HAR := Lib.hid har
  have HF := Lib.hid h
  have HM := Lib.hid hM
  obtain ⟨gx, vA, rfl, hx, hN, -⟩ := h
  obtain ⟨gN, gL, gT, cL, cT, rL, rT, loL, hiL, loT, hiT, rfl, n1, -, -⟩ := hN
  have x2 := hx.cell 2
  simp only [List.getElem?_toArray, List.getElem?_cons_succ, List.getElem?_cons_zero] at x2
  clear hM hP hok hl htt hop hhv har har0 hR hR2 hx n1
  obtain ⟨-, hd, -⟩ := hnu
  generalize hdv : F.dep = dep at *
  obtain ⟨n, hn⟩ : ∃ n, n = (ar - dep + 1).toNat := ⟨_, rfl⟩
  have hnz : (n : Int) = ar - dep + 1 := by omega
  rw [← hn] at HR
  have HD := Lib.hid hdv
  have hn2 : n ≤ 2001 := by omega
  clear hn hdv
  go_enter Tryz.func54, Tryz.ntmps54
  go_wp2_with (fail)
  go_loopg [2, 5] n (fun gy ov iv wr => ∃ (j : Nat) (l : List HavD), iv = .int .i64 (dep + j) ∧ j ≤ n ∧ n - j ≤ gy ∧ l.length ≤ j ∧ Hid (prfR (fun t => bestL (F.havK lt tt op t false P)) (n - j) (dep + j) l = R) ∧ Hid (HvK l ov w wr))
  case atStart => exact ⟨0, [], by first | rfl | simp, Nat.zero_le _, Nat.sub_le _ _, Nat.le_refl _, HR, Lib.hid ⟨RowKit.Below.refl _ _, World.ownsRow_nil _ _ _ _⟩⟩
  case round =>
    clear x2 HR
    obtain ⟨j, l, rfl, hj, hgy, hlj, HR, K0⟩ := hrel
    by_cases hlt : j < n
    case pos =>
      have hle : dep + (j : Int) ≤ ar := by omega
      have hjb : (j : Int) ≤ 2000 := by omega
      go_wp2_with (first | (go_at_call 61; refine (HAR.out _ (HF.out.below K0.out.b)).mono ?_; rintro e w2 ⟨rfl, hb2⟩; have nK := Lib.hid (K0.out.below hb2); clear hb2 K0; have K0 := nK; clear nK))
      refine (HHV.out _ _ (HF.out.below K0.out.b) (HM.out.below K0.out.b) (by omega) (by rw [← HAR0.out]; omega)).mono ?_
      rintro e w3 ⟨vO, rfl, hb3, hO⟩
      obtain ⟨AO, cO, rfl, -, -, hO⟩ := hO
      have hbe := hvbest_c AO cO _ w3 (by have := FliD.havK_len (F := F) (lt := lt) (tt := tt) (op := op) (t := dep + (j : Int)) (dry := false) P; omega) hO
      obtain ⟨i, hi⟩ : ∃ i, n - j = i + 1 := ⟨n - j - 1, by omega⟩
      have hRR := HR.out
      rw [hi] at hRR
      unfold prfR at hRR
      have nK := Lib.hid (K0.out.below hb3)
      clear hO hb3 K0 HR
      have K0 := nK
      clear nK
      cases hbs : bestL (F.havK lt tt op (dep + (j : Int)) false P) with
      | none =>
        rw [hbs] at hbe hRR
        obtain rfl : R = ([], dep + (j : Int), false) := hRR.symm
        simp only [Option.getD_none, Option.isSome_none] at hbe
        unfold hvC hvz at hbe
        go_wp2_with (fail)
        refine hbe.mono ?_
        clear hbe
        rintro e w4 ⟨rfl, hb4⟩
        have HB4 := Lib.hid (bthen K0.out.b hb4)
        clear hb4 K0
        go_wp2_with (fail)
        go_ret3
        exact ⟨_, rfl, bal HB4.out _, ⟨none, 0, rfl, Nat.le_refl _, by decide, fun h => absurd h (Nat.lt_irrefl _)⟩⟩
      | some x =>
        rw [hbs] at hbe hRR
        obtain ⟨xp, xt, xb⟩ := x
        simp only [Option.getD_some, Option.isSome_some] at hbe
        unfold hvC at hbe
        dsimp only at hbe hRR
        have HRR := Lib.hid hRR
        clear hRR hbs
        go_wp2_with (fail)
        refine hbe.mono ?_
        clear hbe
        rintro e w4 ⟨rfl, hb4⟩
        have nK := Lib.hid (K0.out.below (bal hb4 (.cells #[.int .i64 (xp : Int), .int .i64 xt, .bool xb] 47)))
        clear hb4 K0
        have hw4 : w.heap.size ≤ w4.heap.size + 1 := by have := nK.out.b.size; simp at this; omega
        go_wp2_with (first | (at_builtin; refine wpl_appH rfl _ _ rfl w.heap.size u2 l.length _ rfl (ownsRow_below nK.out.o (bal (RowKit.Below.refl _ _) _)) (w4.heap.size + 1) (xp : Int) xt xb rfl ?aZ ?cZ ?dZ (by omega) ?bZ ?_))
        (try case aZ => exact (Blk.newA (g := w4.heap.size + 1) _ _ _ (by simp)).cell 0)
        (try case cZ => exact (Blk.newA (g := w4.heap.size + 1) _ _ _ (by simp)).cell 1)
        (try case dZ => exact (Blk.newA (g := w4.heap.size + 1) _ _ _ (by simp)).cell 2)
        case bZ => simp; omega
        intro v' w6 ho hg
        have nK2 := Lib.hid (HvK.app (x := ⟨xp, xt, xb⟩) (nK.out.below (bal (RowKit.Below.refl _ _) _)) ho.out hg.out)
        go_wp2_with (fail)
        go_roundg (n - (j + 1))
        case measure => omega
        case rel => exact ⟨j + 1, l ++ [⟨xp, xt, xb⟩], by first | rfl | go_num | (congr 1; omega), by omega, by omega, by simp; omega, Lib.hid (by rw [show n - (j + 1) = i by omega, show dep + ((j + 1 : Nat) : Int) = dep + (j : Int) + 1 by omega]; exact HRR.out), nK2⟩
    obtain rfl : n = j := by omega
    have hgt : ¬ dep + (n : Int) ≤ ar := by omega
    have hRR := HR.out
    rw [Nat.sub_self] at hRR
    obtain rfl : R = (l, 0, true) := hRR.symm
    go_wp2_with (first | (go_at_call 61; refine (HAR.out _ (HF.out.below K0.out.b)).mono ?_; rintro e w2 ⟨rfl, hb2⟩; have nK := Lib.hid (K0.out.below hb2); clear hb2))
    go_ret3
    exact ⟨_, rfl, nK.out.b, SlH.of_owns nK.out.o⟩
end Go.Proofs.YtonfnhonbnfdoaaGreat

namespace Go.Proofs.YtonfnhonbnfdoaaGreat
open Go Go.RowKit Go.Proofs
end Go.Proofs.YtonfnhonbnfdoaaGreat
