/- Texts joined: JAQ. -/
import Derived.Test.YtlambeiafdpkgaaGreatJAP
import Derived.Test.YtlambeiafdpkgaaGreatJAN
import Derived.Test.YtlambeiafdpkgaaGreatJAO
import Derived.Test.YtlambeiafdpkgaaGreatJAJ
import Derived.Test.YtlambeiafdpkgaaGreatJAA
import Derived.Test.YtlambeiafdpkgaaGreatJAM
set_option linter.all false
namespace Go.Proofs.YtlambeiafdpkgaaGreat
open Go Go.RowKit Go.Proofs
set_option maxRecDepth 100000
set_option maxHeartbeats 8000000
def nums (n : Nat) (P : Nat → Int) : List Value := (List.range n).map fun k => .int .i64 (P k)
theorem nums_length (n : Nat) (P : Nat → Int) : (nums n P).length = n := by simp [nums]
theorem nums_get (n : Nat) (P : Nat → Int) (k : Nat) (hk : k < n) : (nums n P)[k]? = some (.int .i64 (P k)) := by simp [nums, hk]
theorem grown_refl (w : World) (o : Option Nat) : w.grownBy w o := ⟨rfl, rfl, rfl, Nat.le_refl _, fun _ _ _ => rfl⟩
theorem wpl_appL {ops : Array Oper} {rest : List Oper} {o : Oper} {a : Act} {w : World} {Q : Exit → Act → World → Prop} (hgd : o.guard = none) (s x : Operand)
  (ho : o.op = .call { callee := .builtin .append, args := #[s, x], argTypes := #[35, 35] }) (base : Nat) (v : Value) (n : Nat) (xs : List Value) (hs : a.eval s = v) (hown : w.ownsRow base 3 1 v n xs)
  (A : Option Addr) (m c : Nat) (P : Nat → Int) (hx : a.eval x = .slice A m c) (hr : RecsAt w A m 1 (lV P)) (hm : m ≤ 3000) (hn : n ≤ 10000) (hbase : base ≤ w.heap.size)
  (h : ∀ v' w', w'.ownsRow base 3 1 v' (n + m) (xs ++ nums m P) → w.grownBy w' v.ownBlock → wpList Tryz.prog ops Q rest (a.put o.dst v') w') : wpList Tryz.prog ops Q (o :: rest) a w := by
 have hI := Tryz.intI
 cases hi : Tryz.prog.info? 3 with
 | none => rw [hi] at hI; cases hI
 | some i =>
  rw [hi] at hI
  simp only [Option.map_some, Option.some.injEq, Prod.mk.injEq] at hI
  obtain ⟨i1, i2, i3⟩ := hI
  cases A with
  | some ad =>
   refine wpList_append_own w hgd s x 35 ho base 3 i (.int .i64 0) 1 8 Tryz.intsU hi i1 i2 i3 rfl (by decide) v n xs hs hown ad m c (nums m P) hx (by rw [nums_length]; omega) (fun j u hj => ?_) (fun u hu => ?_) (by unfold maxLen; omega) (by omega) hbase (fun v' w' h1 h2 _ => h v' w' h1 h2)
   ·have hjm : j < m := by have := (List.getElem?_eq_some_iff.1 hj).1; rwa [nums_length] at this
    rw [nums_get m P j hjm] at hj
    obtain rfl : Value.int .i64 (P j) = u := by simpa using hj
    obtain ⟨b, off, hA, -, hc⟩ := hr (by omega)
    obtain rfl : ad = ⟨b, off, none⟩ := by simpa using hA
    have := hc j hjm 0 (by omega)
    rw [Nat.mul_one, Nat.add_zero] at this
    have hadd : (⟨b, off, none⟩ : Addr).add j = ⟨b, off + j, none⟩ := by unfold Addr.add; split <;> simp_all
    rw [hadd]; exact this
   ·obtain ⟨k, -, rfl⟩ := List.mem_map.1 hu
    rfl
  | none =>
   have hm0 : m = 0 := by
    rcases Nat.eq_zero_or_pos m with h0 | h0
    ·exact h0
    ·obtain ⟨b, off, hA, -⟩ := hr h0; cases hA
   subst hm0
   have hU := Tryz.intsU
   have hrun : (Builtin.append_ #[35, 35] o.type #[v, .slice none 0 c]).run Tryz.prog w = .ok v w := by
    rcases hown.2 with ⟨rfl, rfl⟩ | ⟨g, cap, cur, rfl, -, -, hcap, -⟩
    ·simp [Builtin.append_, run_underlying hU, sizeOf, typeInfo, hi, Builtin.lenOf, Builtin.firstCells, storeCells]
    ·simp [Builtin.append_, run_underlying hU, sizeOf, typeInfo, hi, Builtin.lenOf, Builtin.firstCells, storeCells, hcap]
   refine wpList_plain hgd fun K' hK' => ?_
   unfold Oper.wp
   simp [execOp, ho, resolve, invoke, builtin, hs, hx, hrun, Result.andThen]
   exact hK' _ _ (h v w (by simpa [nums] using hown) (grown_refl _ _))
def movL (Mo : MovD) : Nat → List Value
 | 0 => []
 | 1 => nums Mo.np Mo.P
 | 2 => nums Mo.np Mo.P ++ nums Mo.np Mo.R
 | _ => nums Mo.np Mo.P ++ nums Mo.np Mo.R ++ nums Mo.np Mo.V
theorem RecsAt.under {w w' : World} {A : Option Addr} {n k : Nat} {V : Nat → Nat → Value} (h : RecsAt w A n k V) (hb : Below w.heap.size w w') : RecsAt w' A n k V := h.below hb
theorem dconcat_c (b c c1 c2 c3 : Nat) (A1 A2 A3 : Option Addr) (Mo : MovD) (w : World) (hn : Mo.np ≤ 2001) (h1 : RecsAt w A1 Mo.np 1 (lV Mo.P)) (h2 : RecsAt w A2 Mo.np 1 (lV Mo.R)) (h3 : RecsAt w A3 Mo.np 1 (lV Mo.V))
  (d0 : w.cell? ⟨b, 0, none⟩ = some (.slice A1 Mo.np c1)) (d1 : w.cell? ⟨b, 1, none⟩ = some (.slice A2 Mo.np c2)) (d2 : w.cell? ⟨b, 2, none⟩ = some (.slice A3 Mo.np c3)) :
  Calls Tryz.prog 172 #[.slice (some ⟨b, 0, none⟩) 3 c] w fun e w' => ∃ v, e = .returned v ∧ Below w.heap.size w w' ∧ w'.ownsRow w.heap.size 3 1 v (3 * Mo.np) (movL Mo 3) := by
 have D0 := hI9 (fun w1 (hb : Below w.heap.size w w1) => (hb.cell (p := ⟨b, 0, none⟩) (blk_lt d0)).trans d0)
 have D1 := hI9 (fun w1 (hb : Below w.heap.size w w1) => (hb.cell (p := ⟨b, 1, none⟩) (blk_lt d1)).trans d1)
 have D2 := hI9 (fun w1 (hb : Below w.heap.size w w1) => (hb.cell (p := ⟨b, 2, none⟩) (blk_lt d2)).trans d2)
 have R1 := hI9 h1
 have R2 := hI9 h2
 have R3 := hI9 h3
 clear h1 h2 h3 d0 d1 d2
 go_enter Tryz.func172, Tryz.ntmps172
 go_wp2_with (fail)
 go_loopg [3, 11] 3 (fun gx z i wr => ∃ k : Nat, i = .int .i64 k ∧ k ≤ 3 ∧ 3 - k ≤ gx ∧ z = .int .i64 ((Mo.np * k : Nat) : Int) ∧ Hid (w = wr))
 case atStart => exact ⟨0, rfl, Nat.zero_le _, Nat.le_refl _, by simp, rfl⟩
 case round =>
  obtain ⟨k, rfl, hk, hgx, rfl, HW⟩ := hrel
  have hW := HW.out
  subst hW
  have e0 := D0.out _ (Below.refl _ _)
  have e1 := D1.out _ (Below.refl _ _)
  have e2 := D2.out _ (Below.refl _ _)
  rcases (show k = 0 ∨ k = 1 ∨ k = 2 ∨ k = 3 by omega) with rfl | rfl | rfl | rfl
  ·have hs0 : ¬ (((Mo.np * 0 : Nat) : Int) + (Mo.np : Int) < 0) := by omega
   go_wp2_with (fail)
   go_roundg (3 - 1)
   case measure => omega
   case rel => exact ⟨1, by first | rfl | go_num | (congr 1; omega), by omega, Nat.le_refl _, by first | rfl | go_num | (congr 1; omega), hI9 rfl⟩
  ·have hs0 : ¬ (((Mo.np * 1 : Nat) : Int) + (Mo.np : Int) < 0) := by omega
   go_wp2_with (fail)
   go_roundg (3 - 2)
   case measure => omega
   case rel => exact ⟨2, by first | rfl | go_num | (congr 1; omega), by omega, Nat.le_refl _, by first | rfl | go_num | (congr 1; omega), hI9 rfl⟩
  ·have hs0 : ¬ (((Mo.np * 2 : Nat) : Int) + (Mo.np : Int) < 0) := by omega
   go_wp2_with (fail)
   go_roundg (3 - 3)
   case measure => omega
   case rel => exact ⟨3, by first | rfl | go_num | (congr 1; omega), by omega, Nat.le_refl _, by first | rfl | go_num | (congr 1; omega), hI9 rfl⟩
  ·clear e0 e1 e2
   go_wp2_with (fail)
   refine (dgrow_c (Mo.np * 3) _ (by omega)).mono ?_
   rintro e w2 ⟨v, rfl, hb, ho⟩
   have L0 := hI9 (show Below w.heap.size w w2 ∧ w2.ownsRow w.heap.size 3 1 v (Mo.np * 0) (movL Mo 0) from ⟨hb, (by simpa [movL] using ho)⟩)
   clear hb ho
   go_wp2_with (fail)
   go_loopg [6, 27] 3 (fun gx v i wr => ∃ k : Nat, i = .int .i64 k ∧ k ≤ 3 ∧ 3 - k ≤ gx ∧ Hid (Below w.heap.size w wr ∧ wr.ownsRow w.heap.size 3 1 v (Mo.np * k) (movL Mo k)))
   case atStart => exact ⟨0, rfl, Nat.zero_le _, Nat.le_refl _, L0⟩
   case round =>
    clear L0
    obtain ⟨k, rfl, hk, hgx, L0⟩ := hrel
    have e0 := D0.out _ L0.out.1
    have e1 := D1.out _ L0.out.1
    have e2 := D2.out _ L0.out.1
    rcases (show k = 0 ∨ k = 1 ∨ k = 2 ∨ k = 3 by omega) with rfl | rfl | rfl | rfl
    ·go_wp2_with (at_builtin; go_loud (refine wpl_appL rfl _ _ rfl w.heap.size _ (Mo.np * 0) (movL Mo 0) rfl L0.out.2 A1 Mo.np c1 Mo.P rfl (R1.out.under L0.out.1) (by omega) (by omega) L0.out.1.size ?_))
     intro v2 w2 o2 g2
     have L1 := hI9 (show Below w.heap.size w w2 ∧ w2.ownsRow w.heap.size 3 1 v2 (Mo.np * 1) (movL Mo 1) from ⟨L0.out.1.trans (below_grown g2 L0.out.1.size (fun b hb => owns_base L0.out.2 hb)), by simpa [movL] using o2⟩)
     clear o2 g2 L0 e0 e1 e2
     go_wp2_with (fail)
     go_roundg (3 - 1)
     case measure => omega
     case rel => exact ⟨1, by first | rfl | go_num | (congr 1; omega), by omega, Nat.le_refl _, L1⟩
    ·go_wp2_with (at_builtin; go_loud (refine wpl_appL rfl _ _ rfl w.heap.size _ (Mo.np * 1) (movL Mo 1) rfl L0.out.2 A2 Mo.np c2 Mo.R rfl (R2.out.under L0.out.1) (by omega) (by omega) L0.out.1.size ?_))
     intro v2 w2 o2 g2
     have L1 := hI9 (show Below w.heap.size w w2 ∧ w2.ownsRow w.heap.size 3 1 v2 (Mo.np * 2) (movL Mo 2) from ⟨L0.out.1.trans (below_grown g2 L0.out.1.size (fun b hb => owns_base L0.out.2 hb)), by rw [show Mo.np * 2 = Mo.np + Mo.np by omega]; exact o2⟩)
     clear o2 g2 L0 e0 e1 e2
     go_wp2_with (fail)
     go_roundg (3 - 2)
     case measure => omega
     case rel => exact ⟨2, by first | rfl | go_num | (congr 1; omega), by omega, Nat.le_refl _, L1⟩
    ·go_wp2_with (at_builtin; go_loud (refine wpl_appL rfl _ _ rfl w.heap.size _ (Mo.np * 2) (movL Mo 2) rfl L0.out.2 A3 Mo.np c3 Mo.V rfl (R3.out.under L0.out.1) (by omega) (by omega) L0.out.1.size ?_))
     intro v2 w2 o2 g2
     have L1 := hI9 (show Below w.heap.size w w2 ∧ w2.ownsRow w.heap.size 3 1 v2 (Mo.np * 3) (movL Mo 3) from ⟨L0.out.1.trans (below_grown g2 L0.out.1.size (fun b hb => owns_base L0.out.2 hb)), by rw [show Mo.np * 3 = Mo.np * 2 + Mo.np by omega]; exact o2⟩)
     clear o2 g2 L0 e0 e1 e2
     go_wp2_with (fail)
     go_roundg (3 - 3)
     case measure => omega
     case rel => exact ⟨3, by first | rfl | go_num | (congr 1; omega), by omega, Nat.le_refl _, L1⟩
    ·clear e0 e1 e2
     go_wp2_with (fail)
     go_ret
     exact ⟨_, rfl, L0.out.1, by rw [Nat.mul_comm]; exact L0.out.2⟩
end Go.Proofs.YtlambeiafdpkgaaGreat

namespace Go.Proofs.YtlambeiafdpkgaaGreat
open Go Go.RowKit Go.Proofs
set_option maxRecDepth 100000
set_option maxHeartbeats 8000000
structure StK (w : World) (l : List (Int × Int)) (v : Value) (wr : World) : Prop where
 b : Below w.heap.size w wr
 o : wr.ownsRow w.heap.size 28 2 v l.length (spC l)
 n : v = .slice none 0 0 ↔ l = []
theorem StK.grow {w wr w2 : World} {l : List (Int × Int)} {v : Value} (h : StK w l v wr) (hb : Below wr.heap.size wr w2) : StK w l v w2 := ⟨bthen h.b hb, ownsRow_below h.o hb, h.n⟩
theorem StK.take {w wr w2 : World} {l : List (Int × Int)} {v v' : Value} {p : Int × Int} (h : StK w l v wr) (h1 : w2.ownsRow w.heap.size 28 2 v' (l ++ [p]).length (spC (l ++ [p]))) (h2 : wr.grownBy w2 v.ownBlock) (h3 : v' ≠ .slice none 0 0) : StK w (l ++ [p]) v' w2 :=
 ⟨h.b.trans (below_grown h2 h.b.size (fun b hb => owns_base h.o hb)), h1, by simp [h3]⟩
def PredT (P : Program) (g : Nat) (lb : Array Value) (fr te : Int) (is : Int → Bool) (w : World) : Prop :=
 ∀ (W : World) (t : Int), fr ≤ t → t < te → Below w.heap.size w W → Calls P g (#[.int .i64 t] ++ lb) W fun e w' => e = .returned (.bool (is t)) ∧ Below W.heap.size W w'
theorem dstretches_c (g : Nat) (lb : Array Value) (is : Int → Bool) (fr te least : Int) (w : World) (h0 : 0 ≤ fr) (h1 : te ≤ 2000) (hl0 : 1 ≤ least) (hl1 : least ≤ 100000)
  (eg : ∀ args w, (callFunc g args).run Tryz.prog w = .ok (.enter g args) w) (hp : PredT Tryz.prog g lb fr te is w) :
  Calls Tryz.prog 29 #[.int .i64 fr, .int .i64 te, .int .i64 least, .func (.func g) #[] lb] w fun e w' => ∃ v, e = .returned v ∧ Below w.heap.size w w' ∧
   w'.ownsRow w.heap.size 28 2 v (strV is fr te least).length (spC (strV is fr te least)) ∧ (v = .slice none 0 0 ↔ strV is fr te least = []) := by
 unfold strV
 obtain ⟨R, hR⟩ : ∃ q, q = strR is te least (te + 1 - fr).toNat fr fr := ⟨_, rfl⟩
 rw [← hR]
 have HR := hI9 hR
 have HP := hI9 hp
 clear hR hp
 go_enter Tryz.func29, Tryz.ntmps29
 go_wp2_with (fail)
 have K0 := hI9 (show StK w [] (.slice none 0 0) w from ⟨Below.refl _ _, World.ownsRow_nil _ _ _ _, by simp⟩)
 go_loopg [8, 9, 10] (te + 1 - fr).toNat (fun gx v f i wr => ∃ (tt ff : Int) (l : List (Int × Int)), i = .int .i64 tt ∧ f = .int .i64 ff ∧ fr ≤ tt ∧ fr ≤ ff ∧ ff ≤ tt ∧ (l.length : Int) ≤ tt - fr ∧ (te + 1 - tt).toNat ≤ gx ∧ Hid (StK w l v wr) ∧ Hid (l ++ strR is te least (te + 1 - tt).toNat tt ff = R))
 case atStart => exact ⟨fr, fr, [], rfl, rfl, Int.le_refl _, Int.le_refl _, Int.le_refl _, by simp, Nat.le_refl _, K0, HR.out.symm⟩
 case round =>
  clear K0
  obtain ⟨tt, ff, l, rfl, rfl, ht, hf, hft, hlen, hgx, K0, HE⟩ := hrel
  by_cases hle : tt ≤ te
  ·have hE := HE.out
   rw [show (te + 1 - tt).toNat = (te + 1 - (tt + 1)).toNat + 1 by omega] at hE
   unfold strR at hE
   by_cases hlt : tt < te
   ·have hcall := HP.out wr tt ht hlt K0.out.b
    rw [show decide (tt < te) = true from decide_eq_true hlt, Bool.true_and] at hE
    cases hq : is tt
    ·rw [hq] at hE hcall
     rw [if_neg (by decide)] at hE
     by_cases hg : least ≤ tt - ff
     ·rw [if_pos hg] at hE
      have HE2 := hI9 (show (l ++ [(ff, tt - 1)]) ++ strR is te least (te + 1 - (tt + 1)).toNat (tt + 1) (tt + 1) = R from by rw [List.append_assoc]; exact hE)
      clear hE HE hq
      go_wp2_with (first | (go_at_fn g; refine hcall.mono ?_; rintro e w1 ⟨rfl, hb1⟩) | (at_builtin; go_loud (refine wpl_appW rfl _ _ rfl w.heap.size _ l rfl ((K0.out.grow hb1).o.alloc _) _ (ff, tt - 1) rfl ?a1 ?b1 (by omega) ?c1 ?_)))
      case c1 => have := (K0.out.grow hb1).b.size; first | omega | (simp; omega)
      ·intro v2 w3 O2 G2 N2
       have K2 := hI9 (((K0.out.grow hb1).grow (bal (Below.refl _ _) _)).take (p := (ff, tt - 1)) (by simpa using O2) G2 N2)
       clear O2 G2 N2
       go_wp2_with (fail)
       go_roundg (te + 1 - (tt + 1)).toNat
       case measure => omega
       case rel => exact ⟨tt + 1, tt + 1, l ++ [(ff, tt - 1)], by first | rfl | go_num | (congr 1; omega), by first | rfl | go_num | (congr 1; omega), by omega, by omega, Int.le_refl _, by simp; omega, Nat.le_refl _, K2, HE2⟩
     ·rw [if_neg hg] at hE
      have HE2 := hI9 hE
      clear hE HE hq
      go_wp2_with (first | (go_at_fn g; refine hcall.mono ?_; rintro e w1 ⟨rfl, hb1⟩))
      go_roundg (te + 1 - (tt + 1)).toNat
      case measure => omega
      case rel => exact ⟨tt + 1, tt + 1, l, by first | rfl | go_num | (congr 1; omega), by first | rfl | go_num | (congr 1; omega), by omega, by omega, Int.le_refl _, by omega, Nat.le_refl _, hI9 (K0.out.grow hb1), HE2⟩
    ·rw [hq] at hE hcall
     rw [if_pos rfl] at hE
     have HE2 := hI9 hE
     clear hE HE hq
     go_wp2_with (first | (go_at_fn g; refine hcall.mono ?_; rintro e w1 ⟨rfl, hb1⟩))
     go_roundg (te + 1 - (tt + 1)).toNat
     case measure => omega
     case rel => exact ⟨tt + 1, ff, l, by first | rfl | go_num | (congr 1; omega), rfl, by omega, by omega, by omega, by omega, Nat.le_refl _, hI9 (K0.out.grow hb1), HE2⟩
   ·rw [show decide (tt < te) = false from decide_eq_false hlt, Bool.false_and, if_neg (by decide)] at hE
    by_cases hg : least ≤ tt - ff
    ·rw [if_pos hg] at hE
     have HE2 := hI9 (show (l ++ [(ff, tt - 1)]) ++ strR is te least (te + 1 - (tt + 1)).toNat (tt + 1) (tt + 1) = R from by rw [List.append_assoc]; exact hE)
     clear hE HE
     go_wp2_with (first | (at_builtin; go_loud (refine wpl_appW rfl _ _ rfl w.heap.size _ l rfl (K0.out.o.alloc _) _ (ff, tt - 1) rfl ?a2 ?b2 (by omega) ?c2 ?_)))
     case c2 => have := K0.out.b.size; first | omega | (simp; omega)
     ·intro v2 w3 O2 G2 N2
      have K2 := hI9 ((K0.out.grow (bal (Below.refl _ _) _)).take (p := (ff, tt - 1)) (by simpa using O2) G2 N2)
      clear O2 G2 N2
      go_wp2_with (fail)
      go_roundg (te + 1 - (tt + 1)).toNat
      case measure => omega
      case rel => exact ⟨tt + 1, tt + 1, l ++ [(ff, tt - 1)], by first | rfl | go_num | (congr 1; omega), by first | rfl | go_num | (congr 1; omega), by omega, by omega, Int.le_refl _, by simp; omega, Nat.le_refl _, K2, HE2⟩
    ·rw [if_neg hg] at hE
     have HE2 := hI9 hE
     clear hE HE
     go_wp2_with (fail)
     go_roundg (te + 1 - (tt + 1)).toNat
     case measure => omega
     case rel => exact ⟨tt + 1, tt + 1, l, by first | rfl | go_num | (congr 1; omega), by first | rfl | go_num | (congr 1; omega), by omega, by omega, Int.le_refl _, by omega, Nat.le_refl _, K0, HE2⟩
  ·have hE := HE.out
   rw [show (te + 1 - tt).toNat = 0 by omega] at hE
   have hq : l = R := by simpa [strR] using hE
   subst hq
   go_wp2_with (fail)
   go_ret
   exact ⟨_, rfl, K0.out.b, K0.out.o, K0.out.n⟩
theorem SlAt.ints {w : World} {v : Value} {n : Nat} {P : Nat → Int} (h : SlAt w v n 1 (lV P)) (hn : 0 < n) : ∃ b off c, v = .slice (some ⟨b, off, none⟩) n c ∧ b < w.heap.size ∧ ∀ k, k < n → w.cell? ⟨b, off + k, none⟩ = some (.int .i64 (P k)) := by
 obtain ⟨A, c, rfl, -, -, hr⟩ := h.e
 obtain ⟨b, off, rfl, hb, hc⟩ := hr hn
 refine ⟨b, off, c, rfl, hb, fun k hk => ?_⟩
 have := hc k hk 0 (by omega)
 rw [Nat.mul_one, Nat.add_zero] at this
 exact this
end Go.Proofs.YtlambeiafdpkgaaGreat

namespace Go.Proofs.YtlambeiafdpkgaaGreat
open Go Go.RowKit Go.Proofs
set_option maxRecDepth 100000
set_option maxHeartbeats 8000000
theorem Tryz.entMo : ∀ args w, (callFunc 173 args).run Tryz.prog w = .ok (.enter 173 args) w := enters_of Tryz.func173 (by kernel_rfl) rfl
theorem dmo1_c (n : Int) (w : World) : Calls Tryz.prog 173 #[.int .i64 n] w fun e w' => e = .returned (.bool (!inB n (-300) 300)) ∧ w = w' := by
 go_enter Tryz.func173, Tryz.ntmps173
 go_wp2_with (first | (go_at_call 34; (with_reducible refine (dwithin_c _ _ _ _).mono ?_); rintro e w1 ⟨rfl, rfl⟩))
 go_ret
 exact ⟨rfl, rfl⟩
def movX (Mo : MovD) (k : Nat) : Int := if k < Mo.np then Mo.P k else if k < 2 * Mo.np then Mo.R (k - Mo.np) else Mo.V (k - 2 * Mo.np)
theorem movL_get (Mo : MovD) (k : Nat) (hk : k < 3 * Mo.np) : (movL Mo 3)[k]? = some (.int .i64 (movX Mo k)) := by
 unfold movX
 show (nums Mo.np Mo.P ++ nums Mo.np Mo.R ++ nums Mo.np Mo.V)[k]? = _
 by_cases h1 : k < Mo.np
 ·rw [if_pos h1, List.getElem?_append_left (by rw [List.length_append, nums_length, nums_length]; omega), List.getElem?_append_left (by rw [nums_length]; omega), nums_get _ _ _ h1]
 ·rw [if_neg h1]
  by_cases h2 : k < 2 * Mo.np
  ·rw [if_pos h2, List.getElem?_append_left (by rw [List.length_append, nums_length, nums_length]; omega), List.getElem?_append_right (by rw [nums_length]; omega), nums_length, nums_get _ _ _ (by omega)]
  ·rw [if_neg h2, List.getElem?_append_right (by rw [List.length_append, nums_length, nums_length]; omega), List.length_append, nums_length, nums_length, nums_get _ _ _ (by omega)]
   rw [show Mo.np + Mo.np = 2 * Mo.np by omega]
theorem ints_of_owns {w : World} {base : Nat} {v : Value} {n : Nat} {l : List Value} {xs : Nat → Int} (h : w.ownsRow base 3 1 v n l) (hg : ∀ k, k < n → l[k]? = some (.int .i64 (xs k))) : ∃ A c, v = .slice A n c ∧ IntsAt w A n xs := by
 rcases h.2 with ⟨rfl, rfl⟩ | ⟨g, cap, cur, rfl, h1, h2, -⟩
 ·exact ⟨none, 0, rfl, fun hp => absurd hp (Nat.lt_irrefl _)⟩
 ·refine ⟨some ⟨g, 0, none⟩, cap, rfl, fun hp => ⟨g, 0, rfl, (Array.getElem?_eq_some_iff.1 h2).1, fun k hk => ?_⟩⟩
  rw [Nat.zero_add, h.cellAt (g := g) k (by omega), hg k hk]
theorem movX_any (Mo : MovD) : (List.range (3 * Mo.np)).any (fun k => !inB (movX Mo k) (-300) 300) = !((List.range Mo.np).all fun k => inB (Mo.P k) (-300) 300 && (inB (Mo.R k) (-300) 300 && inB (Mo.V k) (-300) 300)) := by
 rw [Bool.eq_iff_iff]
 simp only [List.any_eq_true, List.mem_range, Bool.not_eq_true', List.all_eq_false, Bool.and_eq_true]
 constructor
 ·rintro ⟨k, hk, h⟩
  unfold movX at h
  by_cases h1 : k < Mo.np
  ·rw [if_pos h1] at h
   exact ⟨k, h1, fun hh => by rw [hh.1] at h; cases h⟩
  ·rw [if_neg h1] at h
   by_cases h2 : k < 2 * Mo.np
   ·rw [if_pos h2] at h
    exact ⟨k - Mo.np, by omega, fun hh => by rw [hh.2.1] at h; cases h⟩
   ·rw [if_neg h2] at h
    exact ⟨k - 2 * Mo.np, by omega, fun hh => by rw [hh.2.2] at h; cases h⟩
 ·rintro ⟨k, hk, h⟩
  cases p1 : inB (Mo.P k) (-300) 300
  ·exact ⟨k, by omega, by unfold movX; rw [if_pos hk]; exact p1⟩
  ·cases p2 : inB (Mo.R k) (-300) 300
   ·exact ⟨k + Mo.np, by omega, by unfold movX; rw [if_neg (by omega), if_pos (by omega), Nat.add_sub_cancel]; exact p2⟩
   ·cases p3 : inB (Mo.V k) (-300) 300
    ·exact ⟨k + 2 * Mo.np, by omega, by unfold movX; rw [if_neg (by omega), if_neg (by omega), Nat.add_sub_cancel]; exact p3⟩
    ·exact absurd ⟨p1, p2, p3⟩ h
theorem dmotion_c (Mo : MovD) (vP vR vV : Value) (w : World) (hA : MovAt w vP vR vV Mo) :
  Calls Tryz.prog 145 #[.agg #[vP, vR, vV]] w fun e w' => e = .returned (.bool Mo.ok) ∧ Below w.heap.size w w' := by
 have HA := hI9 hA
 obtain ⟨A1, c1, rfl, p1, p2, r1⟩ := hA.p.e
 obtain ⟨A2, c2, rfl, q1, q2, r2⟩ := hA.r.e
 obtain ⟨A3, c3, rfl, s1, s2, r3⟩ := hA.v.e
 clear hA
 unfold MovD.ok
 by_cases h1 : Mo.nr = Mo.np
 case neg =>
  have hz : ((Mo.nr : Int) != (Mo.np : Int)) = true := by simp; omega
  rw [decide_eq_false h1, Bool.false_and]
  clear r1 r2 r3
  go_enter Tryz.func145, Tryz.ntmps145
  go_wp2_with (fail)
  go_ret
  exact ⟨rfl, (by repeat' (first | exact Below.refl _ _ | assumption | refine Below.drew ?_ | refine bdn ?_ _ | refine bal ?_ _ | refine Below.setCell ?_ (by first | (simp; done) | omega | (simp; omega)) _))⟩
 by_cases h2 : Mo.nv = Mo.np
 case neg =>
  have hz : ((Mo.nr : Int) != (Mo.np : Int)) = false := by simp; omega
  have hz2 : ((Mo.nv : Int) != (Mo.np : Int)) = true := by simp; omega
  rw [decide_eq_false h2, Bool.false_and, Bool.and_false]
  clear r1 r2 r3 h1
  go_enter Tryz.func145, Tryz.ntmps145
  go_wp2_with (fail)
  go_ret
  exact ⟨rfl, (by repeat' (first | exact Below.refl _ _ | assumption | refine Below.drew ?_ | refine bdn ?_ _ | refine bal ?_ _ | refine Below.setCell ?_ (by first | (simp; done) | omega | (simp; omega)) _))⟩
 by_cases h3 : Mo.np ≤ 2001
 case neg =>
  have hz : ((Mo.nr : Int) != (Mo.np : Int)) = false := by simp; omega
  have hz2 : ((Mo.nv : Int) != (Mo.np : Int)) = false := by simp; omega
  have hz3 : (2001 : Int) < (Mo.np : Int) := by omega
  rw [decide_eq_false h3, Bool.false_and, Bool.and_false, Bool.and_false]
  clear r1 r2 r3 h1 h2
  go_enter Tryz.func145, Tryz.ntmps145
  go_wp2_with (fail)
  go_ret
  exact ⟨rfl, (by repeat' (first | exact Below.refl _ _ | assumption | refine Below.drew ?_ | refine bdn ?_ _ | refine bal ?_ _ | refine Below.setCell ?_ (by first | (simp; done) | omega | (simp; omega)) _))⟩
 rw [decide_eq_true h1, decide_eq_true h2, decide_eq_true h3, Bool.true_and, Bool.true_and, Bool.true_and]
 have hX := movX_any Mo
 obtain ⟨B, hB⟩ : ∃ q, q = (List.range Mo.np).all fun k => inB (Mo.P k) (-300) 300 && (inB (Mo.R k) (-300) 300 && inB (Mo.V k) (-300) 300) := ⟨_, rfl⟩
 rw [← hB] at hX ⊢
 have HX := hI9 hX
 rw [h1] at r2 ⊢
 rw [h2] at r3 ⊢
 have R1 := hI9 r1
 have R2 := hI9 r2
 have R3 := hI9 r3
 have HN := hI9 h3
 have hz3 : ¬ (2001 : Int) < (Mo.np : Int) := by omega
 have hzz : ((Mo.np : Int) != (Mo.np : Int)) = false := by simp
 clear hX hB r1 r2 r3 h1 h2 h3 q1 s1 HA
 go_enter Tryz.func145, Tryz.ntmps145
 go_wp2_with (fail)
 have hB0 : Below w.heap.size w _ := bal (bal (Below.refl _ _) (.cells #[.slice A1 Mo.np c1, .slice A2 Mo.np c2, .slice A3 Mo.np c3] 37)) (.cells #[.slice A1 Mo.np c1, .slice A2 Mo.np c2, .slice A3 Mo.np c3] 35)
 refine (dconcat_c (w.heap.size + 1) 3 c1 c2 c3 A1 A2 A3 Mo _ HN.out (R1.out.under hB0) (R2.out.under hB0) (R3.out.under hB0) (by first | (simp; done) | (rw [cell_new_at _ _ _ _ _ (by simp)]; first | rfl | (simp; done))) (by first | (simp; done) | (rw [cell_new_at _ _ _ _ _ (by simp)]; first | rfl | (simp; done))) (by first | (simp; done) | (rw [cell_new_at _ _ _ _ _ (by simp)]; first | rfl | (simp; done)))).mono ?_
 rintro e w2 ⟨v, rfl, hb, ho⟩
 obtain ⟨A, c, rfl, hi⟩ := ints_of_owns ho (movL_get Mo)
 have hcf := cfInt_c A (3 * Mo.np) c (movX Mo) 173 #[] (fun k => !inB (movX Mo k) (-300) 300) w2 (by omega) Tryz.entMo hi (fun w3 k hk hb => by
  refine (dmo1_c _ w3).mono ?_
  rintro _ _ ⟨rfl, rfl⟩
  exact ⟨rfl, Below.refl _ _⟩)
 rw [HX.out] at hcf
 have HB2 := hI9 (bthen hB0 hb)
 have HCF := hI9 hcf
 clear hb ho hi hcf hB0
 go_wp2_with (go_at_call 65; refine HCF.out.mono ?_; rintro e w3 ⟨rfl, hb3⟩)
 go_ret
 exact ⟨ret_bool (by simp), bthen HB2.out hb3⟩
def cmE (D : DekD) (Mo : MovD) : Int := if D.err = 0 then (if Mo.ok then 0 else 61) else D.err
theorem Tryz.rowDek : RowTy Tryz.prog 26 10 := ⟨by kernel_rfl, by kernel_rfl⟩
theorem Tryz.rowMov : RowTy Tryz.prog 37 3 := ⟨by kernel_rfl, by kernel_rfl⟩
theorem dCheckMotion_c (D : DekD) (vA vB vC : Value) (Mo : MovD) (vP vR vV : Value) (w : World) (hD : DekAt w vA vB vC D) (hA : MovAt w vP vR vV Mo) :
  Calls Tryz.prog 94 #[.agg #[.int .i64 D.size, .int .i64 D.load, .int .i64 D.wind, vA, .int .i64 D.pitch, .int .i64 D.roll, .int .i64 D.heave, .int .i64 D.fire, vB, vC], .agg #[vP, vR, vV]] w fun e w' => e = .returned (.int .i64 (cmE D Mo)) ∧ Below w.heap.size w w' := by
 have HD := hI9 hD
 have HA := hI9 hA
 have hck := fun w1 h => dCheck_c D vA vB vC w1 h
 have hmo := fun w1 h => dmotion_c Mo vP vR vV w1 h
 clear hD hA
 unfold cmE
 by_cases he : D.err = 0
 ·rw [if_pos he]
  rw [he] at hck
  have HCK := hI9 hck
  cases hb : Mo.ok
  ·rw [hb] at hmo
   have HMO := hI9 hmo
   clear hck hmo he hb
   rw [if_neg (by decide)]
   go_enter Tryz.func94, Tryz.ntmps94
   go_wp2_with (fail)
   have _x := frm2 w #[.int .i64 D.size, .int .i64 D.load, .int .i64 D.wind, vA, .int .i64 D.pitch, .int .i64 D.roll, .int .i64 D.heave, .int .i64 D.fire, vB, vC] 26 #[vP, vR, vV] 37
   have HX := hI9 _x.1
   have HY := hI9 _x.2.1
   have HB := hI9 _x.2.2.1
   have zW := _x.2.2.2
   clear _x
   generalize World.alloc (World.alloc w _) _ = W at *
   go_wp2_with (first | (refine wpl_row rfl 26 _ rfl _ rfl _ 10 HX.out Tryz.rowDek rfl ?_; simp only [Act.put]) | (refine wpl_row rfl 37 _ rfl _ rfl _ 3 HY.out Tryz.rowMov rfl ?_; simp only [Act.put]) | (go_at_call 92; (with_reducible refine (HCK.out _ (HD.out.below HB.out)).mono ?_); rintro e w1 ⟨rfl, hb1⟩; have nHX := hI9 (HX.out.below hb1); have nHY := hI9 (HY.out.below hb1); have nHB := hI9 (bthen HB.out hb1); have zz1 := hb1.size; clear HX HY HB hb1; have HX := nHX; have HY := nHY; have HB := nHB; clear nHX nHY nHB) | (go_at_call 145; (with_reducible refine (HMO.out _ (HA.out.below HB.out)).mono ?_); rintro e w1 ⟨rfl, hb1⟩; have nHX := hI9 (HX.out.below hb1); have nHY := hI9 (HY.out.below hb1); have nHB := hI9 (bthen HB.out hb1); have zz1 := hb1.size; clear HX HY HB hb1; have HX := nHX; have HY := nHY; have HB := nHB; clear nHX nHY nHB))
   go_ret
   exact ⟨rfl, HB.out⟩
  ·rw [hb] at hmo
   have HMO := hI9 hmo
   clear hck hmo he hb
   rw [if_pos rfl]
   go_enter Tryz.func94, Tryz.ntmps94
   go_wp2_with (fail)
   have _x := frm2 w #[.int .i64 D.size, .int .i64 D.load, .int .i64 D.wind, vA, .int .i64 D.pitch, .int .i64 D.roll, .int .i64 D.heave, .int .i64 D.fire, vB, vC] 26 #[vP, vR, vV] 37
   have HX := hI9 _x.1
   have HY := hI9 _x.2.1
   have HB := hI9 _x.2.2.1
   have zW := _x.2.2.2
   clear _x
   generalize World.alloc (World.alloc w _) _ = W at *
   go_wp2_with (first | (refine wpl_row rfl 26 _ rfl _ rfl _ 10 HX.out Tryz.rowDek rfl ?_; simp only [Act.put]) | (refine wpl_row rfl 37 _ rfl _ rfl _ 3 HY.out Tryz.rowMov rfl ?_; simp only [Act.put]) | (go_at_call 92; (with_reducible refine (HCK.out _ (HD.out.below HB.out)).mono ?_); rintro e w1 ⟨rfl, hb1⟩; have nHX := hI9 (HX.out.below hb1); have nHY := hI9 (HY.out.below hb1); have nHB := hI9 (bthen HB.out hb1); have zz1 := hb1.size; clear HX HY HB hb1; have HX := nHX; have HY := nHY; have HB := nHB; clear nHX nHY nHB) | (go_at_call 145; (with_reducible refine (HMO.out _ (HA.out.below HB.out)).mono ?_); rintro e w1 ⟨rfl, hb1⟩; have nHX := hI9 (HX.out.below hb1); have nHY := hI9 (HY.out.below hb1); have nHB := hI9 (bthen HB.out hb1); have zz1 := hb1.size; clear HX HY HB hb1; have HX := nHX; have HY := nHY; have HB := nHB; clear nHX nHY nHB))
   go_ret
   exact ⟨rfl, HB.out⟩
 ·rw [if_neg he]
  have hez : (D.err != 0) = true := by simpa using he
  clear he
  generalize D.err = E at *
  have HCK := hI9 hck
  have HMO := hI9 hmo
  clear hck hmo
  go_enter Tryz.func94, Tryz.ntmps94
  go_wp2_with (fail)
  have _x := frm2 w #[.int .i64 D.size, .int .i64 D.load, .int .i64 D.wind, vA, .int .i64 D.pitch, .int .i64 D.roll, .int .i64 D.heave, .int .i64 D.fire, vB, vC] 26 #[vP, vR, vV] 37
  have HX := hI9 _x.1
  have HY := hI9 _x.2.1
  have HB := hI9 _x.2.2.1
  have zW := _x.2.2.2
  clear _x
  generalize World.alloc (World.alloc w _) _ = W at *
  go_wp2_with (first | (refine wpl_row rfl 26 _ rfl _ rfl _ 10 HX.out Tryz.rowDek rfl ?_; simp only [Act.put]) | (refine wpl_row rfl 37 _ rfl _ rfl _ 3 HY.out Tryz.rowMov rfl ?_; simp only [Act.put]) | (go_at_call 92; (with_reducible refine (HCK.out _ (HD.out.below HB.out)).mono ?_); rintro e w1 ⟨rfl, hb1⟩; have nHX := hI9 (HX.out.below hb1); have nHY := hI9 (HY.out.below hb1); have nHB := hI9 (bthen HB.out hb1); have zz1 := hb1.size; clear HX HY HB hb1; have HX := nHX; have HY := nHY; have HB := nHB; clear nHX nHY nHB) | (go_at_call 145; (with_reducible refine (HMO.out _ (HA.out.below HB.out)).mono ?_); rintro e w1 ⟨rfl, hb1⟩; have nHX := hI9 (HX.out.below hb1); have nHY := hI9 (HY.out.below hb1); have nHB := hI9 (bthen HB.out hb1); have zz1 := hb1.size; clear HX HY HB hb1; have HX := nHX; have HY := nHY; have HB := nHB; clear nHX nHY nHB))
  go_ret
  exact ⟨rfl, HB.out⟩
end Go.Proofs.YtlambeiafdpkgaaGreat

namespace Go.Proofs.YtlambeiafdpkgaaGreat
open Go Go.RowKit Go.Proofs
set_option maxRecDepth 100000
set_option maxHeartbeats 8000000
structure NeK (M : MetD) (vF vS : Value) (P gX gN gL gT cL cT : Nat) (rL rT : Nat → Nat) (loL hiL loT hiT : Nat) (lt tt : Tab) (w wr : World) : Prop where
 b : RowKit.Below w.heap.size w wr
 x : Blk wr gX 34 #[.int .i64 M.places, .int .i64 M.any.a0, .int .i64 M.any.a1, .int .i64 M.any.a2, .int .i64 M.any.a3, .int .i64 M.any.a4, .int .i64 M.any.a5, .bool M.any.i, .bool M.any.s, .int .i64 M.mw, .int .i64 M.ms, .int .i64 M.mc, vF, vS]
 n : Blk wr gN 176 #[.int .i64 M.places, .int .i64 M.any.a0, .int .i64 M.any.a1, .int .i64 M.any.a2, .int .i64 M.any.a3, .int .i64 M.any.a4, .int .i64 M.any.a5, .bool M.any.i, .bool M.any.s, .int .i64 M.mw, .int .i64 M.ms, .int .i64 M.mc, vF, vS, .slice (some ⟨gL, 0, none⟩) P cL, .slice (some ⟨gT, 0, none⟩) P cT]
 l : Sq wr 3 loL hiL gL rL P lt
 t : Sq wr 3 loT hiT gT rT P tt
 o : w.heap.size ≤ loL ∧ hiL ≤ loT
theorem blk_ne {w : World} {g k : Nat} {T U : TypeId} {cs us : Array Value} (h : Blk w g T cs) (h2 : Blk w k U us) (hne : T ≠ U) : g ≠ k := fun e => by
 subst e
 have : some (Obj.cells cs T (0, 0)) = some (Obj.cells us U (0, 0)) := h.symm.trans h2
 injection this with this
 injection this with _ h3
 exact hne h3
theorem Sq.ne {w : World} {T U : TypeId} {lo hi g n k : Nat} {r : Nat → Nat} {t : Tab} {us : Array Value} (h : Sq w T lo hi g r n t) (hb : Blk w k U us) {i : Nat} (hi : i < n) (hne : U ≠ T) : k ≠ r i := by
 obtain ⟨cs, q1, -⟩ := h.b i hi
 exact blk_ne hb q1 hne
theorem NeK.below {M : MetD} {vF vS : Value} {P gX gN gL gT cL cT : Nat} {rL rT : Nat → Nat} {loL hiL loT hiT : Nat} {lt tt : Tab} {w wr w2 : World} (h : NeK M vF vS P gX gN gL gT cL cT rL rT loL hiL loT hiT lt tt w wr) (hb : RowKit.Below wr.heap.size wr w2) : NeK M vF vS P gX gN gL gT cL cT rL rT loL hiL loT hiT lt tt w w2 :=
 ⟨bthen h.b hb, h.x.below hb, h.n.below hb, h.l.below hb, h.t.below hb, h.o⟩
def NetAt (w : World) (v : Value) (M : MetD) (vF vS : Value) (P : Nat) (lt tt : Tab) : Prop :=
 ∃ gN gL gT cL cT rL rT loL hiL loT hiT, v = .pointer (some ⟨gN, 0, none⟩) ∧ Blk w gN 176 #[.int .i64 M.places, .int .i64 M.any.a0, .int .i64 M.any.a1, .int .i64 M.any.a2, .int .i64 M.any.a3, .int .i64 M.any.a4, .int .i64 M.any.a5, .bool M.any.i, .bool M.any.s, .int .i64 M.mw, .int .i64 M.ms, .int .i64 M.mc, vF, vS, .slice (some ⟨gL, 0, none⟩) P cL, .slice (some ⟨gT, 0, none⟩) P cT] ∧ Sq w 3 loL hiL gL rL P lt ∧ Sq w 3 loT hiT gT rT P tt
theorem NetAt.below {w w' : World} {v : Value} {M : MetD} {vF vS : Value} {P : Nat} {lt tt : Tab} (h : NetAt w v M vF vS P lt tt) (hb : RowKit.Below w.heap.size w w') : NetAt w' v M vF vS P lt tt := by
 obtain ⟨gN, gL, gT, cL, cT, rL, rT, loL, hiL, loT, hiT, e, h1, h2, h3⟩ := h
 exact ⟨gN, gL, gT, cL, cT, rL, rT, loL, hiL, loT, hiT, e, h1.below hb, h2.below hb, h3.below hb⟩
def SqV (B P : Nat) (v : Value) (w : World) : Prop := ∃ g c r hi, v = .slice (some ⟨g, 0, none⟩) P c ∧ P ≤ c ∧ c ≤ 9223372036854775807 ∧ Sq w 3 B hi g r P (fun _ _ => -1)
theorem SqV.below {B P : Nat} {v : Value} {w w' : World} (h : SqV B P v w) (hb : RowKit.Below w.heap.size w w') : SqV B P v w' := by
 obtain ⟨g, c, r, hi, e, q1, q2, h⟩ := h
 exact ⟨g, c, r, hi, e, q1, q2, h.below hb⟩
def SqVV (B P : Nat) (v v2 : Value) (w : World) : Prop := ∃ g c r hi g2 c2 r2 lo2 hi2, v = .slice (some ⟨g, 0, none⟩) P c ∧ v2 = .slice (some ⟨g2, 0, none⟩) P c2 ∧ hi ≤ lo2 ∧ Sq w 3 B hi g r P (fun _ _ => -1) ∧ Sq w 3 lo2 hi2 g2 r2 P (fun _ _ => -1)
theorem SqVV.below {B P : Nat} {v v2 : Value} {w w' : World} (h : SqVV B P v v2 w) (hb : RowKit.Below w.heap.size w w') : SqVV B P v v2 w' := by
 obtain ⟨g, c, r, hi, g2, c2, r2, lo2, hi2, e, e2, q, h, h2⟩ := h
 exact ⟨g, c, r, hi, g2, c2, r2, lo2, hi2, e, e2, q, h.below hb, h2.below hb⟩
end Go.Proofs.YtlambeiafdpkgaaGreat
