/- Texts joined: JAL. -/
import Derived.Lib.AppendZerosOnto
import Derived.Test.YtafkifjebimdaaaGreatDkE
import Derived.Test.YtafkifjebimdaaaGreatWeG
import Derived.Test.YtafkifjebimdaaaGreatJAJ
import Derived.Test.YtafkifjebimdaaaGreatJAK
set_option linter.all false
namespace Go.Proofs.YtafkifjebimdaaaGreat
open Go Go.RowKit Go.Proofs
set_option maxRecDepth 100000
set_option maxHeartbeats 8000000
theorem dgrow_c (n : Nat) (w : World) (hn : n ≤ 10000) :
   Calls Tryz.prog 127 #[.slice none 0 0, .int .i64 n] w fun e w' => ∃ v, e = .returned v ∧ Below w.heap.size w w' ∧ w'.ownsRow w.heap.size 3 1 v 0 [] := by
  rcases Nat.eq_zero_or_pos n with rfl | h0
  · go_enter Tryz.func127, Tryz.ntmps127
    go_wp2
    go_ret
    exact ⟨_, rfl, Below.refl _ _, World.ownsRow_nil _ _ _ _⟩
  · have hI := Tryz.intI
    cases hi : Tryz.prog.info? 3 with
    | none => rw [hi] at hI; cases hI
    | some i =>
      rw [hi] at hI
      simp only [Option.map_some, Option.some.injEq, Prod.mk.injEq] at hI
      obtain ⟨i1, i2, i3⟩ := hI
      have hz1 : (0 : Int) < (n : Int) := by omega
      have hold : (Builtin.firstCells i.size 0 (.slice none 0 0)).run Tryz.prog w.drew = .ok ([] : List Value).toArray w.drew := by simp [Builtin.firstCells, Sem.run_pure]
      have hrz := fun ty => Lib.run_append_grow_zeros w 35 3 ty 3 i (.int .i64 0) .i64 .i64 Tryz.intsU (by kernel_rfl) hi i1 none 0 0 [] hold n h0 (by omega) (by omega) (by omega) (by rw [i3]; omega) (by rw [i3]; have := growslice_fits (need := 0 + n) (old := 0) (bytes := 8) (by omega) (by omega); simpa using this)
      have hG := grownCap_ge w n 0 3
      have hG2 := grownCap_le_maxLen w n 0 3 (by unfold maxLen; omega)
      simp only [Nat.zero_add] at hrz
      generalize grownCap w n 0 3 = G at *
      have hsz : ((([] : List Value).toArray ++ Builtin.zeroCells (Value.cells (.int .i64 0)) n ++ Builtin.zeroCells (Value.cells (.int .i64 0)) (G - n) : Array Value)).size = G * 1 := by
        simp [size_zeroCells, Value.cells]; omega
      generalize (([] : List Value).toArray ++ Builtin.zeroCells (Value.cells (.int .i64 0)) n ++ Builtin.zeroCells (Value.cells (.int .i64 0)) (G - n) : Array Value) = CS at *
      have HR := Lib.hid hrz
      clear hrz hold
      go_enter Tryz.func127, Tryz.ntmps127
      go_wp2_with (at_builtin; refine Lib.wpList_append_run _ rfl _ _ _ _ rfl _ _ rfl rfl _ _ (HR.out _) ?_)
      all_goals go_ret
      all_goals exact ⟨_, rfl, bal (Below.drew (Below.refl _ _)) _, World.ownsRow_made (w := w.drew) CS G (Nat.le_refl _) hG2 hsz⟩
end Go.Proofs.YtafkifjebimdaaaGreat

namespace Go.Proofs.YtafkifjebimdaaaGreat
open Go Go.RowKit Go.Proofs
set_option maxRecDepth 100000
set_option maxHeartbeats 8000000
def nums (n : Nat) (P : Nat → Int) : List Value := (List.range n).map fun k => .int .i64 (P k)
theorem nums_length (n : Nat) (P : Nat → Int) : (nums n P).length = n := by simp [nums]
theorem nums_get (n : Nat) (P : Nat → Int) (k : Nat) (hk : k < n) : (nums n P)[k]? = some (.int .i64 (P k)) := by simp [nums, hk]
theorem grown_refl (w : World) (o : Option Nat) : w.grownBy w o := ⟨rfl, rfl, rfl, Nat.le_refl _, fun _ _ _ => rfl⟩
theorem wpl_appL {ops : Array Oper} {rest : List Oper} {o : Oper} {a : Act} {w : World} {Q : Exit → Act → World → Prop} (hgd : o.guard = none) (s x : Operand)
    (ho : o.op = .call { callee := .builtin .append, args := #[s, x], argTypes := #[35, 35] }) (base : Nat) (v : Value) (n : Nat) (xs : List Value) (hs : a.eval s = v) (hown : w.ownsRow base 3 1 v n xs)
    (A : Option Addr) (m c : Nat) (P : Nat → Int) (hx : a.eval x = .slice A m c) (hr : RecsAt w A m 1 (lV P)) (hm : m ≤ 3000) (hn : n ≤ 10000) (hbase : base ≤ w.heap.size)
    (h : ∀ v' w', w'.ownsRow base 3 1 v' (n + m) (xs ++ nums m P) → w.grownBy w' v.ownBlock → wpList Tryz.prog ops Q rest (a.put o.dst v') w') : wpList Tryz.prog ops Q (o :: rest) a w := by
  have hI := Tryz.intI
  cases hi : Tryz.prog.info? 3 with
  | none => rw [hi] at hI; cases hI
  | some i =>
    rw [hi] at hI
    simp only [Option.map_some, Option.some.injEq, Prod.mk.injEq] at hI
    obtain ⟨i1, i2, i3⟩ := hI
    cases A with
    | some ad =>
      refine wpList_append_own w hgd s x 35 ho base 3 i (.int .i64 0) 1 8 Tryz.intsU hi i1 i2 i3 rfl (by decide) v n xs hs hown ad m c (nums m P) hx (by rw [nums_length]; omega) (fun j u hj => ?_) (fun u hu => ?_) (by unfold maxLen; omega) (by omega) hbase (fun v' w' h1 h2 _ => h v' w' h1 h2)
      · have hjm : j < m := by have := (List.getElem?_eq_some_iff.1 hj).1; rwa [nums_length] at this
        rw [nums_get m P j hjm] at hj
        obtain rfl : Value.int .i64 (P j) = u := by simpa using hj
        obtain ⟨b, off, hA, -, hc⟩ := hr (by omega)
        obtain rfl : ad = ⟨b, off, none⟩ := by simpa using hA
        have := hc j hjm 0 (by omega)
        rw [Nat.mul_one, Nat.add_zero] at this
        have hadd : (⟨b, off, none⟩ : Addr).add j = ⟨b, off + j, none⟩ := by unfold Addr.add; split <;> simp_all
        rw [hadd]; exact this
      · obtain ⟨k, -, rfl⟩ := List.mem_map.1 hu
        rfl
    | none =>
      have hm0 : m = 0 := by
        rcases Nat.eq_zero_or_pos m with h0 | h0
        · exact h0
        · obtain ⟨b, off, hA, -⟩ := hr h0; cases hA
      subst hm0
      have hU := Tryz.intsU
      have hrun : (Builtin.append_ #[35, 35] o.type #[v, .slice none 0 c]).run Tryz.prog w = .ok v w := by
        rcases hown.2 with ⟨rfl, rfl⟩ | ⟨g, cap, cur, rfl, -, -, hcap, -⟩
        · simp [Builtin.append_, run_underlying hU, sizeOf, typeInfo, hi, Builtin.lenOf, Builtin.firstCells, storeCells]
        · simp [Builtin.append_, run_underlying hU, sizeOf, typeInfo, hi, Builtin.lenOf, Builtin.firstCells, storeCells, hcap]
      refine wpList_plain hgd fun K' hK' => ?_
      unfold Oper.wp
      simp [execOp, ho, resolve, invoke, builtin, hs, hx, hrun, Result.andThen]
      exact hK' _ _ (h v w (by simpa [nums] using hown) (grown_refl _ _))
def movL (Mo : MovD) : Nat → List Value
  | 0 => []
  | 1 => nums Mo.np Mo.P
  | 2 => nums Mo.np Mo.P ++ nums Mo.np Mo.R
  | _ => nums Mo.np Mo.P ++ nums Mo.np Mo.R ++ nums Mo.np Mo.V
theorem RecsAt.under {w w' : World} {A : Option Addr} {n k : Nat} {V : Nat → Nat → Value} (h : RecsAt w A n k V) (hb : Below w.heap.size w w') : RecsAt w' A n k V := h.below hb
theorem dconcat_c (b c c1 c2 c3 : Nat) (A1 A2 A3 : Option Addr) (Mo : MovD) (w : World) (hn : Mo.np ≤ 2001) (h1 : RecsAt w A1 Mo.np 1 (lV Mo.P)) (h2 : RecsAt w A2 Mo.np 1 (lV Mo.R)) (h3 : RecsAt w A3 Mo.np 1 (lV Mo.V))
    (d0 : w.cell? ⟨b, 0, none⟩ = some (.slice A1 Mo.np c1)) (d1 : w.cell? ⟨b, 1, none⟩ = some (.slice A2 Mo.np c2)) (d2 : w.cell? ⟨b, 2, none⟩ = some (.slice A3 Mo.np c3)) :
   Calls Tryz.prog 108 #[.slice (some ⟨b, 0, none⟩) 3 c] w fun e w' => ∃ v, e = .returned v ∧ Below w.heap.size w w' ∧ w'.ownsRow w.heap.size 3 1 v (3 * Mo.np) (movL Mo 3) := by
  have D0 := Lib.hid (fun w1 (hb : Below w.heap.size w w1) => (hb.cell (p := ⟨b, 0, none⟩) (blk_lt d0)).trans d0)
  have D1 := Lib.hid (fun w1 (hb : Below w.heap.size w w1) => (hb.cell (p := ⟨b, 1, none⟩) (blk_lt d1)).trans d1)
  have D2 := Lib.hid (fun w1 (hb : Below w.heap.size w w1) => (hb.cell (p := ⟨b, 2, none⟩) (blk_lt d2)).trans d2)
  have R1 := Lib.hid h1
  have R2 := Lib.hid h2
  have R3 := Lib.hid h3
  clear h1 h2 h3 d0 d1 d2
  go_enter Tryz.func108, Tryz.ntmps108
  go_wp2_with (fail)
  go_loopg [3, 11] 3 (fun gx z i wr => ∃ k : Nat, i = .int .i64 k ∧ k ≤ 3 ∧ 3 - k ≤ gx ∧ z = .int .i64 ((Mo.np * k : Nat) : Int) ∧ Hid (w = wr))
  case atStart => exact ⟨0, rfl, Nat.zero_le _, Nat.le_refl _, by simp, rfl⟩
  case round =>
    obtain ⟨k, rfl, hk, hgx, rfl, HW⟩ := hrel
    have hW := HW.out
    subst hW
    have e0 := D0.out _ (Below.refl _ _)
    have e1 := D1.out _ (Below.refl _ _)
    have e2 := D2.out _ (Below.refl _ _)
    rcases (show k = 0 ∨ k = 1 ∨ k = 2 ∨ k = 3 by omega) with rfl | rfl | rfl | rfl
    · have hs0 : ¬ (((Mo.np * 0 : Nat) : Int) + (Mo.np : Int) < 0) := by omega
      go_wp2_with (fail)
      go_roundg (3 - 1)
      case measure => omega
      case rel => exact ⟨1, by first | rfl | go_num | (congr 1; omega), by omega, Nat.le_refl _, by first | rfl | go_num | (congr 1; omega), Lib.hid rfl⟩
    · have hs0 : ¬ (((Mo.np * 1 : Nat) : Int) + (Mo.np : Int) < 0) := by omega
      go_wp2_with (fail)
      go_roundg (3 - 2)
      case measure => omega
      case rel => exact ⟨2, by first | rfl | go_num | (congr 1; omega), by omega, Nat.le_refl _, by first | rfl | go_num | (congr 1; omega), Lib.hid rfl⟩
    · have hs0 : ¬ (((Mo.np * 2 : Nat) : Int) + (Mo.np : Int) < 0) := by omega
      go_wp2_with (fail)
      go_roundg (3 - 3)
      case measure => omega
      case rel => exact ⟨3, by first | rfl | go_num | (congr 1; omega), by omega, Nat.le_refl _, by first | rfl | go_num | (congr 1; omega), Lib.hid rfl⟩
    · clear e0 e1 e2
      go_wp2_with (fail)
      refine (dgrow_c (Mo.np * 3) _ (by omega)).mono ?_
      rintro e w2 ⟨v, rfl, hb, ho⟩
      have L0 := Lib.hid (show Below w.heap.size w w2 ∧ w2.ownsRow w.heap.size 3 1 v (Mo.np * 0) (movL Mo 0) from ⟨hb, (by simpa [movL] using ho)⟩)
      clear hb ho
      go_wp2_with (fail)
      go_loopg [6, 27] 3 (fun gx v i wr => ∃ k : Nat, i = .int .i64 k ∧ k ≤ 3 ∧ 3 - k ≤ gx ∧ Hid (Below w.heap.size w wr ∧ wr.ownsRow w.heap.size 3 1 v (Mo.np * k) (movL Mo k)))
      case atStart => exact ⟨0, rfl, Nat.zero_le _, Nat.le_refl _, L0⟩
      case round =>
        clear L0
        obtain ⟨k, rfl, hk, hgx, L0⟩ := hrel
        have e0 := D0.out _ L0.out.1
        have e1 := D1.out _ L0.out.1
        have e2 := D2.out _ L0.out.1
        rcases (show k = 0 ∨ k = 1 ∨ k = 2 ∨ k = 3 by omega) with rfl | rfl | rfl | rfl
        · go_wp2_with (at_builtin; go_loud (refine wpl_appL rfl _ _ rfl w.heap.size _ (Mo.np * 0) (movL Mo 0) rfl L0.out.2 A1 Mo.np c1 Mo.P rfl (R1.out.under L0.out.1) (by omega) (by omega) L0.out.1.size ?_))
          intro v2 w2 o2 g2
          have L1 := Lib.hid (show Below w.heap.size w w2 ∧ w2.ownsRow w.heap.size 3 1 v2 (Mo.np * 1) (movL Mo 1) from ⟨L0.out.1.trans (below_grown g2 L0.out.1.size (fun b hb => owns_base L0.out.2 hb)), by simpa [movL] using o2⟩)
          clear o2 g2 L0 e0 e1 e2
          go_wp2_with (fail)
          go_roundg (3 - 1)
          case measure => omega
          case rel => exact ⟨1, by first | rfl | go_num | (congr 1; omega), by omega, Nat.le_refl _, L1⟩
        · go_wp2_with (at_builtin; go_loud (refine wpl_appL rfl _ _ rfl w.heap.size _ (Mo.np * 1) (movL Mo 1) rfl L0.out.2 A2 Mo.np c2 Mo.R rfl (R2.out.under L0.out.1) (by omega) (by omega) L0.out.1.size ?_))
          intro v2 w2 o2 g2
          have L1 := Lib.hid (show Below w.heap.size w w2 ∧ w2.ownsRow w.heap.size 3 1 v2 (Mo.np * 2) (movL Mo 2) from ⟨L0.out.1.trans (below_grown g2 L0.out.1.size (fun b hb => owns_base L0.out.2 hb)), by rw [show Mo.np * 2 = Mo.np + Mo.np by omega]; exact o2⟩)
          clear o2 g2 L0 e0 e1 e2
          go_wp2_with (fail)
          go_roundg (3 - 2)
          case measure => omega
          case rel => exact ⟨2, by first | rfl | go_num | (congr 1; omega), by omega, Nat.le_refl _, L1⟩
        · go_wp2_with (at_builtin; go_loud (refine wpl_appL rfl _ _ rfl w.heap.size _ (Mo.np * 2) (movL Mo 2) rfl L0.out.2 A3 Mo.np c3 Mo.V rfl (R3.out.under L0.out.1) (by omega) (by omega) L0.out.1.size ?_))
          intro v2 w2 o2 g2
          have L1 := Lib.hid (show Below w.heap.size w w2 ∧ w2.ownsRow w.heap.size 3 1 v2 (Mo.np * 3) (movL Mo 3) from ⟨L0.out.1.trans (below_grown g2 L0.out.1.size (fun b hb => owns_base L0.out.2 hb)), by rw [show Mo.np * 3 = Mo.np * 2 + Mo.np by omega]; exact o2⟩)
          clear o2 g2 L0 e0 e1 e2
          go_wp2_with (fail)
          go_roundg (3 - 3)
          case measure => omega
          case rel => exact ⟨3, by first | rfl | go_num | (congr 1; omega), by omega, Nat.le_refl _, L1⟩
        · clear e0 e1 e2
          go_wp2_with (fail)
          go_ret
          exact ⟨_, rfl, L0.out.1, by rw [Nat.mul_comm]; exact L0.out.2⟩
end Go.Proofs.YtafkifjebimdaaaGreat

namespace Go.Proofs.YtafkifjebimdaaaGreat
open Go Go.RowKit Go.Proofs
set_option maxRecDepth 100000
set_option maxHeartbeats 8000000
/-- What the loop of stretches keeps. -/
structure StK (w : World) (l : List (Int × Int)) (v : Value) (wr : World) : Prop where
  b : Below w.heap.size w wr
  o : wr.ownsRow w.heap.size 28 2 v l.length (spC l)
  n : v = .slice none 0 0 ↔ l = []
theorem StK.grow {w wr w2 : World} {l : List (Int × Int)} {v : Value} (h : StK w l v wr) (hb : Below wr.heap.size wr w2) : StK w l v w2 := ⟨bthen h.b hb, ownsRow_below h.o hb, h.n⟩
theorem StK.take {w wr w2 : World} {l : List (Int × Int)} {v v' : Value} {p : Int × Int} (h : StK w l v wr) (h1 : w2.ownsRow w.heap.size 28 2 v' (l ++ [p]).length (spC (l ++ [p]))) (h2 : wr.grownBy w2 v.ownBlock) (h3 : v' ≠ .slice none 0 0) : StK w (l ++ [p]) v' w2 :=
  ⟨h.b.trans (below_grown h2 h.b.size (fun b hb => owns_base h.o hb)), h1, by simp [h3]⟩
def PredT (P : Program) (g : Nat) (lb : Array Value) (fr te : Int) (is : Int → Bool) (w : World) : Prop :=
  ∀ (W : World) (t : Int), fr ≤ t → t < te → Below w.heap.size w W → Calls P g (#[.int .i64 t] ++ lb) W fun e w' => e = .returned (.bool (is t)) ∧ Below W.heap.size W w'
theorem dstretches_c (g : Nat) (lb : Array Value) (is : Int → Bool) (fr te least : Int) (w : World) (h0 : 0 ≤ fr) (h1 : te ≤ 2000) (hl0 : 1 ≤ least) (hl1 : least ≤ 100000)
    (eg : ∀ args w, (callFunc g args).run Tryz.prog w = .ok (.enter g args) w) (hp : PredT Tryz.prog g lb fr te is w) :
   Calls Tryz.prog 41 #[.int .i64 fr, .int .i64 te, .int .i64 least, .func (.func g) #[] lb] w fun e w' => ∃ v, e = .returned v ∧ Below w.heap.size w w' ∧
     w'.ownsRow w.heap.size 28 2 v (strV is fr te least).length (spC (strV is fr te least)) ∧ (v = .slice none 0 0 ↔ strV is fr te least = []) := by
  unfold strV
  obtain ⟨R, hR⟩ : ∃ q, q = strR is te least (te + 1 - fr).toNat fr fr := ⟨_, rfl⟩
  rw [← hR]
  have HR := Lib.hid hR
  have HP := Lib.hid hp
  clear hR hp
  go_enter Tryz.func41, Tryz.ntmps41
  go_wp2_with (fail)
  have K0 := Lib.hid (show StK w [] (.slice none 0 0) w from ⟨Below.refl _ _, World.ownsRow_nil _ _ _ _, by simp⟩)
  go_loopg [8, 9, 10] (te + 1 - fr).toNat (fun gx v f i wr => ∃ (tt ff : Int) (l : List (Int × Int)), i = .int .i64 tt ∧ f = .int .i64 ff ∧ fr ≤ tt ∧ fr ≤ ff ∧ ff ≤ tt ∧ (l.length : Int) ≤ tt - fr ∧ (te + 1 - tt).toNat ≤ gx ∧ Hid (StK w l v wr) ∧ Hid (l ++ strR is te least (te + 1 - tt).toNat tt ff = R))
  case atStart => exact ⟨fr, fr, [], rfl, rfl, Int.le_refl _, Int.le_refl _, Int.le_refl _, by simp, Nat.le_refl _, K0, HR.out.symm⟩
  case round =>
    clear K0
    obtain ⟨tt, ff, l, rfl, rfl, ht, hf, hft, hlen, hgx, K0, HE⟩ := hrel
    by_cases hle : tt ≤ te
    · have hE := HE.out
      rw [show (te + 1 - tt).toNat = (te + 1 - (tt + 1)).toNat + 1 by omega] at hE
      unfold strR at hE
      by_cases hlt : tt < te
      · have hcall := HP.out wr tt ht hlt K0.out.b
        rw [show decide (tt < te) = true from decide_eq_true hlt, Bool.true_and] at hE
        cases hq : is tt
        · rw [hq] at hE hcall
          rw [if_neg (by decide)] at hE
          by_cases hg : least ≤ tt - ff
          · rw [if_pos hg] at hE
            have HE2 := Lib.hid (show (l ++ [(ff, tt - 1)]) ++ strR is te least (te + 1 - (tt + 1)).toNat (tt + 1) (tt + 1) = R from by rw [List.append_assoc]; exact hE)
            clear hE HE hq
            go_wp2_with (first | (go_at_fn g; refine hcall.mono ?_; rintro e w1 ⟨rfl, hb1⟩) | (at_builtin; go_loud (refine wpl_appS rfl _ _ rfl w.heap.size _ l rfl ((K0.out.grow hb1).o.alloc _) _ (ff, tt - 1) rfl ?a1 ?b1 (by omega) ?c1 ?_)))
            case c1 => have := (K0.out.grow hb1).b.size; first | omega | (simp; omega)
            · intro v2 w3 O2 G2 N2
              have K2 := Lib.hid (((K0.out.grow hb1).grow (bal (Below.refl _ _) _)).take (p := (ff, tt - 1)) (by simpa using O2) G2 N2)
              clear O2 G2 N2
              go_wp2_with (fail)
              go_roundg (te + 1 - (tt + 1)).toNat
              case measure => omega
              case rel => exact ⟨tt + 1, tt + 1, l ++ [(ff, tt - 1)], by first | rfl | go_num | (congr 1; omega), by first | rfl | go_num | (congr 1; omega), by omega, by omega, Int.le_refl _, by simp; omega, Nat.le_refl _, K2, HE2⟩
          · rw [if_neg hg] at hE
            have HE2 := Lib.hid hE
            clear hE HE hq
            go_wp2_with (first | (go_at_fn g; refine hcall.mono ?_; rintro e w1 ⟨rfl, hb1⟩))
            go_roundg (te + 1 - (tt + 1)).toNat
            case measure => omega
            case rel => exact ⟨tt + 1, tt + 1, l, by first | rfl | go_num | (congr 1; omega), by first | rfl | go_num | (congr 1; omega), by omega, by omega, Int.le_refl _, by omega, Nat.le_refl _, Lib.hid (K0.out.grow hb1), HE2⟩
        · rw [hq] at hE hcall
          rw [if_pos rfl] at hE
          have HE2 := Lib.hid hE
          clear hE HE hq
          go_wp2_with (first | (go_at_fn g; refine hcall.mono ?_; rintro e w1 ⟨rfl, hb1⟩))
          go_roundg (te + 1 - (tt + 1)).toNat
          case measure => omega
          case rel => exact ⟨tt + 1, ff, l, by first | rfl | go_num | (congr 1; omega), rfl, by omega, by omega, by omega, by omega, Nat.le_refl _, Lib.hid (K0.out.grow hb1), HE2⟩
      · rw [show decide (tt < te) = false from decide_eq_false hlt, Bool.false_and, if_neg (by decide)] at hE
        by_cases hg : least ≤ tt - ff
        · rw [if_pos hg] at hE
          have HE2 := Lib.hid (show (l ++ [(ff, tt - 1)]) ++ strR is te least (te + 1 - (tt + 1)).toNat (tt + 1) (tt + 1) = R from by rw [List.append_assoc]; exact hE)
          clear hE HE
          go_wp2_with (first | (at_builtin; go_loud (refine wpl_appS rfl _ _ rfl w.heap.size _ l rfl (K0.out.o.alloc _) _ (ff, tt - 1) rfl ?a2 ?b2 (by omega) ?c2 ?_)))
          case c2 => have := K0.out.b.size; first | omega | (simp; omega)
          · intro v2 w3 O2 G2 N2
            have K2 := Lib.hid ((K0.out.grow (bal (Below.refl _ _) _)).take (p := (ff, tt - 1)) (by simpa using O2) G2 N2)
            clear O2 G2 N2
            go_wp2_with (fail)
            go_roundg (te + 1 - (tt + 1)).toNat
            case measure => omega
            case rel => exact ⟨tt + 1, tt + 1, l ++ [(ff, tt - 1)], by first | rfl | go_num | (congr 1; omega), by first | rfl | go_num | (congr 1; omega), by omega, by omega, Int.le_refl _, by simp; omega, Nat.le_refl _, K2, HE2⟩
        · rw [if_neg hg] at hE
          have HE2 := Lib.hid hE
          clear hE HE
          go_wp2_with (fail)
          go_roundg (te + 1 - (tt + 1)).toNat
          case measure => omega
          case rel => exact ⟨tt + 1, tt + 1, l, by first | rfl | go_num | (congr 1; omega), by first | rfl | go_num | (congr 1; omega), by omega, by omega, Int.le_refl _, by omega, Nat.le_refl _, K0, HE2⟩
    · have hE := HE.out
      rw [show (te + 1 - tt).toNat = 0 by omega] at hE
      have hq : l = R := by simpa [strR] using hE
      subst hq
      go_wp2_with (fail)
      go_ret
      exact ⟨_, rfl, K0.out.b, K0.out.o, K0.out.n⟩
theorem SlAt.ints {w : World} {v : Value} {n : Nat} {P : Nat → Int} (h : SlAt w v n 1 (lV P)) (hn : 0 < n) : ∃ b off c, v = .slice (some ⟨b, off, none⟩) n c ∧ b < w.heap.size ∧ ∀ k, k < n → w.cell? ⟨b, off + k, none⟩ = some (.int .i64 (P k)) := by
  obtain ⟨A, c, rfl, -, -, hr⟩ := h.e
  obtain ⟨b, off, rfl, hb, hc⟩ := hr hn
  refine ⟨b, off, c, rfl, hb, fun k hk => ?_⟩
  have := hc k hk 0 (by omega)
  rw [Nat.mul_one, Nat.add_zero] at this
  exact this
end Go.Proofs.YtafkifjebimdaaaGreat
