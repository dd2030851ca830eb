import Derived.Test.YtlabfpjlckdmfaaGreatKAU
set_option linter.all false
namespace Go.Proofs.YtlabfpjlckdmfaaGreat
open Go Go.RowKit Go.Proofs
set_option maxRecDepth 100000
set_option maxHeartbeats 8000000
def HasW (n : Nat) (R : Nat → Int) (x : Int) (e : Ending) : Prop := ∃ b : Bool, e = .returned (.bool b) ∧ (b = true ↔ ∃ i, i < n ∧ R i = x)
theorem r5has_c (v : Value) (n : Nat) (R : Nat → Int) (x : Int) (w : World) (hA : SlI w v n R) :
  Calls Tryz.prog 58 #[v, .int .i64 x] w fun e w' => HasW n R x e ∧ RowKit.Below w.heap.size w w' := by
 obtain ⟨A, c, rfl, h1, h2, hA⟩ := hA
 have HA := hI9 hA
 clear hA
 have HB := hI9 (RowKit.Below.refl w.heap.size w)
 go_enter Tryz.func58, Tryz.ntmps58
 go_wp2_with (fail)
 go_loopg [5] n (fun gx v wr => ∃ i : Nat, v = .int .i64 i ∧ i ≤ n ∧ n - i ≤ gx ∧ Hid (RowKit.Below w.heap.size w wr) ∧ Hid (∀ b, b < i → R b ≠ x))
 case atStart => exact ⟨0, rfl, Nat.zero_le _, Nat.le_refl _, HB, hI9 fun b h => absurd h (Nat.not_lt_zero _)⟩
 case round =>
  clear HB
  obtain ⟨i, rfl, hi, hgx, HB, HP⟩ := hrel
  by_cases hlt : i < n
  ·have hltz : (i : Int) < (n : Int) := by omega
   obtain ⟨b1, o1, rfl, hb1, hc1⟩ := HA.out (by omega)
   have ci := (HB.out.cell (p := ⟨b1, o1 + i * 1 + 0, none⟩) hb1).trans (hc1 i hlt 0 (by omega))
   simp only [nL, Nat.mul_one, Nat.add_zero] at ci
   clear hc1
   by_cases e : R i = x
   ·have HH := hI9 (show (true : Bool) = true ↔ ∃ i, i < n ∧ R i = x from ⟨fun _ => ⟨i, hlt, e⟩, fun _ => rfl⟩)
    rw [e] at ci
    clear e
    go_wp2_with (fail)
    go_ret
    exact ⟨⟨true, rfl, by simpa using HH.out⟩, HB.out⟩
   ·have he : (R i == x) = false := by simpa using e
    have HE := hI9 e
    clear e
    generalize hu : R i = y at *
    have HU := hI9 hu
    clear hu
    go_wp2_with (fail)
    go_roundg (n - (i + 1))
    case measure => omega
    case rel => exact ⟨i + 1, by first | rfl | go_num | (congr 1; omega), by omega, Nat.le_refl _, HB, hI9 fun b hb => by
     by_cases e : b = i
     ·subst e; rw [HU.out]; exact HE.out
     ·exact HP.out b (by omega)⟩
  ·obtain rfl : i = n := by omega
   have hnz : ¬ (i : Int) < (i : Int) := by omega
   go_wp2_with (fail)
   go_ret
   exact ⟨⟨false, rfl, ⟨fun h => (by cases h), fun ⟨b, hb, e⟩ => absurd e (HP.out b hb)⟩⟩, HB.out⟩
def SlT (w : World) (v : Value) (n : Nat) (R : Nat → Int) : Prop := SlI w v n R ∧ ∀ b, some b = v.ownBlock → ∃ cs, w.heap[b]? = some (.cells cs 3 (0, 0))
theorem SlT.below {w w' : World} {v : Value} {n : Nat} {R : Nat → Int} (h : SlT w v n R) (hb : RowKit.Below w.heap.size w w') : SlT w' v n R := by
 refine ⟨h.1.below hb, fun b e => ?_⟩
 obtain ⟨cs, hc⟩ := h.2 b e
 exact ⟨cs, by rw [hb.block b (Array.getElem?_eq_some_iff.1 hc).1]; exact hc⟩
theorem Tryz.intNe : 3 ≠ 35 := by decide
theorem SlT.grown {w w' : World} {v : Value} {n : Nat} {R : Nat → Int} {row : Option Nat} (h : SlT w v n R) (hg : w.grownBy w' row) (hr : ∀ g, some g = row → ∃ cs, w.heap[g]? = some (.cells cs 35 (0, 0))) : SlT w' v n R := by
 have hk : ∀ b, some b = v.ownBlock → w'.heap[b]? = w.heap[b]? := fun b e => by
  obtain ⟨cs, hc⟩ := h.2 b e
  refine hg.block b (Array.getElem?_eq_some_iff.1 hc).1 fun q => ?_
  obtain ⟨cs2, hc2⟩ := hr b q
  rw [hc] at hc2
  simp only [Option.some.injEq, Obj.cells.injEq] at hc2
  exact Tryz.intNe hc2.2.1
 refine ⟨?_, fun b e => by rw [hk b e]; exact h.2 b e⟩
 obtain ⟨A, c, rfl, q1, q2, hA⟩ := h.1
 refine ⟨A, c, rfl, q1, q2, fun hn => ?_⟩
 obtain ⟨b, off, rfl, hb, hc⟩ := hA hn
 refine ⟨b, off, rfl, Nat.lt_of_lt_of_le hb hg.size, fun i hi j hj => ?_⟩
 rw [← hc i hi j hj]
 exact World.cell?_of_block (hk b rfl)
def RdS (w : World) (vs : List Value) (L : List (List Nat)) : Prop := vs.length = L.length ∧ ∀ (i : Nat) (u : Value) (xs : List Nat), vs[i]? = some u → L[i]? = some xs → SlT w u xs.length (rF xs)
theorem RdS.nil {w : World} : RdS w [] [] := ⟨rfl, fun i u xs h _ => by simp at h⟩
theorem RdS.below {w w' : World} {vs : List Value} {L : List (List Nat)} (h : RdS w vs L) (hb : RowKit.Below w.heap.size w w') : RdS w' vs L := ⟨h.1, fun i u xs h1 h2 => (h.2 i u xs h1 h2).below hb⟩
theorem RdS.grown {w w' : World} {vs : List Value} {L : List (List Nat)} {row : Option Nat} (h : RdS w vs L) (hg : w.grownBy w' row) (hr : ∀ g, some g = row → ∃ cs, w.heap[g]? = some (.cells cs 35 (0, 0))) : RdS w' vs L := ⟨h.1, fun i u xs h1 h2 => (h.2 i u xs h1 h2).grown hg hr⟩
theorem RdS.app {w : World} {vs us : List Value} {L M : List (List Nat)} (h : RdS w vs L) (k : RdS w us M) : RdS w (vs ++ us) (L ++ M) := by
 refine ⟨by rw [List.length_append, List.length_append, h.1, k.1], fun i u xs h1 h2 => ?_⟩
 by_cases hi : i < L.length
 ·rw [List.getElem?_append_left hi] at h2
  rw [List.getElem?_append_left (by rw [h.1]; exact hi)] at h1
  exact h.2 i u xs h1 h2
 ·rw [List.getElem?_append_right (by omega)] at h2
  rw [List.getElem?_append_right (by rw [h.1]; omega), h.1] at h1
  exact k.2 _ u xs h1 h2
theorem RdS.one {w : World} {vs : List Value} {L : List (List Nat)} (h : RdS w vs L) : ∀ u ∈ vs, u.oneCell' = true := by
 intro u hu
 obtain ⟨i, hi, e⟩ := List.getElem_of_mem hu
 obtain ⟨⟨A, c, rfl, -⟩, -⟩ := h.2 i u (L[i]'(by rw [← h.1]; exact hi)) (by rw [← e]; exact List.getElem?_eq_getElem hi) (List.getElem?_eq_getElem _)
 rfl
def SlS (w : World) (v : Value) (L : List (List Nat)) : Prop := ∃ A c vs, v = .slice A L.length c ∧ L.length ≤ c ∧ c ≤ 9223372036854775807 ∧ RdS w vs L ∧ (A = none → c = 0) ∧ (0 < L.length → ∃ b off, A = some ⟨b, off, none⟩ ∧ b < w.heap.size ∧ (∃ cs, w.heap[b]? = some (.cells cs 35 (0, 0))) ∧ ∀ (i : Nat) (u : Value), vs[i]? = some u → w.cell? ⟨b, off + i, none⟩ = some u)
theorem SlS.below {w w' : World} {v : Value} {L : List (List Nat)} (h : SlS w v L) (hb : RowKit.Below w.heap.size w w') : SlS w' v L := by
 obtain ⟨A, c, vs, e, q1, q2, q3, q4, q5⟩ := h
 refine ⟨A, c, vs, e, q1, q2, q3.below hb, q4, fun hn => ?_⟩
 obtain ⟨b, off, e, hlt, hty, hc⟩ := q5 hn
 exact ⟨b, off, e, Nat.lt_of_lt_of_le hlt hb.size, by rw [hb.block b hlt]; exact hty, fun i u hi => (hb.cell (p := ⟨b, off + i, none⟩) hlt).trans (hc i u hi)⟩
def OutS (w : World) (base : Nat) (v : Value) (L : List (List Nat)) : Prop := ∃ vs, w.ownsRow base 35 1 v L.length vs ∧ RdS w vs L
theorem OutS.below {w w' : World} {base : Nat} {v : Value} {L : List (List Nat)} (h : OutS w base v L) (hb : RowKit.Below w.heap.size w w') : OutS w' base v L := by
 obtain ⟨vs, ho, hr⟩ := h
 exact ⟨vs, ownsRow_below ho hb, hr.below hb⟩
theorem OutS.base {w : World} {base : Nat} {v : Value} {L : List (List Nat)} (h : OutS w base v L) : ∀ g, v.ownBlock = some g → base ≤ g := by
 obtain ⟨vs, ho, -⟩ := h
 exact fun g e => (ho.lt g e).1
theorem OutS.nil {w : World} {base : Nat} : OutS w base (.slice none 0 0) [] := ⟨[], World.ownsRow_nil _ _ _ _, RdS.nil⟩
theorem OutS.sl {w : World} {base : Nat} {v : Value} {L : List (List Nat)} (h : OutS w base v L) : SlS w v L := by
 obtain ⟨vs, ho, hr⟩ := h
 rcases ho.2 with ⟨rfl, hz⟩ | ⟨g, cap, cur, rfl, h1, h2, h3, h4, h5, h6⟩
 ·exact ⟨none, 0, vs, by rw [hz], by omega, by omega, hr, fun _ => rfl, fun hp => by omega⟩
 ·refine ⟨some ⟨g, 0, none⟩, cap, vs, rfl, h3, by unfold maxLen at h4; omega, hr, (fun q => by cases q), fun hp => ⟨g, 0, rfl, (Array.getElem?_eq_some_iff.1 h2).1, ⟨cur, h2⟩, fun i u hi => ?_⟩⟩
  have hlt : i < L.length := by have := (List.getElem?_eq_some_iff.1 hi).1; rw [hr.1] at this; exact this
  have := ho.cellAt (g := g) i (by omega)
  rw [Nat.zero_add, this]
  exact hi
theorem OutS.row {w : World} {base : Nat} {v : Value} {L : List (List Nat)} (h : OutS w base v L) : ∀ g, some g = v.ownBlock → ∃ cs, w.heap[g]? = some (.cells cs 35 (0, 0)) := by
 obtain ⟨vs, ho, -⟩ := h
 rcases ho.2 with ⟨rfl, -⟩ | ⟨g, cap, cur, rfl, h1, h2, -⟩
 ·intro g e; cases e
 ·intro g' e
  obtain rfl : g' = g := by simpa [Value.ownBlock] using e
  exact ⟨cur, h2⟩
theorem Tryz.rtsU : Tryz.prog.underlying 41 = some (.slice 35) := by kernel_rfl
theorem Tryz.rtsI : (Tryz.prog.info? 35).map (fun i => (i.zero.map (·.cells.size), i.size, decide (i.bytes ≤ 200))) = some (some 1, 1, true) := by kernel_rfl
theorem SlS.one {w : World} {v : Value} {ys : List Nat} (h : SlT w v ys.length (rF ys)) : SlS (w.alloc (.cells #[v] 35)) (.slice (some ⟨w.heap.size, 0, none⟩) 1 1) [ys] := by
 have hb := Blk.new w 35 #[v]
 refine ⟨some ⟨w.heap.size, 0, none⟩, 1, [v], rfl, Nat.le_refl _, by decide, ⟨rfl, fun i u xs h1 h2 => ?_⟩, (fun q => by cases q), fun _ => ⟨w.heap.size, 0, rfl, hb.lt, ⟨_, hb⟩, fun i u h1 => ?_⟩⟩
 ·cases i with
  | zero =>
   simp only [List.getElem?_cons_zero, Option.some.injEq] at h1 h2
   subst h1 h2
   exact h.below (bal (RowKit.Below.refl _ _) _)
  | succ i => simp at h1
 ·cases i with
  | zero =>
   simp only [List.getElem?_cons_zero, Option.some.injEq] at h1
   subst h1
   exact hb.cell 0
  | succ i => simp at h1
theorem wpl_appS2 {ops : Array Oper} {rest : List Oper} {o : Oper} {a : Act} {w : World} {Q : Exit → Act → World → Prop} (hgd : o.guard = none) (s x : Operand)
  (ho : o.op = .call { callee := .builtin .append, args := #[s, x], argTypes := #[41, 41] }) (base : Nat) (v u : Value) (L K : List (List Nat)) (hs : a.eval s = v) (hx : a.eval x = u) (hown : OutS w base v L) (hu : SlS w u K) (hn : L.length + K.length ≤ 100000000) (hbase : base ≤ w.heap.size)
  (h : ∀ v' w', OutS w' base v' (L ++ K) → w.grownBy w' v.ownBlock → wpList Tryz.prog ops Q rest (a.put o.dst v') w') : wpList Tryz.prog ops Q (o :: rest) a w := by
 obtain ⟨A, c, us, rfl, q1, q2, q3, q4, q5⟩ := hu
 have hrow := hown.row
 obtain ⟨vs, how, hrd⟩ := hown
 have hi := Tryz.rtsI
 cases hI : Tryz.prog.info? 35 with
 | none => rw [hI] at hi; cases hi
 | some i =>
  rw [hI] at hi
  simp only [Option.map_some, Option.some.injEq, Prod.mk.injEq, decide_eq_true_eq] at hi
  obtain ⟨i1, i2, i3⟩ := hi
  cases hz : i.zero with
  | none => rw [hz] at i1; cases i1
  | some z =>
   rw [hz] at i1
   simp only [Option.map_some, Option.some.injEq] at i1
   cases A with
   | none =>
    have hK : K = [] := by
     cases K with
     | nil => rfl
     | cons k K => obtain ⟨b, off, e, -⟩ := q5 (by simp); cases e
    subst hK
    refine wpList_plain hgd fun K' hK' => ?_
    have hrun : (Builtin.append_ #[41, 41] o.type #[v, .slice none 0 c]).run Tryz.prog w = .ok v w := by
     rcases how.2 with ⟨rfl, -⟩ | ⟨g, cap, cur, rfl, h1, h2, h3, -⟩
     ·simp [Builtin.append_, run_underlying Tryz.rtsU, sizeOf, typeInfo, hI, Builtin.lenOf, Builtin.firstCells]
     ·simp [Builtin.append_, run_underlying Tryz.rtsU, sizeOf, typeInfo, hI, Builtin.lenOf, Builtin.firstCells, storeCells, h3]
    unfold Oper.wp
    simp [execOp, ho, resolve, invoke, builtin, hs, hx, hrun, Result.andThen]
    refine hK' _ _ (h _ w (by rw [List.append_nil]; exact ⟨vs, how, hrd⟩) ⟨rfl, rfl, rfl, Nat.le_refl _, fun _ _ _ => rfl⟩)
   | some ad =>
    have hb : (L.length + K.length) * i.bytes ≤ 100000000 * 200 := Nat.mul_le_mul hn i3
    refine wpList_append_own w hgd s x 41 ho base 35 i z 1 i.bytes Tryz.rtsU hI hz i2 rfl i1 (by decide) v L.length vs hs how ad K.length c us hx (by rw [q3.1, Nat.mul_one]) ?_ q3.one (by unfold maxLen; omega) (by omega) hbase ?_
    ·intro j u hj
     have hjl : j < K.length := by have := (List.getElem?_eq_some_iff.1 hj).1; rw [q3.1] at this; exact this
     obtain ⟨b, off, e, -, -, hc⟩ := q5 (by omega)
     cases e
     have hadd : (⟨b, off, none⟩ : Addr).add j = ⟨b, off + j, none⟩ := by unfold Addr.add; split <;> simp_all
     rw [hadd]
     exact hc j u hj
    ·intro v' w' o1 o2 _
     refine h v' w' ⟨vs ++ us, by rw [List.length_append]; exact o1, (hrd.grown o2 hrow).app (q3.grown o2 hrow)⟩ o2
theorem SlT.of_owns {w : World} {base : Nat} {v : Value} {ys : List Nat} (h : w.ownsRow base 3 1 v ys.length (rV ys)) : SlT w v ys.length (rF ys) := by
 rcases h.2 with ⟨rfl, hz⟩ | ⟨g, cap, cur, rfl, h1, h2, h3, h4, h5, h6⟩
 ·exact ⟨⟨none, 0, by rw [hz], by omega, by omega, fun hp => by omega⟩, fun b e => by cases e⟩
 ·refine ⟨⟨some ⟨g, 0, none⟩, cap, rfl, h3, by unfold maxLen at h4; omega, fun hp => ⟨g, 0, rfl, (Array.getElem?_eq_some_iff.1 h2).1, fun i hi j hj => ?_⟩⟩, fun b e => ?_⟩
  ·obtain rfl : j = 0 := by omega
   have := h.cellAt (g := g) i (by omega)
   rw [rV_at hi] at this
   rw [Nat.zero_add, Nat.mul_one, Nat.add_zero, this]
   rfl
  ·obtain rfl : b = g := by simpa [Value.ownBlock] using e
   exact ⟨cur, h2⟩
theorem wpl_nilT {ops : Array Oper} {rest : List Oper} {o : Oper} {a : Act} {w : World} {Q : Exit → Act → World → Prop} (hgd : o.guard = none) (s x : Operand)
  (ho : o.op = .call { callee := .builtin .append, args := #[s, x], argTypes := #[35, 35] }) (base : Nat) (hbase : base ≤ w.heap.size) (v : Value) (ys : List Nat) (hs : a.eval s = .slice none 0 0) (hx : a.eval x = v) (hv : SlI w v ys.length (rF ys)) (hn : 0 < ys.length) (h40 : ys.length ≤ 1000)
  (h : ∀ v' w', w'.ownsRow base 3 1 v' ys.length (rV ys) → RowKit.Below w.heap.size w w' → wpList Tryz.prog ops Q rest (a.put o.dst v') w') : wpList Tryz.prog ops Q (o :: rest) a w := by
 have hi := Tryz.numI
 cases hI : Tryz.prog.info? 3 with
 | none => rw [hI] at hi; cases hi
 | some i =>
  rw [hI] at hi
  simp only [Option.map_some, Option.some.injEq, Prod.mk.injEq, decide_eq_true_eq] at hi
  obtain ⟨i1, i2, i3⟩ := hi
  cases hz : i.zero with
  | none => rw [hz] at i1; cases i1
  | some z =>
   rw [hz] at i1
   simp only [Option.map_some, Option.some.injEq] at i1
   obtain ⟨A, c, rfl, q1, q2, hA⟩ := hv
   obtain ⟨b, off, rfl, hlt, hc⟩ := hA hn
   have hb : (0 + ys.length) * i.bytes ≤ 1000 * 200 := Nat.mul_le_mul (by omega) i3
   refine wpList_append_grows w hgd s x 35 ho 3 i z 1 i.bytes Tryz.numU hI hz i2 rfl i1 (by decide) none 0 0 [] hs (fun _ => ⟨rfl, rfl⟩) (by simp) (fun _ _ j u h => by simp at h)
    ⟨b, off, none⟩ ys.length c (rV ys) hx (by rw [rV_len, Nat.mul_one]) (fun j u hj => ?_) (fun u hu => ?_) (by omega) (by unfold maxLen; omega) (by omega) (fun v' w' ho hgr => ?_)
   ·have hj' : j < ys.length := by have := (List.getElem?_eq_some_iff.1 hj).1; rw [rV_len] at this; exact this
    rw [rV_at hj'] at hj
    obtain rfl : Value.int .i64 (rF ys j) = u := by simpa using hj
    have hadd : (⟨b, off, none⟩ : Addr).add j = ⟨b, off + j, none⟩ := by unfold Addr.add; split <;> simp_all
    rw [hadd]
    have := hc j hj' 0 (by omega)
    rw [Nat.mul_one, Nat.add_zero] at this
    exact this
   ·obtain ⟨p, -, rfl⟩ := List.mem_map.1 hu
    rfl
   ·rw [Nat.zero_add, List.nil_append] at ho
    exact h v' w' (ownsRow_base ho hbase) (below_of_none hgr)
theorem nodup_lenR : ∀ (P : Nat) (l : List Nat), l.Nodup → (∀ x ∈ l, x < P) → l.length ≤ P
 | 0, l, _, h => by
  cases l with
  | nil => exact Nat.le_refl _
  | cons x l => exact absurd (h x (by simp)) (Nat.not_lt_zero _)
 | P + 1, l, hn, h => by
  by_cases hp : P ∈ l
  ·have h1 := nodup_lenR P (l.erase P) (hn.erase P) (fun x hx => by
    have h2 := (hn.mem_erase_iff).1 hx
    have := h x h2.2
    have := h2.1
    omega)
   have := List.length_erase_of_mem hp
   have : 0 < l.length := List.length_pos_of_mem hp
   omega
  ·have := nodup_lenR P l hn (fun x hx => by
    have := h x hx
    have : x ≠ P := fun e => hp (e ▸ hx)
    omega)
   omega
theorem rtsL_len {P : Nat} {lt : Tab} {tgt : Nat} (hP : P ≤ 8) : ∀ (f : Nat) (ys : List Nat) (a : Nat), (rtsL P lt tgt f ys a).length ≤ 8 ^ f
 | 0, ys, a => by unfold rtsL; split <;> simp
 | f + 1, ys, a => by
  by_cases e : a = tgt
  ·rw [rtsL_end e]
   exact Nat.pow_le_pow_right (n := 8) (by decide) (Nat.zero_le (f + 1))
  ·rw [rtsL_on e]
   have : ∀ k, (rtsK P lt tgt f ys a k).length ≤ k * 8 ^ f := by
    intro k
    induction k with
    | zero => rw [rtsK_zero]; simp
    | succ k ih =>
     by_cases h : lt a k < 0 ∨ k ∈ ys
     ·rw [rtsK_skip h]
      exact Nat.le_trans ih (Nat.mul_le_mul_right _ (by omega))
     ·rw [rtsK_take h, List.length_append, Nat.add_mul, Nat.one_mul]
      exact Nat.add_le_add ih (rtsL_len hP f _ _)
   exact Nat.le_trans (this P) (by rw [Nat.pow_succ, Nat.mul_comm]; exact Nat.mul_le_mul_left _ hP)
theorem rtsK_len {P : Nat} {lt : Tab} {tgt : Nat} (hP : P ≤ 8) {f : Nat} {ys : List Nat} {a : Nat} : ∀ k, (rtsK P lt tgt f ys a k).length ≤ k * 8 ^ f
 | 0 => by rw [rtsK_zero]; simp
 | k + 1 => by
  by_cases h : lt a k < 0 ∨ k ∈ ys
  ·rw [rtsK_skip h]
   exact Nat.le_trans (rtsK_len hP k) (Nat.mul_le_mul_right _ (by omega))
  ·rw [rtsK_take h, List.length_append, Nat.add_mul, Nat.one_mul]
   exact Nat.add_le_add (rtsK_len hP k) (rtsL_len hP f _ _)
theorem rts_all {P : Nat} {lt : Tab} {tgt : Nat} {f : Nat} {ys : List Nat} {a : Nat} (hn : ys.Nodup) (hl : ∀ y ∈ ys, y < P) (hf : P ≤ f + ys.length) (e : a ≠ tgt) : rtsL P lt tgt f ys a = rtsK P lt tgt (f - 1) ys a P := by
 cases f with
 | succ f => exact rtsL_on e
 | zero =>
  rw [rtsL_none e]
  have : ∀ k, k ≤ P → rtsK P lt tgt (0 - 1) ys a k = [] := by
   intro k
   induction k with
   | zero => intro _; rfl
   | succ k ih =>
    intro hk
    rw [rtsK_skip, ih (by omega)]
    right
    refine Classical.byContradiction fun hq => ?_
    have := nodup_lenR P (k :: ys) (List.nodup_cons.2 ⟨hq, hn⟩) (fun x hx => by
     rcases List.mem_cons.1 hx with rfl | h
     ·omega
     ·exact hl x h)
    simp only [List.length_cons] at this
    omega
  exact (this P (Nat.le_refl _)).symm
theorem mem_rF {ys : List Nat} {k : Nat} : (∃ i, i < ys.length ∧ rF ys i = (k : Int)) ↔ k ∈ ys := by
 constructor
 ·rintro ⟨i, hi, e⟩
  unfold rF at e
  rw [List.getD_eq_getElem?_getD, List.getElem?_eq_getElem hi, Option.getD_some] at e
  have : ys[i] = k := by omega
  rw [← this]
  exact List.getElem_mem hi
 ·intro h
  obtain ⟨i, hi, e⟩ := List.getElem_of_mem h
  exact ⟨i, hi, by unfold rF; rw [List.getD_eq_getElem?_getD, List.getElem?_eq_getElem hi, Option.getD_some, e]⟩
end Go.Proofs.YtlabfpjlckdmfaaGreat
