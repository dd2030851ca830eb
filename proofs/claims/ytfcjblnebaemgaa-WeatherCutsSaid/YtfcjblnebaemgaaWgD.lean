/- The law WeatherCuts: with one more forecast, issued behind all others and not strange, what may be is not more. -/
import Derived.Test.YtfcjblnebaemgaaWgC
import Derived.Test.YtfcjblnebaemgaaRgM
set_option linter.all false
namespace Go.Proofs.Ytfcjblnebaemgaa
open Go Go.RowKit Go.Proofs
set_option maxRecDepth 100000
set_option maxHeartbeats 8000000
theorem fr_one (d0 d1 d2 d3 d4 d5 d6 d7 d8 d9 : Int) (b0 b1 : Bool) : ∀ u ∈ ([.int .i64 d0, .int .i64 d1, .int .i64 d2, .int .i64 d3, .int .i64 d4, .int .i64 d5, .int .i64 d6, .int .i64 d7, .int .i64 d8, .int .i64 d9, .bool b0, .bool b1] : List Value), u.oneCell' = true := by simp [Value.oneCell']
theorem recs_row {w : World} {g : Nat} {row : List Value} (hl : row.length = 12) (h : RecsAt w (some ⟨g, 0, none⟩) 1 12 (fun _ j => row.getD j undef)) : ∀ j u, row[j]? = some u → w.cell? ⟨g, j, none⟩ = some u := by
  intro j u hj
  obtain ⟨b, off, e, -, hc⟩ := h (by omega)
  simp only [Option.some.injEq, Addr.mk.injEq, and_true] at e
  obtain ⟨rfl, rfl⟩ := e
  have hlt : j < 12 := by rw [← hl]; exact (List.getElem?_eq_some_iff.1 hj).1
  have := hc 0 (by omega) j hlt
  rw [show 0 + 0 * 12 + j = j by omega] at this
  rw [this]
  show some (row.getD j undef) = some u
  rw [List.getD_eq_getElem?_getD, hj]
  rfl
theorem owns_ne {w : World} {base : Nat} {e t : TypeId} {size g : Nat} {v : Value} {n : Nat} {xs : List Value} {cs : Array Value} (h : w.ownsRow base e size v n xs) (hb : Blk w g t cs) (hne : e ≠ t) : ∀ b, some b = v.ownBlock → b ≠ g := by
  intro b hv
  rcases h.2 with ⟨rfl, -⟩ | ⟨g', cap, cur, rfl, -, h2, -⟩
  · cases hv
  · obtain rfl : b = g' := by simpa [Value.ownBlock] using hv
    intro hg
    subst hg
    have h3 : w.heap[b]? = some (.cells cs t (0, 0)) := hb
    rw [h2] at h3
    simp only [Option.some.injEq, Obj.cells.injEq] at h3
    exact hne h3.2.1
theorem MetAt.setCell {w : World} {vF vS : Value} {M : MetD} (h : MetAt w vF vS M) {g i : Nat} (h1 : ∀ b, some b = vF.ownBlock → b ≠ g) (h2 : 0 < M.m → ∀ b, some b = vS.ownBlock → b ≠ g) (u : Value) : MetAt (w.setCell ⟨g, i, none⟩ u) vF vS M := by
  obtain ⟨⟨A, c, rfl, q1, q2, q3⟩, ⟨A', c', rfl, k1, k2, k3⟩⟩ := h
  exact ⟨⟨A, c, rfl, q1, q2, q3.frame (by simp [World.setCell]) (fun h0 b off e => Below.heap_setCell _ _ _ _ (h1 b (by rw [e]; rfl)))⟩, ⟨A', c', rfl, k1, k2, k3.frame (by simp [World.setCell]) (fun h0 b off e => Below.heap_setCell _ _ _ _ (h2 h0 b (by rw [e]; rfl)))⟩⟩
theorem nth_of_mem {xs : List Int} {x : Int} (h : x ∈ xs) : ∃ j, j < xs.length ∧ nth xs j = x := by
  obtain ⟨j, hj, e⟩ := List.getElem_of_mem h
  exact ⟨j, hj, by simp [nth, List.getD_eq_getElem?_getD, List.getElem?_eq_getElem hj, e]⟩
theorem wpl_appF {ops : Array Oper} {rest : List Oper} {o : Oper} {a : Act} {w : World} {Q : Exit → Act → World → Prop} (hgd : o.guard = none) (s x : Operand)
    (ho : o.op = .call { callee := .builtin .append, args := #[s, x], argTypes := #[26, 26] }) (base : Nat) (v : Value) (n : Nat) (xs : List Value) (hs : a.eval s = v) (hown : w.ownsRow base 58 12 v n xs)
    (g : Nat) (row : List Value) (hrow : row.length = 12) (hone : ∀ u ∈ row, u.oneCell' = true) (hx : a.eval x = .slice (some ⟨g, 0, none⟩) 1 1) (hc : ∀ j u, row[j]? = some u → w.cell? ⟨g, j, none⟩ = some u) (h40 : n ≤ 50) (hbase : base ≤ w.heap.size)
    (h : ∀ v' w', w'.ownsRow base 58 12 v' (n + 1) (xs ++ row) → w.grownBy w' v.ownBlock → wpList Try.prog ops Q rest (a.put o.dst v') w') : wpList Try.prog ops Q (o :: rest) a w := by
  have hi := Try.fcI
  cases hI : Try.prog.info? 58 with
  | none => rw [hI] at hi; cases hi
  | some i =>
    rw [hI] at hi
    simp only [Option.map_some, Option.some.injEq, Prod.mk.injEq, decide_eq_true_eq] at hi
    obtain ⟨i1, i2, i3⟩ := hi
    cases hz : i.zero with
    | none => rw [hz] at i1; cases i1
    | some z =>
      rw [hz] at i1
      simp only [Option.map_some, Option.some.injEq] at i1
      have hb : (n + 1) * i.bytes ≤ 51 * 200 := Nat.mul_le_mul (by omega) i3
      refine wpList_append_own w hgd s x 26 ho base 58 i z 12 i.bytes Try.fcU hI hz i2 rfl i1 (by decide) v n xs hs hown ⟨g, 0, none⟩ 1 1 row hx (by rw [hrow]) ?_ hone (by unfold maxLen; omega) (by omega) hbase ?_
      · intro j u hj
        have := hc j u hj
        by_cases hj0 : j = 0
        · subst hj0; simpa [Addr.add] using this
        · simpa [Addr.add, hj0] using this
      · intro v' w' h1 h2 _
        exact h v' w' h1 h2
/-- What the first two loops keep. -/
structure CuK (M : MetD) (vF vS : Value) (p t : Int) (d0 d1 d2 d3 d4 d5 d6 d7 d8 d9 : Int) (b0 b1 : Bool) (w wr : World) : Prop where
  b : Below w.heap.size w wr
  m : Blk wr w.heap.size 29 #[.int .i64 M.places, .int .i64 M.any.a0, .int .i64 M.any.a1, .int .i64 M.any.a2, .int .i64 M.any.a3, .int .i64 M.any.a4, .int .i64 M.any.a5, .bool M.any.i, .bool M.any.s, .int .i64 M.mw, .int .i64 M.ms, .int .i64 M.mc, vF, vS]
  s : Blk wr (w.heap.size + 1) 46 #[.int .i64 p, .int .i64 t]
  f : Blk wr (w.heap.size + 1 + 1) 58 #[.int .i64 d0, .int .i64 d1, .int .i64 d2, .int .i64 d3, .int .i64 d4, .int .i64 d5, .int .i64 d6, .int .i64 d7, .int .i64 d8, .int .i64 d9, .bool b0, .bool b1]
theorem CuK.grow {M : MetD} {vF vS : Value} {p t : Int} {d0 d1 d2 d3 d4 d5 d6 d7 d8 d9 : Int} {b0 b1 : Bool} {w wr w2 : World} (h : CuK M vF vS p t d0 d1 d2 d3 d4 d5 d6 d7 d8 d9 b0 b1 w wr) (hb : Below wr.heap.size wr w2) : CuK M vF vS p t d0 d1 d2 d3 d4 d5 d6 d7 d8 d9 b0 b1 w w2 := ⟨bthen h.b hb, h.m.below hb, h.s.below hb, h.f.below hb⟩
def OwnM (M : MetD) (v : Value) (w : World) : Prop := ∃ (A : Option Addr) (cF : Nat) (A2 : Option Addr) (cS : Nat), v = .agg #[.int .i64 M.places, .int .i64 M.any.a0, .int .i64 M.any.a1, .int .i64 M.any.a2, .int .i64 M.any.a3, .int .i64 M.any.a4, .int .i64 M.any.a5, .bool M.any.i, .bool M.any.s, .int .i64 M.mw, .int .i64 M.ms, .int .i64 M.mc, .slice A M.n cF, .slice A2 M.m cS] ∧ MetAt w (.slice A M.n cF) (.slice A2 M.m cS) M
theorem OwnM.below {M : MetD} {v : Value} {w w' : World} (h : OwnM M v w) (hb : Below w.heap.size w w') : OwnM M v w' := by
  obtain ⟨A, cF, A2, cS, e, h⟩ := h
  exact ⟨A, cF, A2, cS, e, h.below hb⟩
theorem wown4_c (M : MetD) (vF vS : Value) (w : World) (hA : MetAt w vF vS M) (hn : M.far = false) :
   Calls Try.prog 10 #[.agg #[.int .i64 M.places, .int .i64 M.any.a0, .int .i64 M.any.a1, .int .i64 M.any.a2, .int .i64 M.any.a3, .int .i64 M.any.a4, .int .i64 M.any.a5, .bool M.any.i, .bool M.any.s, .int .i64 M.mw, .int .i64 M.ms, .int .i64 M.mc, vF, vS]] w fun e w' => ∃ v, e = .returned v ∧ OwnM M v w' ∧ Below w.heap.size w w' := by
  refine (wown2_c M vF vS w hA hn).mono ?_
  rintro e w' ⟨A, cF, A2, cS, rfl, hb, h⟩
  exact ⟨_, rfl, ⟨A, cF, A2, cS, rfl, h⟩, hb⟩
def cutsR (w0 : Nat) (M : MetD) (g : Nat) (r : Value) (p t : Int) (Y : Value) (E : Int) : Nat → Value → World → Prop
  | 0, v, _ => v = r
  | 1, v, w => OwnM M v w
  | 2, v, _ => v = .pointer (some ⟨g + 1, 0, none⟩)
  | 3, v, _ => v = .int .i64 p
  | 4, v, _ => v = .pointer (some ⟨g + 1, 1, none⟩)
  | 5, v, _ => v = .int .i64 t
  | 6, v, _ => v = .tuple #[Y, .int .i64 E]
  | 7, v, _ => v = .tuple #[Y, .int .i64 E]
  | 8, v, _ => v = Y
  | 9, v, _ => v = .int .i64 E
  | 10, v, w => NewBlk w0 25 #[.int .i64 0, .int .i64 0, .int .i64 0, .int .i64 0, .int .i64 0, .int .i64 0, .bool false, .bool false] v w
  | _, _, _ => True
theorem cutsR_below {w0 : Nat} {M : MetD} {g : Nat} {r : Value} {p t : Int} {Y : Value} {E : Int} (k : Nat) (v : Value) (w w' : World) (hb : Below w.heap.size w w') (h : cutsR w0 M g r p t Y E k v w) : cutsR w0 M g r p t Y E k v w' := by
  unfold cutsR at *
  split at h <;> first | exact h | exact OwnM.below h hb | exact NewBlk.below hb h
-- done
theorem WeatherCuts_c (M : MetD) (vF vS : Value) (p t : Int) (d0 d1 d2 d3 d4 d5 d6 d7 d8 d9 : Int) (b0 b1 : Bool) (w : World) (hA : MetAt w vF vS M) :
   Calls Try.prog 6 #[.agg #[.int .i64 M.places, .int .i64 M.any.a0, .int .i64 M.any.a1, .int .i64 M.any.a2, .int .i64 M.any.a3, .int .i64 M.any.a4, .int .i64 M.any.a5, .bool M.any.i, .bool M.any.s, .int .i64 M.mw, .int .i64 M.ms, .int .i64 M.mc, vF, vS], .agg #[.int .i64 p, .int .i64 t], .agg #[.int .i64 d0, .int .i64 d1, .int .i64 d2, .int .i64 d3, .int .i64 d4, .int .i64 d5, .int .i64 d6, .int .i64 d7, .int .i64 d8, .int .i64 d9, .bool b0, .bool b1]] w fun e w' => e = .returned (.bool true) ∧ Below w.heap.size w w' := by
  have HA := Lib.hid hA
  obtain ⟨⟨A, cF, rfl, hF1, hF2, hF3⟩, ⟨A2, cS, rfl, hS1, hS2, hS3⟩⟩ := hA
  have HFR := Lib.hid (fun w1 h => wFar_c M (.slice A M.n cF) (.slice A2 M.m cS) w1 h)
  have HF3 := Lib.hid hF3
  have HS3 := Lib.hid hS3
  clear hF3 hS3 hF1 hF2 hS1 hS2
  cases hf : M.far
  case true =>
    rw [hf] at HFR
    clear hf
    go_enter Try.func6, Try.ntmps6
    go_wp2_with (fail)
    have bHX : Blk (((w.alloc (.cells #[.int .i64 M.places, .int .i64 M.any.a0, .int .i64 M.any.a1, .int .i64 M.any.a2, .int .i64 M.any.a3, .int .i64 M.any.a4, .int .i64 M.any.a5, .bool M.any.i, .bool M.any.s, .int .i64 M.mw, .int .i64 M.ms, .int .i64 M.mc, .slice A M.n cF, .slice A2 M.m cS] 29)).alloc (.cells #[.int .i64 p, .int .i64 t] 46)).alloc (.cells #[.int .i64 d0, .int .i64 d1, .int .i64 d2, .int .i64 d3, .int .i64 d4, .int .i64 d5, .int .i64 d6, .int .i64 d7, .int .i64 d8, .int .i64 d9, .bool b0, .bool b1] 58)) (w.heap.size) 29 #[.int .i64 M.places, .int .i64 M.any.a0, .int .i64 M.any.a1, .int .i64 M.any.a2, .int .i64 M.any.a3, .int .i64 M.any.a4, .int .i64 M.any.a5, .bool M.any.i, .bool M.any.s, .int .i64 M.mw, .int .i64 M.ms, .int .i64 M.mc, .slice A M.n cF, .slice A2 M.m cS] := (by repeat (first | (refine Blk.newAt _ _ _ ?_; first | rfl | (simp; done)) | refine Blk.alloc ?_ _))
    have bHP : Blk (((w.alloc (.cells #[.int .i64 M.places, .int .i64 M.any.a0, .int .i64 M.any.a1, .int .i64 M.any.a2, .int .i64 M.any.a3, .int .i64 M.any.a4, .int .i64 M.any.a5, .bool M.any.i, .bool M.any.s, .int .i64 M.mw, .int .i64 M.ms, .int .i64 M.mc, .slice A M.n cF, .slice A2 M.m cS] 29)).alloc (.cells #[.int .i64 p, .int .i64 t] 46)).alloc (.cells #[.int .i64 d0, .int .i64 d1, .int .i64 d2, .int .i64 d3, .int .i64 d4, .int .i64 d5, .int .i64 d6, .int .i64 d7, .int .i64 d8, .int .i64 d9, .bool b0, .bool b1] 58)) (w.heap.size + 1) 46 #[.int .i64 p, .int .i64 t] := (by repeat (first | (refine Blk.newAt _ _ _ ?_; first | rfl | (simp; done)) | refine Blk.alloc ?_ _))
    have bHF : Blk (((w.alloc (.cells #[.int .i64 M.places, .int .i64 M.any.a0, .int .i64 M.any.a1, .int .i64 M.any.a2, .int .i64 M.any.a3, .int .i64 M.any.a4, .int .i64 M.any.a5, .bool M.any.i, .bool M.any.s, .int .i64 M.mw, .int .i64 M.ms, .int .i64 M.mc, .slice A M.n cF, .slice A2 M.m cS] 29)).alloc (.cells #[.int .i64 p, .int .i64 t] 46)).alloc (.cells #[.int .i64 d0, .int .i64 d1, .int .i64 d2, .int .i64 d3, .int .i64 d4, .int .i64 d5, .int .i64 d6, .int .i64 d7, .int .i64 d8, .int .i64 d9, .bool b0, .bool b1] 58)) (w.heap.size + 1 + 1) 58 #[.int .i64 d0, .int .i64 d1, .int .i64 d2, .int .i64 d3, .int .i64 d4, .int .i64 d5, .int .i64 d6, .int .i64 d7, .int .i64 d8, .int .i64 d9, .bool b0, .bool b1] := (by repeat (first | (refine Blk.newAt _ _ _ ?_; first | rfl | (simp; done)) | refine Blk.alloc ?_ _))
    have bHB : Below w.heap.size w (((w.alloc (.cells #[.int .i64 M.places, .int .i64 M.any.a0, .int .i64 M.any.a1, .int .i64 M.any.a2, .int .i64 M.any.a3, .int .i64 M.any.a4, .int .i64 M.any.a5, .bool M.any.i, .bool M.any.s, .int .i64 M.mw, .int .i64 M.ms, .int .i64 M.mc, .slice A M.n cF, .slice A2 M.m cS] 29)).alloc (.cells #[.int .i64 p, .int .i64 t] 46)).alloc (.cells #[.int .i64 d0, .int .i64 d1, .int .i64 d2, .int .i64 d3, .int .i64 d4, .int .i64 d5, .int .i64 d6, .int .i64 d7, .int .i64 d8, .int .i64 d9, .bool b0, .bool b1] 58)) := (by repeat' (first | exact Below.refl _ _ | assumption | refine Below.drew ?_ | refine bdn ?_ _ | refine bal ?_ _ | refine Below.setCell ?_ (by first | (simp; done) | omega | (simp; omega)) _))
    generalize (((w.alloc (.cells #[.int .i64 M.places, .int .i64 M.any.a0, .int .i64 M.any.a1, .int .i64 M.any.a2, .int .i64 M.any.a3, .int .i64 M.any.a4, .int .i64 M.any.a5, .bool M.any.i, .bool M.any.s, .int .i64 M.mw, .int .i64 M.ms, .int .i64 M.mc, .slice A M.n cF, .slice A2 M.m cS] 29)).alloc (.cells #[.int .i64 p, .int .i64 t] 46)).alloc (.cells #[.int .i64 d0, .int .i64 d1, .int .i64 d2, .int .i64 d3, .int .i64 d4, .int .i64 d5, .int .i64 d6, .int .i64 d7, .int .i64 d8, .int .i64 d9, .bool b0, .bool b1] 58)) = W at *
    have zW := bHF.lt
    have HX := Lib.hid bHX
    have HP := Lib.hid bHP
    have HF := Lib.hid bHF
    have HB := Lib.hid bHB
    clear bHX bHP bHF bHB
    go_wp2_with (first | (refine wpl_row rfl 29 _ rfl _ rfl #[.int .i64 M.places, .int .i64 M.any.a0, .int .i64 M.any.a1, .int .i64 M.any.a2, .int .i64 M.any.a3, .int .i64 M.any.a4, .int .i64 M.any.a5, .bool M.any.i, .bool M.any.s, .int .i64 M.mw, .int .i64 M.ms, .int .i64 M.mc, .slice A M.n cF, .slice A2 M.m cS] 14 HX.out Try.rowMet rfl ?_; simp only [Act.put]) | (go_at_call 8; (with_reducible refine (HFR.out _ (HA.out.below HB.out)).mono ?_); rintro e w1 ⟨rfl, hb1⟩; have nHX := Lib.hid (HX.out.below hb1); have nHP := Lib.hid (HP.out.below hb1); have nHF := Lib.hid (HF.out.below hb1); have nHB := Lib.hid (bthen HB.out hb1); have zz1 := hb1.size; clear HX HP HF HB hb1; have HX := nHX; have HP := nHP; have HF := nHF; have HB := nHB; clear nHX nHP nHF nHB; (try clear zHX); have zHX := HX.out.lt; (try clear cHX12); have cHX12 := HX.out.cell 12) | (go_at_call 9; (with_reducible refine (wworks_c _).mono ?_); rintro e w1 ⟨rfl, hb1⟩; have nHX := Lib.hid (HX.out.below hb1); have nHB := Lib.hid (bthen HB.out hb1); have zz1 := hb1.size; clear HX HB hb1; have HX := nHX; have HB := nHB; clear nHX nHB))
    go_ret
    exact ⟨rfl, HB.out⟩
  have hm30 : M.m ≤ 30 := by
    unfold MetD.far at hf
    simp only [Bool.or_eq_false_iff, decide_eq_false_iff_not] at hf
    omega
  rw [hf] at HFR
  have HFF := Lib.hid hf
  clear hf
  by_cases hn : 40 ≤ M.n
  · have hnz : (40 : Int) ≤ (M.n : Int) := by omega
    go_enter Try.func6, Try.ntmps6
    go_wp2_with (fail)
    have bHX : Blk (((w.alloc (.cells #[.int .i64 M.places, .int .i64 M.any.a0, .int .i64 M.any.a1, .int .i64 M.any.a2, .int .i64 M.any.a3, .int .i64 M.any.a4, .int .i64 M.any.a5, .bool M.any.i, .bool M.any.s, .int .i64 M.mw, .int .i64 M.ms, .int .i64 M.mc, .slice A M.n cF, .slice A2 M.m cS] 29)).alloc (.cells #[.int .i64 p, .int .i64 t] 46)).alloc (.cells #[.int .i64 d0, .int .i64 d1, .int .i64 d2, .int .i64 d3, .int .i64 d4, .int .i64 d5, .int .i64 d6, .int .i64 d7, .int .i64 d8, .int .i64 d9, .bool b0, .bool b1] 58)) (w.heap.size) 29 #[.int .i64 M.places, .int .i64 M.any.a0, .int .i64 M.any.a1, .int .i64 M.any.a2, .int .i64 M.any.a3, .int .i64 M.any.a4, .int .i64 M.any.a5, .bool M.any.i, .bool M.any.s, .int .i64 M.mw, .int .i64 M.ms, .int .i64 M.mc, .slice A M.n cF, .slice A2 M.m cS] := (by repeat (first | (refine Blk.newAt _ _ _ ?_; first | rfl | (simp; done)) | refine Blk.alloc ?_ _))
    have bHP : Blk (((w.alloc (.cells #[.int .i64 M.places, .int .i64 M.any.a0, .int .i64 M.any.a1, .int .i64 M.any.a2, .int .i64 M.any.a3, .int .i64 M.any.a4, .int .i64 M.any.a5, .bool M.any.i, .bool M.any.s, .int .i64 M.mw, .int .i64 M.ms, .int .i64 M.mc, .slice A M.n cF, .slice A2 M.m cS] 29)).alloc (.cells #[.int .i64 p, .int .i64 t] 46)).alloc (.cells #[.int .i64 d0, .int .i64 d1, .int .i64 d2, .int .i64 d3, .int .i64 d4, .int .i64 d5, .int .i64 d6, .int .i64 d7, .int .i64 d8, .int .i64 d9, .bool b0, .bool b1] 58)) (w.heap.size + 1) 46 #[.int .i64 p, .int .i64 t] := (by repeat (first | (refine Blk.newAt _ _ _ ?_; first | rfl | (simp; done)) | refine Blk.alloc ?_ _))
    have bHF : Blk (((w.alloc (.cells #[.int .i64 M.places, .int .i64 M.any.a0, .int .i64 M.any.a1, .int .i64 M.any.a2, .int .i64 M.any.a3, .int .i64 M.any.a4, .int .i64 M.any.a5, .bool M.any.i, .bool M.any.s, .int .i64 M.mw, .int .i64 M.ms, .int .i64 M.mc, .slice A M.n cF, .slice A2 M.m cS] 29)).alloc (.cells #[.int .i64 p, .int .i64 t] 46)).alloc (.cells #[.int .i64 d0, .int .i64 d1, .int .i64 d2, .int .i64 d3, .int .i64 d4, .int .i64 d5, .int .i64 d6, .int .i64 d7, .int .i64 d8, .int .i64 d9, .bool b0, .bool b1] 58)) (w.heap.size + 1 + 1) 58 #[.int .i64 d0, .int .i64 d1, .int .i64 d2, .int .i64 d3, .int .i64 d4, .int .i64 d5, .int .i64 d6, .int .i64 d7, .int .i64 d8, .int .i64 d9, .bool b0, .bool b1] := (by repeat (first | (refine Blk.newAt _ _ _ ?_; first | rfl | (simp; done)) | refine Blk.alloc ?_ _))
    have bHB : Below w.heap.size w (((w.alloc (.cells #[.int .i64 M.places, .int .i64 M.any.a0, .int .i64 M.any.a1, .int .i64 M.any.a2, .int .i64 M.any.a3, .int .i64 M.any.a4, .int .i64 M.any.a5, .bool M.any.i, .bool M.any.s, .int .i64 M.mw, .int .i64 M.ms, .int .i64 M.mc, .slice A M.n cF, .slice A2 M.m cS] 29)).alloc (.cells #[.int .i64 p, .int .i64 t] 46)).alloc (.cells #[.int .i64 d0, .int .i64 d1, .int .i64 d2, .int .i64 d3, .int .i64 d4, .int .i64 d5, .int .i64 d6, .int .i64 d7, .int .i64 d8, .int .i64 d9, .bool b0, .bool b1] 58)) := (by repeat' (first | exact Below.refl _ _ | assumption | refine Below.drew ?_ | refine bdn ?_ _ | refine bal ?_ _ | refine Below.setCell ?_ (by first | (simp; done) | omega | (simp; omega)) _))
    generalize (((w.alloc (.cells #[.int .i64 M.places, .int .i64 M.any.a0, .int .i64 M.any.a1, .int .i64 M.any.a2, .int .i64 M.any.a3, .int .i64 M.any.a4, .int .i64 M.any.a5, .bool M.any.i, .bool M.any.s, .int .i64 M.mw, .int .i64 M.ms, .int .i64 M.mc, .slice A M.n cF, .slice A2 M.m cS] 29)).alloc (.cells #[.int .i64 p, .int .i64 t] 46)).alloc (.cells #[.int .i64 d0, .int .i64 d1, .int .i64 d2, .int .i64 d3, .int .i64 d4, .int .i64 d5, .int .i64 d6, .int .i64 d7, .int .i64 d8, .int .i64 d9, .bool b0, .bool b1] 58)) = W at *
    have zW := bHF.lt
    have HX := Lib.hid bHX
    have HP := Lib.hid bHP
    have HF := Lib.hid bHF
    have HB := Lib.hid bHB
    clear bHX bHP bHF bHB
    go_wp2_with (first | (refine wpl_row rfl 29 _ rfl _ rfl #[.int .i64 M.places, .int .i64 M.any.a0, .int .i64 M.any.a1, .int .i64 M.any.a2, .int .i64 M.any.a3, .int .i64 M.any.a4, .int .i64 M.any.a5, .bool M.any.i, .bool M.any.s, .int .i64 M.mw, .int .i64 M.ms, .int .i64 M.mc, .slice A M.n cF, .slice A2 M.m cS] 14 HX.out Try.rowMet rfl ?_; simp only [Act.put]) | (go_at_call 8; (with_reducible refine (HFR.out _ (HA.out.below HB.out)).mono ?_); rintro e w1 ⟨rfl, hb1⟩; have nHX := Lib.hid (HX.out.below hb1); have nHP := Lib.hid (HP.out.below hb1); have nHF := Lib.hid (HF.out.below hb1); have nHB := Lib.hid (bthen HB.out hb1); have zz1 := hb1.size; clear HX HP HF HB hb1; have HX := nHX; have HP := nHP; have HF := nHF; have HB := nHB; clear nHX nHP nHF nHB; (try clear zHX); have zHX := HX.out.lt; (try clear cHX12); have cHX12 := HX.out.cell 12) | (go_at_call 9; (with_reducible refine (wworks_c _).mono ?_); rintro e w1 ⟨rfl, hb1⟩; have nHX := Lib.hid (HX.out.below hb1); have nHB := Lib.hid (bthen HB.out hb1); have zz1 := hb1.size; clear HX HB hb1; have HX := nHX; have HB := nHB; clear nHX nHB))
    go_ret
    exact ⟨rfl, HB.out⟩
  have hnz : ¬ (40 : Int) ≤ (M.n : Int) := by omega
  go_enter Try.func6, Try.ntmps6
  go_wp2_with (fail)
  have bHX : Blk (((w.alloc (.cells #[.int .i64 M.places, .int .i64 M.any.a0, .int .i64 M.any.a1, .int .i64 M.any.a2, .int .i64 M.any.a3, .int .i64 M.any.a4, .int .i64 M.any.a5, .bool M.any.i, .bool M.any.s, .int .i64 M.mw, .int .i64 M.ms, .int .i64 M.mc, .slice A M.n cF, .slice A2 M.m cS] 29)).alloc (.cells #[.int .i64 p, .int .i64 t] 46)).alloc (.cells #[.int .i64 d0, .int .i64 d1, .int .i64 d2, .int .i64 d3, .int .i64 d4, .int .i64 d5, .int .i64 d6, .int .i64 d7, .int .i64 d8, .int .i64 d9, .bool b0, .bool b1] 58)) (w.heap.size) 29 #[.int .i64 M.places, .int .i64 M.any.a0, .int .i64 M.any.a1, .int .i64 M.any.a2, .int .i64 M.any.a3, .int .i64 M.any.a4, .int .i64 M.any.a5, .bool M.any.i, .bool M.any.s, .int .i64 M.mw, .int .i64 M.ms, .int .i64 M.mc, .slice A M.n cF, .slice A2 M.m cS] := (by repeat (first | (refine Blk.newAt _ _ _ ?_; first | rfl | (simp; done)) | refine Blk.alloc ?_ _))
  have bHP : Blk (((w.alloc (.cells #[.int .i64 M.places, .int .i64 M.any.a0, .int .i64 M.any.a1, .int .i64 M.any.a2, .int .i64 M.any.a3, .int .i64 M.any.a4, .int .i64 M.any.a5, .bool M.any.i, .bool M.any.s, .int .i64 M.mw, .int .i64 M.ms, .int .i64 M.mc, .slice A M.n cF, .slice A2 M.m cS] 29)).alloc (.cells #[.int .i64 p, .int .i64 t] 46)).alloc (.cells #[.int .i64 d0, .int .i64 d1, .int .i64 d2, .int .i64 d3, .int .i64 d4, .int .i64 d5, .int .i64 d6, .int .i64 d7, .int .i64 d8, .int .i64 d9, .bool b0, .bool b1] 58)) (w.heap.size + 1) 46 #[.int .i64 p, .int .i64 t] := (by repeat (first | (refine Blk.newAt _ _ _ ?_; first | rfl | (simp; done)) | refine Blk.alloc ?_ _))
  have bHF : Blk (((w.alloc (.cells #[.int .i64 M.places, .int .i64 M.any.a0, .int .i64 M.any.a1, .int .i64 M.any.a2, .int .i64 M.any.a3, .int .i64 M.any.a4, .int .i64 M.any.a5, .bool M.any.i, .bool M.any.s, .int .i64 M.mw, .int .i64 M.ms, .int .i64 M.mc, .slice A M.n cF, .slice A2 M.m cS] 29)).alloc (.cells #[.int .i64 p, .int .i64 t] 46)).alloc (.cells #[.int .i64 d0, .int .i64 d1, .int .i64 d2, .int .i64 d3, .int .i64 d4, .int .i64 d5, .int .i64 d6, .int .i64 d7, .int .i64 d8, .int .i64 d9, .bool b0, .bool b1] 58)) (w.heap.size + 1 + 1) 58 #[.int .i64 d0, .int .i64 d1, .int .i64 d2, .int .i64 d3, .int .i64 d4, .int .i64 d5, .int .i64 d6, .int .i64 d7, .int .i64 d8, .int .i64 d9, .bool b0, .bool b1] := (by repeat (first | (refine Blk.newAt _ _ _ ?_; first | rfl | (simp; done)) | refine Blk.alloc ?_ _))
  have bHB : Below w.heap.size w (((w.alloc (.cells #[.int .i64 M.places, .int .i64 M.any.a0, .int .i64 M.any.a1, .int .i64 M.any.a2, .int .i64 M.any.a3, .int .i64 M.any.a4, .int .i64 M.any.a5, .bool M.any.i, .bool M.any.s, .int .i64 M.mw, .int .i64 M.ms, .int .i64 M.mc, .slice A M.n cF, .slice A2 M.m cS] 29)).alloc (.cells #[.int .i64 p, .int .i64 t] 46)).alloc (.cells #[.int .i64 d0, .int .i64 d1, .int .i64 d2, .int .i64 d3, .int .i64 d4, .int .i64 d5, .int .i64 d6, .int .i64 d7, .int .i64 d8, .int .i64 d9, .bool b0, .bool b1] 58)) := (by repeat' (first | exact Below.refl _ _ | assumption | refine Below.drew ?_ | refine bdn ?_ _ | refine bal ?_ _ | refine Below.setCell ?_ (by first | (simp; done) | omega | (simp; omega)) _))
  generalize (((w.alloc (.cells #[.int .i64 M.places, .int .i64 M.any.a0, .int .i64 M.any.a1, .int .i64 M.any.a2, .int .i64 M.any.a3, .int .i64 M.any.a4, .int .i64 M.any.a5, .bool M.any.i, .bool M.any.s, .int .i64 M.mw, .int .i64 M.ms, .int .i64 M.mc, .slice A M.n cF, .slice A2 M.m cS] 29)).alloc (.cells #[.int .i64 p, .int .i64 t] 46)).alloc (.cells #[.int .i64 d0, .int .i64 d1, .int .i64 d2, .int .i64 d3, .int .i64 d4, .int .i64 d5, .int .i64 d6, .int .i64 d7, .int .i64 d8, .int .i64 d9, .bool b0, .bool b1] 58)) = W at *
  have zW := bHF.lt
  have HX := Lib.hid bHX
  have HP := Lib.hid bHP
  have HF := Lib.hid bHF
  have HB := Lib.hid bHB
  clear bHX bHP bHF bHB
  go_wp2_with (first | (refine wpl_row rfl 29 _ rfl _ rfl #[.int .i64 M.places, .int .i64 M.any.a0, .int .i64 M.any.a1, .int .i64 M.any.a2, .int .i64 M.any.a3, .int .i64 M.any.a4, .int .i64 M.any.a5, .bool M.any.i, .bool M.any.s, .int .i64 M.mw, .int .i64 M.ms, .int .i64 M.mc, .slice A M.n cF, .slice A2 M.m cS] 14 HX.out Try.rowMet rfl ?_; simp only [Act.put]) | (go_at_call 8; (with_reducible refine (HFR.out _ (HA.out.below HB.out)).mono ?_); rintro e w1 ⟨rfl, hb1⟩; have nHX := Lib.hid (HX.out.below hb1); have nHP := Lib.hid (HP.out.below hb1); have nHF := Lib.hid (HF.out.below hb1); have nHB := Lib.hid (bthen HB.out hb1); have zz1 := hb1.size; clear HX HP HF HB hb1; have HX := nHX; have HP := nHP; have HF := nHF; have HB := nHB; clear nHX nHP nHF nHB; (try clear zHX); have zHX := HX.out.lt; (try clear cHX12); have cHX12 := HX.out.cell 12) | (go_at_call 9; (with_reducible refine (wworks_c _).mono ?_); rintro e w1 ⟨rfl, hb1⟩; have nHX := Lib.hid (HX.out.below hb1); have nHB := Lib.hid (bthen HB.out hb1); have zz1 := hb1.size; clear HX HB hb1; have HX := nHX; have HB := nHB; clear nHX nHB))
  have K0 := Lib.hid (show CuK M (.slice A M.n cF) (.slice A2 M.m cS) p t d0 d1 d2 d3 d4 d5 d6 d7 d8 d9 b0 b1 w _ from ⟨HB.out, HX.out, HP.out, HF.out⟩)
  clear HX HP HF HB
  go_loopg [7] M.n (fun gx i wr => ∃ k : Nat, i = .int .i64 k ∧ k ≤ M.n ∧ M.n - k ≤ gx ∧ Hid (CuK M (.slice A M.n cF) (.slice A2 M.m cS) p t d0 d1 d2 d3 d4 d5 d6 d7 d8 d9 b0 b1 w wr) ∧ Hid (∀ j, j < k → M.D j 3 ≤ d3))
  case atStart => exact ⟨0, rfl, Nat.zero_le _, Nat.le_refl _, K0, Lib.hid (fun j hj => absurd hj (Nat.not_lt_zero _))⟩
  case round =>
    clear K0
    obtain ⟨k, rfl, hk, hgx, K0, HD⟩ := hrel
    have m12 := K0.out.m.cell 12
    simp only [List.getElem?_toArray, List.getElem?_cons_succ, List.getElem?_cons_zero] at m12
    by_cases hlt : k < M.n
    · have hltz : (k : Int) < (M.n : Int) := by omega
      obtain ⟨bf, off, rfl, hbf, hcell⟩ := HF3.out (by omega)
      have c3 : wr.cell? ⟨bf, off + k * 12 + 3, none⟩ = some (.int .i64 (M.D k 3)) := (K0.out.b.cell (p := ⟨bf, off + k * 12 + 3, none⟩) hbf).trans (hcell k hlt 3 (by omega))
      have x3 := K0.out.f.cell 3
      simp only [List.getElem?_toArray, List.getElem?_cons_succ, List.getElem?_cons_zero] at x3
      clear hcell
      by_cases g1 : d3 < M.D k 3
      · skip
        go_wp2_with (fail)
        go_quiet (fail)
        go_wp2_with (first | (go_at_call 9; refine (wworks_c _).mono ?_; rintro _ w2 ⟨rfl, hb2⟩))
        go_ret
        exact ⟨rfl, bthen K0.out.b (bthen (bdn (Below.refl _ _) _) hb2)⟩
      · go_wp2_with (fail)
        go_quiet (fail)
        go_wp2_with (fail)
        go_roundg (M.n - (k + 1))
        case measure => omega
        case rel => exact ⟨k + 1, by first | rfl | go_num | (congr 1; omega), by omega, Nat.le_refl _, Lib.hid (K0.out.grow (bdn (Below.refl _ _) _)), Lib.hid (fun j hj => by
          by_cases e : j = k
          · subst e; omega
          · exact HD.out j (by omega))⟩
    · obtain rfl : k = M.n := by omega
      have HD2 := Lib.hid (show ∀ i, i < M.n → M.D i 3 ≤ d3 from HD.out)
      clear HD
      go_wp2_with (fail)
      clear m12
      go_loopg [8] M.m (fun gx i wr => ∃ k : Nat, i = .int .i64 k ∧ k ≤ M.m ∧ M.m - k ≤ gx ∧ Hid (CuK M (.slice A M.n cF) (.slice A2 M.m cS) p t d0 d1 d2 d3 d4 d5 d6 d7 d8 d9 b0 b1 w wr) ∧ Hid (∀ j, j < k → M.E j 0 ≠ p))
      case atStart => exact ⟨0, rfl, Nat.zero_le _, Nat.le_refl _, K0, Lib.hid (fun j hj => absurd hj (Nat.not_lt_zero _))⟩
      case round =>
        clear K0
        obtain ⟨k, rfl, hk, hgx, K0, HE⟩ := hrel
        have m13 := K0.out.m.cell 13
        simp only [List.getElem?_toArray, List.getElem?_cons_succ, List.getElem?_cons_zero] at m13
        by_cases hlt : k < M.m
        · have hltz : (k : Int) < (M.m : Int) := by omega
          obtain ⟨bf, off, rfl, hbf, hcell⟩ := HS3.out (by omega)
          have c0 : wr.cell? ⟨bf, off + k * 7, none⟩ = some (.int .i64 (M.E k 0)) := (K0.out.b.cell (p := ⟨bf, off + k * 7 + 0, none⟩) hbf).trans (hcell k hlt 0 (by omega))
          have x0 := K0.out.s.cell 0
          simp only [List.getElem?_toArray, List.getElem?_cons_succ, List.getElem?_cons_zero] at x0
          clear hcell
          by_cases g1 : M.E k 0 = p
          · have g1z : (M.E k 0 == p) = true := by simp [g1]
            clear g1
            go_wp2_with (fail)
            go_quiet (fail)
            go_wp2_with (first | (go_at_call 9; refine (wworks_c _).mono ?_; rintro _ w2 ⟨rfl, hb2⟩))
            go_ret
            exact ⟨rfl, bthen K0.out.b (bthen (bdn (Below.refl _ _) _) hb2)⟩
          · have g1z : (M.E k 0 == p) = false := by simp [g1]
            have G1 := Lib.hid g1
            clear g1
            go_wp2_with (fail)
            go_quiet (fail)
            go_wp2_with (fail)
            go_roundg (M.m - (k + 1))
            case measure => omega
            case rel => exact ⟨k + 1, by first | rfl | go_num | (congr 1; omega), by omega, Nat.le_refl _, Lib.hid (K0.out.grow (bdn (Below.refl _ _) _)), Lib.hid (fun j hj => by
              by_cases e : j = k
              · subst e; exact G1.out
              · exact HE.out j (by omega))⟩
        · obtain rfl : k = M.m := by omega
          have HE2 := Lib.hid (show ∀ i, i < M.m → M.E i 0 ≠ p from HE.out)
          clear HE
          go_wp2_with (first | (refine wpl_row rfl 29 (.tmp 3) rfl _ rfl #[.int .i64 M.places, .int .i64 M.any.a0, .int .i64 M.any.a1, .int .i64 M.any.a2, .int .i64 M.any.a3, .int .i64 M.any.a4, .int .i64 M.any.a5, .bool M.any.i, .bool M.any.s, .int .i64 M.mw, .int .i64 M.ms, .int .i64 M.mc, .slice A M.n cF, .slice A2 M.m cS] 14 K0.out.m Try.rowMet rfl ?_; simp only [Act.put]))
          refine (wown3_c M _ _ _ (HA.out.below K0.out.b) HFF.out).mono ?_
          rintro e w1 ⟨vB, vB2, rfl, hb1, hA1, hO, hD⟩
          obtain ⟨⟨B, cB, rfl, u1, u2, u3⟩, ⟨B2, cB2, rfl, v1, v2, v3⟩⟩ := hA1
          have HA1 := Lib.hid (show MetAt w1 (.slice B M.n cB) (.slice B2 M.m cB2) M from ⟨⟨B, cB, rfl, u1, u2, u3⟩, ⟨B2, cB2, rfl, v1, v2, v3⟩⟩)
          have HDI := Lib.hid hD
          have HOL := Lib.hid (fun b hb => owns_lt hO (b := b) hb)
          have HNS := Lib.hid (show 0 < M.m → ∀ b, some b = (Value.slice B2 M.m cB2).ownBlock → b ≠ w1.heap.size from fun h0 b e => by
            obtain ⟨b', off', e3, hlt, -⟩ := v3 h0
            rw [e3] at e
            have e4 : b = b' := by simpa [Value.ownBlock] using e
            omega)
          have HO := Lib.hid (ownsRow_below hO (bal (Below.refl _ _) (.cells #[.int .i64 M.places, .int .i64 M.any.a0, .int .i64 M.any.a1, .int .i64 M.any.a2, .int .i64 M.any.a3, .int .i64 M.any.a4, .int .i64 M.any.a5, .bool M.any.i, .bool M.any.s, .int .i64 M.mw, .int .i64 M.ms, .int .i64 M.mc, .slice B M.n cB, .slice B2 M.m cB2] 29)))
          have HX := Lib.hid (K0.out.m.below hb1)
          have HP := Lib.hid (K0.out.s.below hb1)
          have HF := Lib.hid (K0.out.f.below hb1)
          have HB := Lib.hid (bthen K0.out.b hb1)
          have zr1 : wr.heap.size ≤ w1.heap.size := hb1.size
          have zr2 := K0.out.f.lt
          clear K0 hO hD u1 u2 u3 v1 v2 v3 hb1 m13
          have tok : True := trivial
          go_wp2_with (first | (have _t := tok; refine wpl_store_newW rfl 29 (.tmp 9) (.tmp 61) rfl #[.int .i64 M.places, .int .i64 M.any.a0, .int .i64 M.any.a1, .int .i64 M.any.a2, .int .i64 M.any.a3, .int .i64 M.any.a4, .int .i64 M.any.a5, .bool M.any.i, .bool M.any.s, .int .i64 M.mw, .int .i64 M.ms, .int .i64 M.mc, .slice B M.n cB, .slice B2 M.m cB2] _ _ rfl ?_ rfl Try.sizeMet rfl (oneM M B B2 _ _ _ _) ?_; (focus (simp; done)); simp only [Act.put]; clear tok; have tok2 : True := trivial) | (have _t := tok2; refine wpl_row rfl 58 (.tmp 5) rfl _ rfl #[.int .i64 d0, .int .i64 d1, .int .i64 d2, .int .i64 d3, .int .i64 d4, .int .i64 d5, .int .i64 d6, .int .i64 d7, .int .i64 d8, .int .i64 d9, .bool b0, .bool b1] 12 (HF.out.alloc _) Try.rowFc rfl ?_; simp only [Act.put]) | (have _t := tok2; refine wpl_recs rfl 26 58 1 _ 12 [.agg #[.int .i64 d0, .int .i64 d1, .int .i64 d2, .int .i64 d3, .int .i64 d4, .int .i64 d5, .int .i64 d6, .int .i64 d7, .int .i64 d8, .int .i64 d9, .bool b0, .bool b1]] (fun _ j => [.int .i64 d0, .int .i64 d1, .int .i64 d2, .int .i64 d3, .int .i64 d4, .int .i64 d5, .int .i64 d6, .int .i64 d7, .int .i64 d8, .int .i64 d9, .bool b0, .bool b1].getD j undef) rfl Try.fcU Try.fcS Try.fcZ rfl (by omega) (by omega) (by omega) (by intro v hv; rw [List.mem_singleton.1 hv]; rfl) (by rfl) (by rfl) ?_))
          intro g1 w2 hb2 hg2 hr2
          clear tok2
          have hb2' : Below (w1.alloc (.cells #[.int .i64 M.places, .int .i64 M.any.a0, .int .i64 M.any.a1, .int .i64 M.any.a2, .int .i64 M.any.a3, .int .i64 M.any.a4, .int .i64 M.any.a5, .bool M.any.i, .bool M.any.s, .int .i64 M.mw, .int .i64 M.ms, .int .i64 M.mc, .slice B M.n cB, .slice B2 M.m cB2] 29)).heap.size (w1.alloc (.cells #[.int .i64 M.places, .int .i64 M.any.a0, .int .i64 M.any.a1, .int .i64 M.any.a2, .int .i64 M.any.a3, .int .i64 M.any.a4, .int .i64 M.any.a5, .bool M.any.i, .bool M.any.s, .int .i64 M.mw, .int .i64 M.ms, .int .i64 M.mc, .slice B M.n cB, .slice B2 M.m cB2] 29)) w2 := by simpa using hb2
          have hbz : Below w1.heap.size w1 w2 := (bal (Below.refl _ _) (.cells #[.int .i64 M.places, .int .i64 M.any.a0, .int .i64 M.any.a1, .int .i64 M.any.a2, .int .i64 M.any.a3, .int .i64 M.any.a4, .int .i64 M.any.a5, .bool M.any.i, .bool M.any.s, .int .i64 M.mw, .int .i64 M.ms, .int .i64 M.mc, .slice B M.n cB, .slice B2 M.m cB2] 29)).trans (hb2'.mono (by simp))
          have HQ := Lib.hid ((Blk.new w1 29 #[.int .i64 M.places, .int .i64 M.any.a0, .int .i64 M.any.a1, .int .i64 M.any.a2, .int .i64 M.any.a3, .int .i64 M.any.a4, .int .i64 M.any.a5, .bool M.any.i, .bool M.any.s, .int .i64 M.mw, .int .i64 M.ms, .int .i64 M.mc, .slice B M.n cB, .slice B2 M.m cB2]).below hb2')
          have HO2 := Lib.hid (ownsRow_below HO.out hb2')
          have HX2 := Lib.hid (HX.out.below hbz)
          have HP2 := Lib.hid (HP.out.below hbz)
          have HF2 := Lib.hid (HF.out.below hbz)
          have HA2 := Lib.hid (HA1.out.below hbz)
          have HB2 := Lib.hid (bthen HB.out hbz)
          have HR2 := Lib.hid hr2
          have zr3 : wr.heap.size ≤ w2.heap.size := by have := hbz.size; omega
          have zg : wr.heap.size ≤ w1.heap.size := zr1
          clear hb2 hb2' hbz hr2 hg2 HO HX HP HF HA1 HB
          generalize w1.heap.size = gHQ at *
          go_wp2_with (first | (at_builtin; go_loud (refine wpl_appF rfl _ _ rfl wr.heap.size _ M.n (fcL M.D M.B M.n) rfl HO2.out g1 [.int .i64 d0, .int .i64 d1, .int .i64 d2, .int .i64 d3, .int .i64 d4, .int .i64 d5, .int .i64 d6, .int .i64 d7, .int .i64 d8, .int .i64 d9, .bool b0, .bool b1] rfl (fr_one d0 d1 d2 d3 d4 d5 d6 d7 d8 d9 b0 b1) rfl (recs_row rfl HR2.out) (by omega) zr3 ?_)))
          intro v3 w3 hO3 hG3
          have hbG := below_grown hG3 zr3 (fun b hb => owns_base HO2.out hb)
          have hO4 : w3.ownsRow wr.heap.size 58 12 v3 (M.n + 1) (fcL (M.plus (fun j => [d0, d1, d2, d3, d4, d5, d6, d7, d8, d9].getD j 0) (fun j => if j = 10 then b0 else b1)).D (M.plus (fun j => [d0, d1, d2, d3, d4, d5, d6, d7, d8, d9].getD j 0) (fun j => if j = 10 then b0 else b1)).B (M.n + 1)) := by rw [← plus_list]; exact hO3
          have HQ3 := Lib.hid (HQ.out.grown' hG3 (fun b hb => by have := HOL.out b hb; omega))
          have hne := owns_ne hO4 HQ3.out (by decide)
          obtain ⟨D, cD, rfl, q1, q2, q3⟩ := RecsAt.of_owns (V := fcV (M.plus (fun j => [d0, d1, d2, d3, d4, d5, d6, d7, d8, d9].getD j 0) (fun j => if j = 10 then b0 else b1)).D (M.plus (fun j => [d0, d1, d2, d3, d4, d5, d6, d7, d8, d9].getD j 0) (fun j => if j = 10 then b0 else b1)).B) (by omega) hO4
          have HA3 := Lib.hid (show MetAt w3 (.slice D (M.n + 1) cD) (.slice B2 M.m cB2) (M.plus (fun j => [d0, d1, d2, d3, d4, d5, d6, d7, d8, d9].getD j 0) (fun j => if j = 10 then b0 else b1)) from ⟨⟨D, cD, rfl, q1, q2, q3⟩, by
            obtain ⟨A', c', e, s1, s2, s3⟩ := HA2.out.s
            exact ⟨A', c', e, s1, s2, s3.frame hG3.size (fun h0 b off e2 => hG3.block b (by
              obtain ⟨b', off', e3, hlt, -⟩ := s3 h0
              rw [e2] at e3
              simp only [Option.some.injEq, Addr.mk.injEq] at e3
              omega) (fun e4 => HDI.out b (by rw [e, e2]; rfl) e4))⟩⟩)
          have HX3 := Lib.hid (HX2.out.under hbG (by omega))
          have HP3 := Lib.hid (HP2.out.under hbG (by omega))
          have HF3 := Lib.hid (HF2.out.under hbG (by omega))
          have HB3 := Lib.hid (HB2.out.trans (hbG.mono (by omega)))
          have HNE := Lib.hid hne
          clear hO3 hG3 hbG hO4 q1 q2 q3 hne HO2 HQ HX2 HP2 HF2 HA2 HB2 HR2 HOL HDI
          have zHQ3 := HQ3.out.lt
          have cHQ312 := HQ3.out.cell 12
          have fHQ3 := fun i => HQ3.out.frozen i
          go_wp2_with (fail)
          have HA4 := Lib.hid (HA3.out.setCell (g := gHQ) (i := 12) HNE.out HNS.out (.slice D (M.n + 1) cD))
          have HX4 := Lib.hid (HX3.out.far' (f := gHQ) (by omega) (i := 12) (.slice D (M.n + 1) cD))
          have HP4 := Lib.hid (HP3.out.far' (f := gHQ) (by omega) (i := 12) (.slice D (M.n + 1) cD))
          have HF4 := Lib.hid (HF3.out.far' (f := gHQ) (by omega) (i := 12) (.slice D (M.n + 1) cD))
          have HQ4 := Lib.hid (show Blk _ gHQ 29 #[.int .i64 M.places, .int .i64 M.any.a0, .int .i64 M.any.a1, .int .i64 M.any.a2, .int .i64 M.any.a3, .int .i64 M.any.a4, .int .i64 M.any.a5, .bool M.any.i, .bool M.any.s, .int .i64 M.mw, .int .i64 M.ms, .int .i64 M.mc, .slice D (M.n + 1) cD, .slice B2 M.m cB2] from HQ3.out.set_ 12 (.slice D (M.n + 1) cD))
          have HB := Lib.hid (bset HB3.out (g := gHQ) (by omega) (i := 12) (.slice D (M.n + 1) cD))
          clear HA3 HX3 HP3 HF3 HQ3 HB3 HNE HNS
          generalize w3.setCell ⟨gHQ, 12, none⟩ (.slice D (M.n + 1) cD) = W4 at *
          obtain ⟨y0, y1, y2, y3, y4, y5, yi, yt, hY⟩ : ∃ y0 y1 y2 y3 y4 y5 yi yt, mayV M p t = ⟨y0, y1, y2, y3, y4, y5, yi, yt⟩ := ⟨_, _, _, _, _, _, _, _, rfl⟩
          have hmy := fun w1 vF vS h => wMay_c M vF vS p t w1 h
          rw [hY] at hmy
          dsimp only [Sk.cells] at hmy
          have HMY := Lib.hid hmy
          have HY := Lib.hid hY
          clear hmy hY
          have HEE := Lib.hid (show ∃ E, E = atE M p t from ⟨_, rfl⟩)
          generalize hE : atE M p t = E at *
          have HE1 := Lib.hid hE
          clear hE HEE
          refine wp_region_specL 11 [9] (cutsR W4.heap.size M w.heap.size (.agg #[.int .i64 M.places, .int .i64 M.any.a0, .int .i64 M.any.a1, .int .i64 M.any.a2, .int .i64 M.any.a3, .int .i64 M.any.a4, .int .i64 M.any.a5, .bool M.any.i, .bool M.any.s, .int .i64 M.mw, .int .i64 M.ms, .int .i64 M.mc, .slice A M.n cF, .slice A2 M.m cS]) p t (.agg #[.int .i64 y0, .int .i64 y1, .int .i64 y2, .int .i64 y3, .int .i64 y4, .int .i64 y5, .bool yi, .bool yt]) E) (fun i => decide (i = 10)) (by kernel_rfl) (by kernel_rfl) (by decide) cutsR_below ?hop1 ?htail1
          case hop1 =>
            simp only [List.take_succ_cons, List.take_zero, allOps]
            refine ⟨?_, ?_, ?_, ?_, ?_, ?_, ?_, ?_, ?_, ?_, ?_, trivial⟩
            all_goals intro u A w1 hA hb hd
            all_goals simp only [putAll, dstOf, List.getElem?_toArray, List.getElem?_cons_succ, List.getElem?_cons_zero, Option.bind_some, Option.bind, Act.put, List.setIfInBounds_toArray, List.set_cons_succ, List.set_cons_zero] at hA; subst hA
            all_goals have HB1 := Lib.hid hb
            · refine OpOk.now rfl ?_
              clear hb hd
              go_wp2_with (refine wpl_row rfl 29 _ rfl _ rfl _ 14 (HX4.out.below HB1.out) Try.rowMet rfl ?_; simp only [Act.put])
              exact ⟨_, rfl, Below.refl _ _, rfl, fun h => absurd h (by decide)⟩
            · refine OpOk.now rfl ?_
              have d0 : u 0 = _ := hd 0 (by omega) (by kernel_rfl)
              clear hb hd
              rw [d0]
              clear d0
              go_wp2_with (go_at_call 10; (with_reducible refine (wown4_c M _ _ _ ((HA.out.below HB.out).below HB1.out) HFF.out).mono ?_); rintro e w2 ⟨v, rfl, ho, hb2⟩)
              exact ⟨_, rfl, hb2, ho, fun h => absurd h (by decide)⟩
            · refine OpOk.now rfl ?_
              clear hb hd
              go_wp2
              exact ⟨_, rfl, Below.refl _ _, rfl, fun h => absurd h (by decide)⟩
            · refine OpOk.now rfl ?_
              have d2 : u 2 = _ := hd 2 (by omega) (by kernel_rfl)
              clear hb hd
              rw [d2]
              clear d2
              have c0 := (HP4.out.below HB1.out).cell 0
              go_wp2
              exact ⟨_, rfl, Below.refl _ _, rfl, fun h => absurd h (by decide)⟩
            · refine OpOk.now rfl ?_
              clear hb hd
              go_wp2
              exact ⟨_, rfl, Below.refl _ _, rfl, fun h => absurd h (by decide)⟩
            · refine OpOk.now rfl ?_
              have d4 : u 4 = _ := hd 4 (by omega) (by kernel_rfl)
              clear hb hd
              rw [d4]
              clear d4
              have c1 := (HP4.out.below HB1.out).cell 1
              go_wp2
              exact ⟨_, rfl, Below.refl _ _, rfl, fun h => absurd h (by decide)⟩
            · refine OpOk.now rfl ?_
              have d1 := hd 1 (by omega) (by kernel_rfl)
              have d3 : u 3 = _ := hd 3 (by omega) (by kernel_rfl)
              have d5 : u 5 = _ := hd 5 (by omega) (by kernel_rfl)
              clear hb hd
              rw [d3, d5]
              clear d3 d5
              obtain ⟨A', cF', A2', cS', e1, r1⟩ := d1
              rw [e1]
              clear e1
              go_wp2_with (go_at_call 15; (with_reducible refine (HMY.out _ _ _ r1).mono ?_); rintro e w2 ⟨rfl, hb2⟩)
              exact ⟨_, rfl, hb2, rfl, fun h => absurd h (by decide)⟩
            · refine OpOk.now rfl ?_
              have d6 : u 6 = _ := hd 6 (by omega) (by kernel_rfl)
              clear hb hd
              rw [d6]
              clear d6
              go_wp2
              exact ⟨_, rfl, Below.refl _ _, rfl, fun h => absurd h (by decide)⟩
            · refine OpOk.now rfl ?_
              have d7 : u 7 = _ := hd 7 (by omega) (by kernel_rfl)
              clear hb hd
              rw [d7]
              clear d7
              go_wp2
              exact ⟨_, rfl, Below.refl _ _, rfl, fun h => absurd h (by decide)⟩
            · have d7 : u 7 = _ := hd 7 (by omega) (by kernel_rfl)
              clear hb hd
              rw [d7]
              clear d7
              refine OpOk.late rfl ?_
              exact ⟨_, yields_extract rfl _ _ rfl _ rfl _ rfl, rfl⟩
            · refine OpOk.now rfl ?_
              have zz := hb.size
              clear hb hd
              go_wp2
              exact ⟨_, rfl, bal (Below.refl _ _) _, ⟨_, rfl, by omega, Blk.new _ _ _⟩, fun _ => ⟨_, rfl, Nat.le_refl _, by simp⟩⟩
          case htail1 =>
            intro u A w1 hA hb hd hf
            simp only [putAll, dstOf, List.getElem?_toArray, List.getElem?_cons_succ, List.getElem?_cons_zero, Option.bind_some, Option.bind, Act.put, List.setIfInBounds_toArray, List.set_cons_succ, List.set_cons_zero] at hA; subst hA
            have e0 : u 0 = _ := hd 0 (by omega)
            have p1 := hd 1 (by omega)
            have e2 : u 2 = _ := hd 2 (by omega)
            have e3 : u 3 = _ := hd 3 (by omega)
            have e4 : u 4 = _ := hd 4 (by omega)
            have e5 : u 5 = _ := hd 5 (by omega)
            have e6 : u 6 = _ := hd 6 (by omega)
            have e7 : u 7 = _ := hd 7 (by omega)
            have e8 : u 8 = _ := hd 8 (by omega)
            have e9 : u 9 = _ := hd 9 (by omega)
            obtain ⟨g10, e10, z10, b10⟩ := hd 10 (by omega)
            first | rw [e0, e2, e3, e4, e5, e6, e7, e8, e9, e10] | simp only [e0, e2, e3, e4, e5, e6, e7, e8, e9, e10]
            clear e0 e2 e3 e4 e5 e6 e7 e8 e9 e10
            clear hd hf
            refine wpList_store_row rfl 25 _ _ rfl g10 #[.int .i64 y0, .int .i64 y1, .int .i64 y2, .int .i64 y3, .int .i64 y4, .int .i64 y5, .bool yi, .bool yt] rfl rfl 25 #[.int .i64 0, .int .i64 0, .int .i64 0, .int .i64 0, .int .i64 0, .int .i64 0, .bool false, .bool false] b10 Try.sizeSky rfl (oneS y0 y1 y2 y3 y4 y5 yi yt) ?_
            simp only [Act.put]
            have hbF := below_row hb z10 #[.int .i64 y0, .int .i64 y1, .int .i64 y2, .int .i64 y3, .int .i64 y4, .int .i64 y5, .bool yi, .bool yt]
            have HN := Lib.hid (wblk_setRow (cs := #[.int .i64 y0, .int .i64 y1, .int .i64 y2, .int .i64 y3, .int .i64 y4, .int .i64 y5, .bool yi, .bool yt]) b10)
            clear hb b10 p1
            generalize w1.setRow g10 #[.int .i64 y0, .int .i64 y1, .int .i64 y2, .int .i64 y3, .int .i64 y4, .int .i64 y5, .bool yi, .bool yt] = W5 at *
            have HX := HX4
            have HP := HP4
            have HQ := HQ4
            clear HX4 HP4 HQ4 HF4
            have nHX := Lib.hid (HX.out.below hbF)
            have nHP := Lib.hid (HP.out.below hbF)
            have nHQ := Lib.hid (HQ.out.below hbF)
            have nHA4 := Lib.hid (HA4.out.below hbF)
            have nHB := Lib.hid (bthen HB.out hbF)
            clear HX HP HQ HA4 HB hbF
            have HX := nHX
            have HP := nHP
            have HQ := nHQ
            have HA4 := nHA4
            have HB := nHB
            clear nHX nHP nHQ nHA4 nHB
            go_wp2_with (fail)
            dsimp only [NoPanic]
            obtain ⟨z0, z1, z2, z3, z4, z5, zi, zs, hZ⟩ : ∃ z0 z1 z2 z3 z4 z5 zi zs, mayV (M.plus (fun j => [d0, d1, d2, d3, d4, d5, d6, d7, d8, d9].getD j 0) (fun j => if j = 10 then b0 else b1)) p t = ⟨z0, z1, z2, z3, z4, z5, zi, zs⟩ := ⟨_, _, _, _, _, _, _, _, rfl⟩
            have HZ := Lib.hid hZ
            have zHP := HP.out.lt
            have cHP0 := HP.out.cell 0
            have cHP1 := HP.out.cell 1
            go_wp2_with (first | (refine wpl_row rfl 29 (.tmp 9) rfl _ rfl #[.int .i64 M.places, .int .i64 M.any.a0, .int .i64 M.any.a1, .int .i64 M.any.a2, .int .i64 M.any.a3, .int .i64 M.any.a4, .int .i64 M.any.a5, .bool M.any.i, .bool M.any.s, .int .i64 M.mw, .int .i64 M.ms, .int .i64 M.mc, .slice D (M.n + 1) cD, .slice B2 M.m cB2] 14 HQ.out Try.rowMet rfl ?_; simp only [Act.put]))
            have hm2 := wMay_c (M.plus (fun j => [d0, d1, d2, d3, d4, d5, d6, d7, d8, d9].getD j 0) (fun j => if j = 10 then b0 else b1)) _ _ p t _ HA4.out
            rw [hZ] at hm2
            dsimp only [Sk.cells] at hm2
            generalize hE2 : atE (M.plus (fun j => [d0, d1, d2, d3, d4, d5, d6, d7, d8, d9].getD j 0) (fun j => if j = 10 then b0 else b1)) p t = E2 at *
            have HE3 := Lib.hid hE2
            clear hE2 hZ
            refine hm2.mono ?_
            clear hm2
            rintro e w1 ⟨rfl, hb1⟩
            have nHX := Lib.hid (HX.out.below hb1)
            have nHP := Lib.hid (HP.out.below hb1)
            have nHQ := Lib.hid (HQ.out.below hb1)
            have nHA4 := Lib.hid (HA4.out.below hb1)
            have nHN := Lib.hid (HN.out.below hb1)
            have nHB := Lib.hid (bthen HB.out hb1)
            clear HX HP HQ HA4 HN HB hb1
            have HX := nHX
            have HP := nHP
            have HQ := nHQ
            have HA4 := nHA4
            have HN := nHN
            have HB := nHB
            clear nHX nHP nHQ nHA4 nHN nHB
            have zHP := HP.out.lt
            have cHP0 := HP.out.cell 0
            have cHP1 := HP.out.cell 1
            go_wp2_with (first | (refine wpl_row rfl 29 (.tmp 9) rfl _ rfl #[.int .i64 M.places, .int .i64 M.any.a0, .int .i64 M.any.a1, .int .i64 M.any.a2, .int .i64 M.any.a3, .int .i64 M.any.a4, .int .i64 M.any.a5, .bool M.any.i, .bool M.any.s, .int .i64 M.mw, .int .i64 M.ms, .int .i64 M.mc, .slice D (M.n + 1) cD, .slice B2 M.m cB2] 14 (HQ.out.alloc _) Try.rowMet rfl ?_; simp only [Act.put]))
            have bHT := Blk.new w1 25 #[.int .i64 z0, .int .i64 z1, .int .i64 z2, .int .i64 z3, .int .i64 z4, .int .i64 z5, .bool zi, .bool zs]
            have nHX := Lib.hid (HX.out.alloc (.cells #[.int .i64 z0, .int .i64 z1, .int .i64 z2, .int .i64 z3, .int .i64 z4, .int .i64 z5, .bool zi, .bool zs] 25))
            have nHP := Lib.hid (HP.out.alloc (.cells #[.int .i64 z0, .int .i64 z1, .int .i64 z2, .int .i64 z3, .int .i64 z4, .int .i64 z5, .bool zi, .bool zs] 25))
            have nHQ := Lib.hid (HQ.out.alloc (.cells #[.int .i64 z0, .int .i64 z1, .int .i64 z2, .int .i64 z3, .int .i64 z4, .int .i64 z5, .bool zi, .bool zs] 25))
            have nHA4 := Lib.hid (HA4.out.alloc (.cells #[.int .i64 z0, .int .i64 z1, .int .i64 z2, .int .i64 z3, .int .i64 z4, .int .i64 z5, .bool zi, .bool zs] 25))
            have nHN := Lib.hid (HN.out.alloc (.cells #[.int .i64 z0, .int .i64 z1, .int .i64 z2, .int .i64 z3, .int .i64 z4, .int .i64 z5, .bool zi, .bool zs] 25))
            have nHB := Lib.hid (bal HB.out (.cells #[.int .i64 z0, .int .i64 z1, .int .i64 z2, .int .i64 z3, .int .i64 z4, .int .i64 z5, .bool zi, .bool zs] 25))
            clear HX HP HQ HA4 HN HB
            have HX := nHX
            have HP := nHP
            have HQ := nHQ
            have HA4 := nHA4
            have HN := nHN
            have HB := nHB
            clear nHX nHP nHQ nHA4 nHN nHB
            generalize w1.alloc (.cells #[.int .i64 z0, .int .i64 z1, .int .i64 z2, .int .i64 z3, .int .i64 z4, .int .i64 z5, .bool zi, .bool zs] 25) = W2 at *
            generalize w1.heap.size = gHT at *
            have HT := Lib.hid bHT
            clear bHT
            have hm3 := wStrange_c (M.plus (fun j => [d0, d1, d2, d3, d4, d5, d6, d7, d8, d9].getD j 0) (fun j => if j = 10 then b0 else b1)) _ _ p t _ HA4.out
            rw [HE3.out] at hm3
            refine hm3.mono ?_
            clear hm3
            rintro e w1 ⟨v, ys, rfl, hb1, hq⟩
            have HQS := Lib.hid hq
            clear hq
            have nHX := Lib.hid (HX.out.below hb1)
            have nHN := Lib.hid (HN.out.below hb1)
            have nHT := Lib.hid (HT.out.below hb1)
            have nHB := Lib.hid (bthen HB.out hb1)
            clear HX HN HT HB hb1
            have HX := nHX
            have HN := nHN
            have HT := nHT
            have HB := nHB
            clear nHX nHN nHT nHB
            by_cases e1 : E = 0
            case neg =>
              have e1z : (E != 0) = true := by simpa using e1
              clear e1
              go_wp2_with (first | (go_at_call 9; (with_reducible refine (wworks_c _).mono ?_); rintro e w1 ⟨rfl, hb1⟩; have nHX := Lib.hid (HX.out.below hb1); have nHB := Lib.hid (bthen HB.out hb1); have zz1 := hb1.size; clear HX HB hb1; have HX := nHX; have HB := nHB; clear nHX nHB))
              go_ret
              exact ⟨rfl, HB.out⟩
            by_cases e2 : E2 = 0
            case neg =>
              have e1z : (E != 0) = false := by simpa using e1
              have e2z : (E2 != 0) = true := by simpa using e2
              clear e1 e2
              go_wp2_with (first | (go_at_call 9; (with_reducible refine (wworks_c _).mono ?_); rintro e w1 ⟨rfl, hb1⟩; have nHX := Lib.hid (HX.out.below hb1); have nHB := Lib.hid (bthen HB.out hb1); have zz1 := hb1.size; clear HX HB hb1; have HX := nHX; have HB := nHB; clear nHX nHB))
              go_ret
              exact ⟨rfl, HB.out⟩
            subst e1
            subst e2
            obtain ⟨hi, hp⟩ := HQS.out rfl
            have HPE := Lib.hid hp
            obtain ⟨S, cS2, rfl, s1, s2, -, s4⟩ := hi
            have HL4 := Lib.hid s4
            clear s4 hp HQS
            generalize hL : ys.map castI = L at *
            have HLL := Lib.hid hL
            clear hL
            go_wp2_with (fail)
            have zs2 : L.length ≤ 9223372036854775807 := by omega
            have K0 := Lib.hid (show Below w.heap.size w w1 ∧ Blk w1 w.heap.size 29 #[.int .i64 M.places, .int .i64 M.any.a0, .int .i64 M.any.a1, .int .i64 M.any.a2, .int .i64 M.any.a3, .int .i64 M.any.a4, .int .i64 M.any.a5, .bool M.any.i, .bool M.any.s, .int .i64 M.mw, .int .i64 M.ms, .int .i64 M.mc, .slice A M.n cF, .slice A2 M.m cS] ∧ Blk w1 g10 25 #[.int .i64 y0, .int .i64 y1, .int .i64 y2, .int .i64 y3, .int .i64 y4, .int .i64 y5, .bool yi, .bool yt] ∧ Blk w1 gHT 25 #[.int .i64 z0, .int .i64 z1, .int .i64 z2, .int .i64 z3, .int .i64 z4, .int .i64 z5, .bool zi, .bool zs] ∧ CellsAt w1 S L.length (fun k => .int .i64 (nth L k)) from ⟨HB.out, HX.out, HN.out, HT.out, HL4.out⟩)
            clear HB HX HN HT HL4
            go_loopg [16] L.length (fun gx i wr => ∃ k : Nat, i = .int .i64 k ∧ k ≤ L.length ∧ L.length - k ≤ gx ∧ Hid (Below w.heap.size w wr ∧ Blk wr w.heap.size 29 #[.int .i64 M.places, .int .i64 M.any.a0, .int .i64 M.any.a1, .int .i64 M.any.a2, .int .i64 M.any.a3, .int .i64 M.any.a4, .int .i64 M.any.a5, .bool M.any.i, .bool M.any.s, .int .i64 M.mw, .int .i64 M.ms, .int .i64 M.mc, .slice A M.n cF, .slice A2 M.m cS] ∧ Blk wr g10 25 #[.int .i64 y0, .int .i64 y1, .int .i64 y2, .int .i64 y3, .int .i64 y4, .int .i64 y5, .bool yi, .bool yt] ∧ Blk wr gHT 25 #[.int .i64 z0, .int .i64 z1, .int .i64 z2, .int .i64 z3, .int .i64 z4, .int .i64 z5, .bool zi, .bool zs] ∧ CellsAt wr S L.length (fun k => .int .i64 (nth L k))) ∧ Hid (∀ j, j < k → nth L j ≠ (M.n : Int)))
            case atStart => exact ⟨0, rfl, Nat.zero_le _, Nat.le_refl _, K0, Lib.hid (fun j hj => absurd hj (Nat.not_lt_zero _))⟩
            case round =>
              clear K0
              obtain ⟨k, rfl, hk, hgx, K0, HLJ⟩ := hrel
              have m12 := K0.out.2.1.cell 12
              simp only [List.getElem?_toArray, List.getElem?_cons_succ, List.getElem?_cons_zero] at m12
              by_cases hlt : k < L.length
              · have hltz : (k : Int) < (L.length : Int) := by omega
                obtain ⟨bf, off, rfl, hbf, hcell⟩ := K0.out.2.2.2.2 (by omega)
                have c0 := hcell k hlt
                clear hcell
                by_cases g1 : nth L k = (M.n : Int)
                · have g1z : (nth L k == (M.n : Int)) = true := by simp [g1]
                  clear g1
                  go_wp2_with (fail)
                  go_quiet (fail)
                  go_wp2_with (first | (go_at_call 9; refine (wworks_c _).mono ?_; rintro _ w2 ⟨rfl, hb2⟩))
                  go_ret
                  exact ⟨rfl, bthen K0.out.1 (bthen (bdn (Below.refl _ _) _) hb2)⟩
                · have g1z : (nth L k == (M.n : Int)) = false := by simp [g1]
                  have G1 := Lib.hid g1
                  clear g1
                  go_wp2_with (fail)
                  go_quiet (fail)
                  go_wp2_with (fail)
                  go_roundg (L.length - (k + 1))
                  case measure => omega
                  case rel => exact ⟨k + 1, by first | rfl | go_num | (congr 1; omega), by omega, Nat.le_refl _, Lib.hid ⟨bdn K0.out.1 _, K0.out.2.1, K0.out.2.2.1, K0.out.2.2.2.1, K0.out.2.2.2.2⟩, Lib.hid (fun j hj => by
                    by_cases e : j = k
                    · subst e; exact G1.out
                    · exact HLJ.out j (by omega))⟩
              · obtain rfl : k = L.length := by omega
                have hpt := fun w1 => lpart_c ⟨z0, z1, z2, z3, z4, z5, zi, zs⟩ ⟨y0, y1, y2, y3, y4, y5, yi, yt⟩ w1
                have hno : M.n ∉ (M.plus (fun j => [d0, d1, d2, d3, d4, d5, d6, d7, d8, d9].getD j 0) (fun j => if j = 10 then b0 else b1)).odd p t := fun hm => by
                  have h1 : M.n ∈ ys := HPE.out.mem_iff.2 hm
                  have h2 : castI M.n ∈ L := by rw [← HLL.out]; exact List.mem_map_of_mem h1
                  obtain ⟨j, hj, e⟩ := nth_of_mem h2
                  exact HLJ.out j hj e
                have hcl := cuts_law (M := M) (d := fun j => [d0, d1, d2, d3, d4, d5, d6, d7, d8, d9].getD j 0) (b := fun j => if j = 10 then b0 else b1) (p := p) (t := t) HD2.out HE2.out HE1.out HE3.out hno
                rw [HZ.out, HY.out] at hcl
                rw [hcl] at hpt
                dsimp only [Sk.cells] at hpt
                have HPT := Lib.hid hpt
                clear hpt hno hcl
                go_wp2_with (first | (refine wpl_row rfl 25 (.tmp 12) rfl _ rfl #[.int .i64 z0, .int .i64 z1, .int .i64 z2, .int .i64 z3, .int .i64 z4, .int .i64 z5, .bool zi, .bool zs] 8 K0.out.2.2.2.1 Try.rowSky rfl ?_; simp only [Act.put]) | (refine wpl_row rfl 25 (.tmp 10) rfl _ rfl #[.int .i64 y0, .int .i64 y1, .int .i64 y2, .int .i64 y3, .int .i64 y4, .int .i64 y5, .bool yi, .bool yt] 8 K0.out.2.2.1 Try.rowSky rfl ?_; simp only [Act.put]) | (go_at_call 19; refine (HPT.out _).mono ?_; rintro _ w2 ⟨rfl, hb2⟩) | (go_at_call 9; refine (wworks_c _).mono ?_; rintro _ w3 ⟨rfl, hb3⟩))
                go_ret
                exact ⟨rfl, bthen (bthen K0.out.1 hb2) hb3⟩
-- end
end Go.Proofs.Ytfcjblnebaemgaa
