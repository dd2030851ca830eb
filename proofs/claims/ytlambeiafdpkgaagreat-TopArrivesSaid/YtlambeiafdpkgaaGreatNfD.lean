import Derived.Test.YtlambeiafdpkgaaGreatJAP
set_option linter.all false
namespace Go.Proofs.YtlambeiafdpkgaaGreat
open Go Go.RowKit Go.Proofs
set_option maxRecDepth 100000
set_option maxHeartbeats 8000000
theorem hfr_ownsY {w w' : World} {base : Nat} {e : TypeId} {size : Nat} {v : Value} {n : Nat} {xs : List Value} (h : w.ownsRow base e size v n xs) (hf : ∀ b, some b = v.ownBlock → w'.heap[b]? = w.heap[b]?) : w'.ownsRow base e size v n xs := by
 refine ⟨h.1, ?_⟩
 rcases h.2 with h2 | ⟨g, cap, cur, r1, r2, r3, r4⟩
 ·exact .inl h2
 ·exact .inr ⟨g, cap, cur, r1, r2, (hf g (by rw [r1]; rfl)).trans r3, r4⟩
def OwnTy (w : World) (v : Value) (t : TypeId) : Prop := ∀ b, some b = v.ownBlock → ∃ cs, w.heap[b]? = some (.cells cs t (0, 0))
theorem OwnTy.of_owns {w : World} {base : Nat} {e : TypeId} {size : Nat} {v : Value} {n : Nat} {xs : List Value} (h : w.ownsRow base e size v n xs) : OwnTy w v e := by
 intro b hb
 rcases h.2 with ⟨rfl, -⟩ | ⟨g, cap, cur, rfl, -, h3, -⟩
 ·cases hb
 ·obtain rfl : b = g := by simpa [Value.ownBlock] using hb
  exact ⟨_, h3⟩
theorem OwnTy.below {w w' : World} {v : Value} {t : TypeId} (h : OwnTy w v t) (hb : RowKit.Below w.heap.size w w') : OwnTy w' v t := by
 intro b e
 obtain ⟨cs, hc⟩ := h b e
 exact ⟨cs, (hb.block b (Array.getElem?_eq_some_iff.1 hc).1).trans hc⟩
theorem OwnTy.frame {w w' : World} {v : Value} {t : TypeId} (h : OwnTy w v t) (hf : ∀ b, some b = v.ownBlock → w'.heap[b]? = w.heap[b]?) : OwnTy w' v t := by
 intro b e
 obtain ⟨cs, hc⟩ := h b e
 exact ⟨cs, (hf b e).trans hc⟩
theorem MetAt.row {w : World} {vF vS : Value} {M : MetD} (h : MetAt w vF vS M) (h1 : OwnTy w vF 186) (h2 : OwnTy w vS 188) {g : Nat} {cs us : Array Value} (hg : Blk w g 34 cs) : MetAt (w.setRow g us) vF vS M := by
 have ne : ∀ {v : Value} {t : TypeId}, OwnTy w v t → t ≠ 34 → ∀ b, some b = v.ownBlock → b ≠ g := fun {v t} ho ht b hb e => by
  subst e
  obtain ⟨cs', hc⟩ := ho b hb
  have hg' : w.heap[b]? = some (.cells cs 34 (0, 0)) := hg
  rw [hg'] at hc
  simp only [Option.some.injEq, Obj.cells.injEq] at hc
  exact ht hc.2.1.symm
 obtain ⟨⟨A, c, rfl, q1, q2, q3⟩, ⟨A', c', rfl, k1, k2, k3⟩⟩ := h
 exact ⟨⟨A, c, rfl, q1, q2, q3.frame (by simp [World.setRow]) (fun _ b off e => setRow_other w g b us (ne h1 (by decide) b (by rw [e]; rfl)))⟩, ⟨A', c', rfl, k1, k2, k3.frame (by simp [World.setRow]) (fun _ b off e => setRow_other w g b us (ne h2 (by decide) b (by rw [e]; rfl)))⟩⟩
theorem RecsAt.row {w : World} {A : Option Addr} {n k c : Nat} {V : Nat → Nat → Value} (h : RecsAt w A n k V) {t : TypeId} (h1 : OwnTy w (.slice A n c) t) (ht : t ≠ 34) {g : Nat} {cs us : Array Value} (hg : Blk w g 34 cs) : RecsAt (w.setRow g us) A n k V :=
 h.frame (by simp [World.setRow]) (fun _ b off e => setRow_other w g b us (fun e2 => by
  subst e2
  obtain ⟨cs', hc⟩ := h1 b (by rw [e]; rfl)
  have hg' : w.heap[b]? = some (.cells cs 34 (0, 0)) := hg
  rw [hg'] at hc
  simp only [Option.some.injEq, Obj.cells.injEq] at hc
  exact ht hc.2.1.symm))
theorem wpl_cpY {ty sl : TypeId} {k : Nat} {V : Nat → Nat → Value} {ops : Array Oper} {rest : List Oper} {o : Oper} {a : Act} {w : World} {Q : Exit → Act → World → Prop} (hgd : o.guard = none) (s x : Operand)
  (hu : Tryz.prog.underlying sl = some (.slice ty)) (hi : (Tryz.prog.info? ty).map (fun i => (i.zero.map (·.cells.size), i.size, decide (i.bytes ≤ 200))) = some (some k, k, true)) (hk : 0 < k) (h1 : ∀ i j, (V i j).oneCell' = true)
  (ho : o.op = .call { callee := .builtin .append, args := #[s, x], argTypes := #[sl, sl] }) (g : Nat) (hs : a.eval s = .slice (some ⟨g, 0, none⟩) 0 0) (hgb : w.heap[g]? = some (.cells #[] ty (0, 0)))
  (A : Option Addr) (n c : Nat) (hx : a.eval x = .slice A n c) (hr : RecsAt w A n k V) (hn : n ≤ 50)
  (h : ∀ v' w', Hid (∃ A' c', v' = .slice A' n c' ∧ n ≤ c' ∧ c' ≤ 9223372036854775807 ∧ RecsAt w' A' n k V ∧ (∀ b, some b = v'.ownBlock → g ≤ b) ∧ w'.ownsRow g ty k v' n ((List.range (n * k)).map fun q => V (q / k) (q % k))) → Hid (Below w.heap.size w w') → wpList Tryz.prog ops Q rest (a.put o.dst v') w') : wpList Tryz.prog ops Q (o :: rest) a w := by
 cases hI : Tryz.prog.info? ty with
 | none => rw [hI] at hi; cases hi
 | some i =>
  rw [hI] at hi
  simp only [Option.map_some, Option.some.injEq, Prod.mk.injEq, decide_eq_true_eq] at hi
  obtain ⟨i1, i2, i3⟩ := hi
  cases hz : i.zero with
  | none => rw [hz] at i1; cases i1
  | some z =>
   rw [hz] at i1
   simp only [Option.map_some, Option.some.injEq] at i1
   have hb : n * i.bytes ≤ 50 * 200 := Nat.mul_le_mul hn i3
   refine wpl_append_newk hgd s x sl ho ty i z k i.bytes hu hI hz i2 rfl i1 hk g hs hgb g (Nat.le_refl _) A n c hx _ hr.cells (fun q _ => h1 _ _) (by unfold maxLen; omega) (by omega) (fun v' w' ho' hbl => ?_)
   obtain ⟨A', c', e, q1, q2, q3⟩ := RecsAt.of_owns (V := V) hk ho'
   exact h v' w' ⟨A', c', e, q1, q2, q3, fun b hb => owns_base ho' hb, ho'⟩ hbl
theorem wCopyY_c (M : MetD) (vF vS : Value) (w : World) (hA : MetAt w vF vS M) (hn : M.far = false) :
  Calls Tryz.prog 16 #[.agg #[.int .i64 M.places, .int .i64 M.any.a0, .int .i64 M.any.a1, .int .i64 M.any.a2, .int .i64 M.any.a3, .int .i64 M.any.a4, .int .i64 M.any.a5, .bool M.any.i, .bool M.any.s, .int .i64 M.mw, .int .i64 M.ms, .int .i64 M.mc, vF, vS]] w fun e w' => ∃ vF' vS', e = .returned (.agg #[.int .i64 M.places, .int .i64 M.any.a0, .int .i64 M.any.a1, .int .i64 M.any.a2, .int .i64 M.any.a3, .int .i64 M.any.a4, .int .i64 M.any.a5, .bool M.any.i, .bool M.any.s, .int .i64 M.mw, .int .i64 M.ms, .int .i64 M.mc, vF', vS']) ∧ Below w.heap.size w w' ∧ MetAt w' vF' vS' M ∧ OwnTy w' vF' 186 ∧ OwnTy w' vS' 188 := by
 unfold MetD.far at hn
 simp only [Bool.or_eq_false_iff, decide_eq_false_iff_not] at hn
 have hn1 : M.n ≤ 50 := by omega
 have hn2 : M.m ≤ 50 := by omega
 have HA := hI9 hA
 obtain ⟨⟨A, cF, rfl, hF1, hF2, hrF⟩, ⟨A2, cS, rfl, hS1, hS2, hrS⟩⟩ := hA
 have HF := hI9 hrF
 have HS := hI9 hrS
 clear hn hrF hrS
 go_enter Tryz.func16, Tryz.ntmps16
 go_wp2_with (first | (at_builtin; refine wpl_cpY rfl _ _ Tryz.fcU Tryz.fcI (by omega) (fcV_one M.D M.B) rfl _ rfl (Blk.newA _ _ _ (by simp)) A M.n cF rfl (HF.out.below (by repeat' (first | exact Below.refl _ _ | assumption | refine Below.drew ?_ | refine bdn ?_ _ | refine bal ?_ _ | refine Below.setCell ?_ (by first | (simp; done) | omega | (simp; omega)) _))) hn1 ?_))
 intro v1 w1 hq hbh
 have hb1 := hbh.out
 obtain ⟨A3, c3, rfl, q1, q2, q3, q4, q5⟩ := hq.out
 clear hbh hq
 have HX := hI9 (Blk.under ((((Blk.newA (g := w.heap.size) w 34 #[.int .i64 M.places, .int .i64 M.any.a0, .int .i64 M.any.a1, .int .i64 M.any.a2, .int .i64 M.any.a3, .int .i64 M.any.a4, .int .i64 M.any.a5, .bool M.any.i, .bool M.any.s, .int .i64 M.mw, .int .i64 M.ms, .int .i64 M.mc, .slice A M.n cF, .slice A2 M.m cS] rfl).alloc _).alloc _).alloc _) hb1 (by omega))
 have HR := hI9 (Blk.under (((Blk.newA (g := w.heap.size + 1) (w.alloc _) 34 #[.int .i64 0, .int .i64 0, .int .i64 0, .int .i64 0, .int .i64 0, .int .i64 0, .int .i64 0, .bool false, .bool false, .int .i64 0, .int .i64 0, .int .i64 0, .slice none 0 0, .slice none 0 0] (by simp)).alloc _).alloc _) hb1 (by omega))
 have HO := hI9 (Blk.under ((Blk.newA (g := w.heap.size + 1 + 1) ((w.alloc _).alloc _) 34 #[.int .i64 M.places, .int .i64 M.any.a0, .int .i64 M.any.a1, .int .i64 M.any.a2, .int .i64 M.any.a3, .int .i64 M.any.a4, .int .i64 M.any.a5, .bool M.any.i, .bool M.any.s, .int .i64 M.mw, .int .i64 M.ms, .int .i64 M.mc, .slice A M.n cF, .slice A2 M.m cS] (by simp)).alloc _) hb1 (by omega))
 have HB := hI9 ((show Below w.heap.size w _ from (by repeat' (first | exact Below.refl _ _ | assumption | refine Below.drew ?_ | refine bdn ?_ _ | refine bal ?_ _ | refine Below.setCell ?_ (by first | (simp; done) | omega | (simp; omega)) _))).trans (hb1.mono (by omega)))
 have hz1 : w.heap.size + 1 + 1 + 1 + 1 ≤ w1.heap.size := by have := hb1.size; simpa using this
 have Q3 := hI9 q3
 have Q5 := hI9 q5
 have Q6 := hI9 (fun b hb => owns_lt q5 (b := b) hb)
 clear q3 hb1 q5
 have x13 := HX.out.cell 13
 have o12 := HO.out.cell 12
 have f12 := HO.out.frozen 12
 simp only [gtA, gtS, gtZ] at x13 o12
 have hz2 : w.heap.size < w1.heap.size := by omega
 have hz3 : w.heap.size + 1 < w1.heap.size := by omega
 have hz4 : w.heap.size + 1 + 1 < w1.heap.size := by omega
 have HS1 := hI9 (HS.out.below HB.out)
 have Q4 := hI9 q4
 have HZ := hI9 hz1
 clear q4 hz1
 have W1 := hI9 (RecsAt.frame (w' := w1.setCell ⟨w.heap.size + 1 + 1, 12, none⟩ (.slice A3 M.n c3)) Q3.out (by simp [World.setCell]) (fun _ b off e => Below.heap_setCell _ _ _ _ (by have := Q4.out b (by rw [e]; rfl); show b ≠ w.heap.size + 1 + 1; omega)))
 have HS2 := hI9 (RecsAt.frame (w' := w1.setCell ⟨w.heap.size + 1 + 1, 12, none⟩ (.slice A3 M.n c3)) HS1.out (by simp [World.setCell]) (fun h0 b off e => Below.heap_setCell _ _ _ _ (by
  obtain ⟨b', off', e', hlt, -⟩ := HS.out h0
  rw [e] at e'
  simp only [Option.some.injEq, Addr.mk.injEq] at e'
  show b ≠ w.heap.size + 1 + 1
  omega)))
 go_wp2_with (first | (at_builtin; refine wpl_cpY rfl _ _ Tryz.siU Tryz.siI (by omega) (siV_one M.E M.C) rfl _ rfl (Blk.newA _ _ _ (by simp [World.setCell])) A2 M.m cS rfl (HS2.out.below (bal (Below.refl _ _) _)) hn2 ?_))
 intro v2 w2 hq2 hbh2
 have hb2 := hbh2.out
 obtain ⟨A5, c5, rfl, p1, p2, p3, p4, p5⟩ := hq2.out
 have P5 := hI9 (OwnTy.of_owns p5)
 clear p5
 clear hbh2 hq2 x13 o12 f12 HX HS HS1 HS2 HF
 have hsz : (w1.setCell ⟨w.heap.size + 1 + 1, 12, none⟩ (.slice A3 M.n c3)).heap.size = w1.heap.size := by simp [World.setCell]
 have HO2 := hI9 (((HO.out.set_ 12 (.slice A3 M.n c3)).alloc (.cells #[] 188)).under hb2 (by simp [World.setCell] at *; omega))
 have HR2 := hI9 (((HR.out.far' (f := w.heap.size + 1 + 1) (by omega) (i := 12) (.slice A3 M.n c3)).alloc (.cells #[] 188)).under hb2 (by simp [World.setCell] at *; omega))
 have HB2 := hI9 ((bal (bset HB.out (g := w.heap.size + 1 + 1) (by omega) (i := 12) (.slice A3 M.n c3)) (.cells #[] 188)).trans (hb2.mono (by simp [World.setCell] at *; omega)))
 have hz5 : w1.heap.size ≤ w2.heap.size := by have := hb2.size; simp [World.setCell] at this; omega
 have R3 := hI9 ((W1.out.below (bal (Below.refl _ _) (.cells #[] 188))).below (hb2.mono (by simp [World.setCell])))
 have P3 := hI9 p3
 have P4 := hI9 (show ∀ b, some b = (Value.slice A5 M.m c5).ownBlock → w1.heap.size ≤ b from p4)
 have o13 := HO2.out.cell 13
 have f13 := HO2.out.frozen 13
 have HO3 := hI9 (show Blk (w2.setCell ⟨w.heap.size + 1 + 1, 13, none⟩ (.slice A5 M.m c5)) (w.heap.size + 1 + 1) 34 #[.int .i64 M.places, .int .i64 M.any.a0, .int .i64 M.any.a1, .int .i64 M.any.a2, .int .i64 M.any.a3, .int .i64 M.any.a4, .int .i64 M.any.a5, .bool M.any.i, .bool M.any.s, .int .i64 M.mw, .int .i64 M.ms, .int .i64 M.mc, .slice A3 M.n c3, .slice A5 M.m c5] from HO2.out.set_ 13 (.slice A5 M.m c5))
 have HR3 := hI9 (HR2.out.far' (f := w.heap.size + 1 + 1) (by omega) (i := 13) (.slice A5 M.m c5))
 simp only [List.setIfInBounds_toArray, List.set_cons_succ, List.set_cons_zero, gtA, gtS, gtZ] at o13
 have HF2 := hI9 (show ∀ b, b < w1.heap.size → w.heap.size + 1 + 1 + 1 ≤ b → w2.heap[b]? = w1.heap[b]? from fun b h1 h2 => (hb2.block b (by first | omega | (simp [World.setCell]; omega))).trans ((Below.heap_alloc _ _ b (by first | omega | (simp [World.setCell]; omega))).trans (Below.heap_setCell _ _ _ _ (by show b ≠ w.heap.size + 1 + 1; omega))))
 clear hb2 p3 p4 W1 HO HR HB HO2 HR2 hsz Q3
 go_wp2_with (first | (refine wpl_row rfl 34 _ rfl _ rfl _ 14 HO3.out Tryz.rowMet rfl ?_; simp only [Act.put]) | (refine wpList_store_row rfl 34 _ _ rfl (w.heap.size + 1) #[.int .i64 M.places, .int .i64 M.any.a0, .int .i64 M.any.a1, .int .i64 M.any.a2, .int .i64 M.any.a3, .int .i64 M.any.a4, .int .i64 M.any.a5, .bool M.any.i, .bool M.any.s, .int .i64 M.mw, .int .i64 M.ms, .int .i64 M.mc, .slice A3 M.n c3, .slice A5 M.m c5] rfl rfl 34 #[.int .i64 0, .int .i64 0, .int .i64 0, .int .i64 0, .int .i64 0, .int .i64 0, .int .i64 0, .bool false, .bool false, .int .i64 0, .int .i64 0, .int .i64 0, .slice none 0 0, .slice none 0 0] HR3.out Tryz.sizeMet rfl (oneM M A3 A5 M.n c3 M.m c5) ?_; simp only [Act.put]))
 have fr : ∀ b, w.heap.size + 1 + 1 + 1 ≤ b → ((w2.setCell ⟨w.heap.size + 1 + 1, 13, none⟩ (.slice A5 M.m c5)).setRow (w.heap.size + 1) #[.int .i64 M.places, .int .i64 M.any.a0, .int .i64 M.any.a1, .int .i64 M.any.a2, .int .i64 M.any.a3, .int .i64 M.any.a4, .int .i64 M.any.a5, .bool M.any.i, .bool M.any.s, .int .i64 M.mw, .int .i64 M.ms, .int .i64 M.mc, .slice A3 M.n c3, .slice A5 M.m c5]).heap[b]? = w2.heap[b]? := fun b hb => by
  rw [setRow_other _ _ _ _ (by omega)]
  exact Below.heap_setCell _ _ _ _ (by show b ≠ w.heap.size + 1 + 1; omega)
 have hF := hfr_ownsY Q5.out (w' := (w2.setCell ⟨w.heap.size + 1 + 1, 13, none⟩ (.slice A5 M.m c5)).setRow (w.heap.size + 1) #[.int .i64 M.places, .int .i64 M.any.a0, .int .i64 M.any.a1, .int .i64 M.any.a2, .int .i64 M.any.a3, .int .i64 M.any.a4, .int .i64 M.any.a5, .bool M.any.i, .bool M.any.s, .int .i64 M.mw, .int .i64 M.ms, .int .i64 M.mc, .slice A3 M.n c3, .slice A5 M.m c5]) (fun b hb => by
  have h1 := Q4.out b hb
  have h2 := Q6.out b hb
  rw [fr b (by omega)]
  exact HF2.out b h2 h1)
 refine bodyPost_ret (res_c rfl _ _ _ 14 rfl (setRow_heap _ _ _ _ _ _ HR3.out) Tryz.rowMet rfl) rfl ⟨_, _, rfl, rowBelow (bset HB2.out (by omega) _) (by omega) _, ⟨⟨A3, c3, rfl, q1, q2, ?_⟩, ⟨A5, c5, rfl, p1, p2, ?_⟩⟩, OwnTy.of_owns hF, P5.out.frame (fun b hb => fr b (by have := P4.out b hb; omega))⟩
 ·exact R3.out.frame (by simp [World.setRow, World.setCell]) (fun _ b off e => fr b (by have := Q4.out b (by rw [e]; rfl); omega))
 ·exact P3.out.frame (by simp [World.setRow, World.setCell]) (fun _ b off e => fr b (by have := P4.out b (by rw [e]; rfl); omega))
end Go.Proofs.YtlambeiafdpkgaaGreat
