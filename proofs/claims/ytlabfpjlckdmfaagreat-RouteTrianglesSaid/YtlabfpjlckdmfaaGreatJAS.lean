/- Texts joined: JAS. -/
import Derived.Great.CaseRows
import Derived.Deep.WholeRow
import Derived.Test.YtlabfpjlckdmfaaGreatNbC
set_option linter.all false
namespace Go.Proofs.YtlabfpjlckdmfaaGreat
open Go Go.RowKit Go.Proofs
set_option maxRecDepth 100000
set_option maxHeartbeats 8000000
theorem wpl_recr {P : Program} {ops : Array Oper} {rest : List Oper} {o : Oper} {a : Act} {w : World} {Q : Exit → Act → World → Prop} (hg : o.guard = none) (t e : TypeId) (len : Nat) (parts : Array (Nat × Operand)) (s : Nat) (vs : List Value) (V : Nat → Nat → Value)
  (ho : o.op = .buildSlice t len parts) (hu : P.underlying t = some (.slice e)) (hsz : (P.info? e).map (·.size) = some s) (hz : ((P.info? e).bind (·.zero)).isSome = true)
  (hlen : len = vs.length) (hs : 0 < s) (hpos : 0 < len) (hsmall : len * s ≤ 2 ^ 24) (h1 : ∀ v ∈ vs, v.cells.size = s)
  (hparts : (parts.toList.map fun (i, x) => (i, a.eval x)) = (vs.zipIdx 0).map fun x => (x.2, x.1))
  (hV : (vs.flatMap fun v => v.cells.toList) = (List.range (len * s)).map fun q => V (q / s) (q % s))
  (h : ∀ g w', Below w.heap.size w w' → w.heap.size ≤ g → RecsAt w' (some ⟨g, 0, none⟩) len s V → wpList P ops Q rest (a.put o.dst (.slice (some ⟨g, 0, none⟩) len len)) w') : wpList P ops Q (o :: rest) a w := by
 cases hie : P.info? e with
 | none => simp [hie] at hsz
 | some ie =>
  simp only [hie, Option.map_some, Option.some.injEq, Option.bind_some] at hsz hz
  obtain ⟨z, hzz⟩ := Option.isSome_iff_exists.1 hz
  have hp := Nat.mul_pos hpos hs
  refine wpList_buildSlice hg t e len parts ho (vs.flatMap fun v => v.cells.toList).toArray ie z hu hie hzz (by rw [hsz]; omega) (by rw [hsz]; omega) ?_ ?_
  ·rw [Array.toList_map, hparts, hsz]
   exact Great.fill_whole hs vs _ h1 (by simp [hlen])
  ·refine h w.heap.size _ (bal (Below.refl _ _) _) (Nat.le_refl _) ?_
   rw [hV]
   intro _
   refine ⟨w.heap.size, 0, rfl, by simp, fun i hi j hj => ?_⟩
   have hlt : i * s + j < len * s := by
    have : (i + 1) * s ≤ len * s := Nat.mul_le_mul_right s hi
    rw [Nat.add_mul] at this; omega
   rw [Nat.zero_add, cell_of_row _ w.heap.size (i * s + j) _ e (0, 0) (World.alloc_heap_new w _)]
   simp only [List.getElem?_toArray, List.getElem?_map, List.getElem?_range hlt, Option.map_some]
   rw [Nat.mul_comm i s, Nat.mul_add_div hs, Nat.mul_add_mod, Nat.div_eq_of_lt hj, Nat.mod_eq_of_lt hj, Nat.add_zero]
theorem wpl_buildr {P : Program} {ops : Array Oper} {rest : List Oper} {o : Oper} {a : Act} {w : World} {Q : Exit → Act → World → Prop} (hg : o.guard = none) (t : TypeId) (parts : Array (Nat × Operand)) (ho : o.op = .build t parts)
  (cs : Array Value) (hf : P.built t (parts.toList.map fun (i, x) => (i, a.eval x)) = some cs)
  (h : wpList P ops Q rest (a.put o.dst (.agg cs)) w) : wpList P ops Q (o :: rest) a w :=
 wpList_build hg t parts ho (by rw [Array.toList_map, hf]; rfl) (by rw [Array.toList_map, hf]; exact h)
theorem wpl_store_newR {P : Program} {ops : Array Oper} {rest : List Oper} {o : Oper} {a : Act} {w : World} {Q : Exit → Act → World → Prop} (hgd : o.guard = none) (ty : TypeId) (x y : Operand) (ho : o.op = .store ty x y)
  (cells old : Array Value) (g : Nat) (hx : a.eval x = .pointer (some ⟨g, 0, none⟩)) (hg : g = w.heap.size) (hy : a.eval y = .agg cells) (hi : (P.info? ty).map (·.size) = some cells.size)
  (hold : old.size = cells.size) (h1 : cells.all (·.oneCell') = true)
  (h : wpList P ops Q rest (a.put o.dst undef) (w.alloc (.cells cells ty))) : wpList P ops Q (o :: rest) a (w.alloc (.cells old ty)) := by
 subst hg
 refine wpList_store_row hgd ty x y ho w.heap.size cells hx hy ty old (World.alloc_heap_new w _) hi hold h1 ?_
 rw [World.setRow_alloc_new]; exact h
theorem res_cc2r {P : Program} {w : World} {fn : Func} {p q : Tmp} {ty ty' : TypeId} (h : fn.results = #[.cell p ty, .cell q ty']) (tmps : Array Value) (g g' : Nat) (cs cs' : Array Value) (n n' : Nat) (hp : tmps.getD p undef = .pointer (some ⟨g, 0, none⟩)) (hq : tmps.getD q undef = .pointer (some ⟨g', 0, none⟩))
  (hB : w.heap[g]? = some (.cells cs ty (0, 0))) (hr : RowTy P ty n) (hn : cs.size = n) (hB' : w.heap[g']? = some (.cells cs' ty' (0, 0))) (hr' : RowTy P ty' n') (hn' : cs'.size = n') : (results fn tmps).run P w = .ok (.tuple #[.agg cs, .agg cs']) w := by
 have hp' : tmps[p]?.getD undef = .pointer (some ⟨g, 0, none⟩) := by simpa using hp
 have hq' : tmps[q]?.getD undef = .pointer (some ⟨g', 0, none⟩) := by simpa using hq
 simp [results, h, hp', hq', asAddr, run_row hB hr hn, run_row hB' hr' hn']
theorem Tryz.fcSr : (Tryz.prog.info? 98).map (·.size) = some 12 := by kernel_rfl
theorem Tryz.fcZr : ((Tryz.prog.info? 98).bind (·.zero)).isSome = true := by kernel_rfl
end Go.Proofs.YtlabfpjlckdmfaaGreat

namespace Go.Proofs.YtlabfpjlckdmfaaGreat
open Go Go.RowKit Go.Proofs
set_option maxRecDepth 100000
set_option maxHeartbeats 8000000
theorem Tryz.rowPlan : RowTy Tryz.prog 34 20 := ⟨by kernel_rfl, by kernel_rfl⟩
theorem Tryz.sizePlan : (Tryz.prog.info? 34).map (·.size) = some 20 := by kernel_rfl
theorem Tryz.sizeFli : (Tryz.prog.info? 37).map (·.size) = some 5 := by kernel_rfl
theorem Tryz.lgU : Tryz.prog.underlying 32 = some (.slice 45) := by kernel_rfl
theorem Tryz.lgS : (Tryz.prog.info? 45).map (·.size) = some 3 := by kernel_rfl
theorem Tryz.lgZ : ((Tryz.prog.info? 45).bind (·.zero)).isSome = true := by kernel_rfl
theorem Tryz.itU : Tryz.prog.underlying 35 = some (.slice 3) := by kernel_rfl
theorem Tryz.itS : (Tryz.prog.info? 3).map (·.size) = some 1 := by kernel_rfl
theorem Tryz.itZ : ((Tryz.prog.info? 3).bind (·.zero)).isSome = true := by kernel_rfl
def rxFs : List Value := [.agg #[.int .i64 2, .int .i64 10, .int .i64 30, .int .i64 0, .int .i64 0, .int .i64 10, .int .i64 1000, .int .i64 2000, .int .i64 1000, .int .i64 3000, .bool false, .bool false], .agg #[.int .i64 0, .int .i64 25, .int .i64 60, .int .i64 0, .int .i64 0, .int .i64 10, .int .i64 1000, .int .i64 2000, .int .i64 1000, .int .i64 3000, .bool false, .bool false]]
def rxLs : List Value := [.agg #[.int .i64 0, .int .i64 1, .int .i64 10], .agg #[.int .i64 1, .int .i64 2, .int .i64 8]]
def rxRs : List Value := [.int .i64 0, .int .i64 1, .int .i64 2]
theorem rxFs_eq : (rxFs.flatMap fun v => v.cells.toList) = (List.range (2 * 12)).map fun q => fcV rxM.D rxM.B (q / 12) (q % 12) := by rfl
theorem rxLs_eq : (rxLs.flatMap fun v => v.cells.toList) = (List.range (2 * 3)).map fun q => nV rxS (q / 3) (q % 3) := by rfl
theorem rxRs_eq : (rxRs.flatMap fun v => v.cells.toList) = (List.range (3 * 1)).map fun q => nL rxF.R (q / 1) (q % 1) := by rfl
theorem rxFs_sz : ∀ v ∈ rxFs, v.cells.size = 12 := by
 intro v hv; simp only [rxFs, List.mem_cons, List.not_mem_nil, or_false] at hv; rcases hv with rfl | rfl <;> rfl
theorem rxLs_sz : ∀ v ∈ rxLs, v.cells.size = 3 := by
 intro v hv; simp only [rxLs, List.mem_cons, List.not_mem_nil, or_false] at hv; rcases hv with rfl | rfl <;> rfl
theorem rxRs_sz : ∀ v ∈ rxRs, v.cells.size = 1 := by
 intro v hv; simp only [rxRs, List.mem_cons, List.not_mem_nil, or_false] at hv; rcases hv with rfl | rfl | rfl <;> rfl
theorem tri_r (w : World) (c1 c2 c3 : Array Value) (T1 T2 T3 : TypeId) : Blk (((w.alloc (.cells c1 T1)).alloc (.cells c2 T2)).alloc (.cells c3 T3)) w.heap.size T1 c1 ∧ Blk (((w.alloc (.cells c1 T1)).alloc (.cells c2 T2)).alloc (.cells c3 T3)) (w.heap.size + 1) T2 c2 ∧
  Blk (((w.alloc (.cells c1 T1)).alloc (.cells c2 T2)).alloc (.cells c3 T3)) (w.heap.size + 1 + 1) T3 c3 ∧ RowKit.Below w.heap.size w (((w.alloc (.cells c1 T1)).alloc (.cells c2 T2)).alloc (.cells c3 T3)) :=
 ⟨((Blk.new w T1 c1).alloc _).alloc _, (Blk.newA (g := w.heap.size + 1) (w.alloc (.cells c1 T1)) T2 c2 (by simp)).alloc _, Blk.newA (g := w.heap.size + 1 + 1) _ T3 c3 (by simp), bal (bal (bal (RowKit.Below.refl _ _) _) _) _⟩
theorem rExample_c (w : World) :
  Calls Tryz.prog 21 #[] w fun e w' => ∃ vF vS A c vR, e = .returned (.tuple #[.agg #[.int .i64 3, .int .i64 0, .int .i64 10, .int .i64 5000, .int .i64 9000, .int .i64 1000, .int .i64 3000, .bool false, .bool false, .int .i64 0, .int .i64 0, .int .i64 0, vF, vS, .int .i64 20, .int .i64 3000, .int .i64 500, .bool false, .bool false, .slice A 2 c], .agg #[vR, .int .i64 0, .int .i64 100, .int .i64 2, .int .i64 20]]) ∧ RowKit.Below w.heap.size w w' ∧ MetAt w' vF vS rxM ∧ 2 ≤ c ∧ c ≤ 9223372036854775807 ∧ RecsAt w' A 2 3 (nV rxS) ∧ SlI w' vR 3 rxF.R := by
 have tok1 : True := trivial
 go_enter Tryz.func21, Tryz.ntmps21
 go_wp2_with (first | (have _t := tok1; refine wpl_store_newR rfl 25 (.tmp 2) (.tmp 9) rfl #[.int .i64 0, .int .i64 10, .int .i64 5000, .int .i64 9000, .int .i64 1000, .int .i64 3000, .bool false, .bool false] _ _ rfl ?_ rfl Tryz.sizeSky rfl (by simp [Value.oneCell']) ?_; (focus (simp; done)); simp only [Act.put]; clear tok1; have _x := tri_r w #[.int .i64 0, .int .i64 0, .int .i64 0, .int .i64 0, .int .i64 0, .int .i64 0, .int .i64 0, .bool false, .bool false, .int .i64 0, .int .i64 0, .int .i64 0, .slice none 0 0, .slice none 0 0, .int .i64 0, .int .i64 0, .int .i64 0, .bool false, .bool false, .slice none 0 0] #[.slice none 0 0, .int .i64 0, .int .i64 0, .int .i64 0, .int .i64 0] #[.int .i64 0, .int .i64 10, .int .i64 5000, .int .i64 9000, .int .i64 1000, .int .i64 3000, .bool false, .bool false] 34 37 25; have HP := hI9 _x.1; have HF := hI9 _x.2.1; have H2 := hI9 _x.2.2.1; have HB := hI9 _x.2.2.2; clear _x; generalize World.alloc (World.alloc (World.alloc w _) _) _ = W1 at *; have tok2 : True := trivial) | (have _t := tok2; refine wpl_row rfl 25 (.tmp 2) rfl _ rfl _ 8 H2.out Tryz.rowSky rfl ?_; simp only [Act.put]; clear tok2; have tok3 : True := trivial) | (have _t := tok3; refine wpl_store_newR rfl 25 (.tmp 3) (.tmp 10) rfl #[.int .i64 0, .int .i64 10, .int .i64 5000, .int .i64 9000, .int .i64 1000, .int .i64 3000, .bool false, .bool false] _ _ rfl ?_ rfl Tryz.sizeSky rfl (by simp [Value.oneCell']) ?_; (focus (simp; done)); simp only [Act.put]; clear tok3; have nP := hI9 (HP.out.alloc (.cells #[.int .i64 0, .int .i64 10, .int .i64 5000, .int .i64 9000, .int .i64 1000, .int .i64 3000, .bool false, .bool false] 25)); have nF := hI9 (HF.out.alloc (.cells #[.int .i64 0, .int .i64 10, .int .i64 5000, .int .i64 9000, .int .i64 1000, .int .i64 3000, .bool false, .bool false] 25)); have n2 := hI9 (H2.out.alloc (.cells #[.int .i64 0, .int .i64 10, .int .i64 5000, .int .i64 9000, .int .i64 1000, .int .i64 3000, .bool false, .bool false] 25)); have n3 := hI9 (Blk.new W1 25 #[.int .i64 0, .int .i64 10, .int .i64 5000, .int .i64 9000, .int .i64 1000, .int .i64 3000, .bool false, .bool false]); have nB := hI9 (bal HB.out (.cells #[.int .i64 0, .int .i64 10, .int .i64 5000, .int .i64 9000, .int .i64 1000, .int .i64 3000, .bool false, .bool false] 25)); have hg3 := H2.out.lt; clear HP HF H2 HB; generalize W1.alloc _ = W2 at *; generalize W1.heap.size = g3 at *; have y2 := n3.out.cell 2; have y3 := n3.out.cell 3; have yf := fun i => n3.out.frozen i; simp only [gtA, gtS, gtZ] at y2 y3; have tok4 : True := trivial) | (have _t := tok4; have HP := hI9 ((nP.out.far' (i := 2) (f := g3) (by omega) (.int .i64 1000)).far' (i := 3) (f := g3) (by omega) (.int .i64 2000)); have HF := hI9 ((nF.out.far' (i := 2) (f := g3) (by omega) (.int .i64 1000)).far' (i := 3) (f := g3) (by omega) (.int .i64 2000)); have H2 := hI9 ((n2.out.far' (i := 2) (f := g3) (by omega) (.int .i64 1000)).far' (i := 3) (f := g3) (by omega) (.int .i64 2000)); have H3 := hI9 (show Blk ((W2.setCell ⟨g3, 2, none⟩ (.int .i64 1000)).setCell ⟨g3, 3, none⟩ (.int .i64 2000)) g3 25 #[.int .i64 0, .int .i64 10, .int .i64 1000, .int .i64 2000, .int .i64 1000, .int .i64 3000, .bool false, .bool false] from (n3.out.set_ 2 (.int .i64 1000)).set_ 3 (.int .i64 2000)); have HB := hI9 (bset (i := 3) (bset (i := 2) nB.out (show w.heap.size ≤ g3 by omega) (.int .i64 1000)) (show w.heap.size ≤ g3 by omega) (.int .i64 2000)); generalize World.setCell (World.setCell W2 _ _) _ _ = W3 at *; refine wpl_row rfl 25 (.tmp 2) rfl _ rfl _ 8 H2.out Tryz.rowSky rfl ?_; simp only [Act.put]; clear tok4 nP nF n2 n3 nB y2 y3 yf; have tok5 : True := trivial; have tok6 : True := trivial; have tok7 : True := trivial) | (have _t := tok5; refine wpl_row rfl 25 (.tmp 3) rfl _ rfl _ 8 H3.out Tryz.rowSky rfl ?_; simp only [Act.put]; clear tok5) | (have _t := tok6; refine wpl_row rfl 25 (.tmp 3) rfl _ rfl _ 8 H3.out Tryz.rowSky rfl ?_; simp only [Act.put]; clear tok6) | (have _t := tok7; refine wpl_recr rfl 26 98 2 _ 12 rxFs (fcV rxM.D rxM.B) rfl Tryz.fcU Tryz.fcSr Tryz.fcZr rfl (by omega) (by omega) (by omega) rxFs_sz (by rfl) rxFs_eq ?_))
 intro g4 w4 hb4 hg4 hr4
 clear tok7
 have HF4 := hI9 (HF.out.below hb4)
 have HP4 := hI9 (HP.out.below hb4)
 have HB4 := hI9 (bthen HB.out hb4)
 have HR4 := hI9 hr4
 have hg4z : w.heap.size + 1 < g4 := by have := H2.out.lt; omega
 have hz4 : w.heap.size + 1 < w4.heap.size := HF4.out.lt
 clear HP HF H2 H3 HB hb4 hr4 hg4
 refine wpl_buildr rfl 29 _ rfl #[.int .i64 3, .int .i64 0, .int .i64 10, .int .i64 5000, .int .i64 9000, .int .i64 1000, .int .i64 3000, .bool false, .bool false, .int .i64 0, .int .i64 0, .int .i64 0, .slice (some ⟨g4, 0, none⟩) 2 2, .slice none 0 0] (by kernel_rfl) ?_
 simp only [Act.put, List.setIfInBounds_toArray, List.set_cons_succ, List.set_cons_zero]
 have tokA : True := trivial
 go_wp2_with (first | (have _t := tokA; refine wpl_store_newR rfl 29 (.tmp 4) (.tmp 19) rfl #[.int .i64 3, .int .i64 0, .int .i64 10, .int .i64 5000, .int .i64 9000, .int .i64 1000, .int .i64 3000, .bool false, .bool false, .int .i64 0, .int .i64 0, .int .i64 0, .slice (some ⟨g4, 0, none⟩) 2 2, .slice none 0 0] _ _ rfl ?_ rfl Tryz.sizeMet rfl (by simp [Value.oneCell']) ?_; (focus (simp; done)); simp only [Act.put]; clear tokA; have HF5 := hI9 (HF4.out.alloc (.cells #[.int .i64 3, .int .i64 0, .int .i64 10, .int .i64 5000, .int .i64 9000, .int .i64 1000, .int .i64 3000, .bool false, .bool false, .int .i64 0, .int .i64 0, .int .i64 0, .slice (some ⟨g4, 0, none⟩) 2 2, .slice none 0 0] 29)); have HP5 := hI9 (HP4.out.alloc (.cells #[.int .i64 3, .int .i64 0, .int .i64 10, .int .i64 5000, .int .i64 9000, .int .i64 1000, .int .i64 3000, .bool false, .bool false, .int .i64 0, .int .i64 0, .int .i64 0, .slice (some ⟨g4, 0, none⟩) 2 2, .slice none 0 0] 29)); have HB5 := hI9 (bal HB4.out (.cells #[.int .i64 3, .int .i64 0, .int .i64 10, .int .i64 5000, .int .i64 9000, .int .i64 1000, .int .i64 3000, .bool false, .bool false, .int .i64 0, .int .i64 0, .int .i64 0, .slice (some ⟨g4, 0, none⟩) 2 2, .slice none 0 0] 29)); have HR5 := hI9 (HR4.out.below (bal (RowKit.Below.refl _ _) (.cells #[.int .i64 3, .int .i64 0, .int .i64 10, .int .i64 5000, .int .i64 9000, .int .i64 1000, .int .i64 3000, .bool false, .bool false, .int .i64 0, .int .i64 0, .int .i64 0, .slice (some ⟨g4, 0, none⟩) 2 2, .slice none 0 0] 29))); have H4 := hI9 (Blk.new w4 29 #[.int .i64 3, .int .i64 0, .int .i64 10, .int .i64 5000, .int .i64 9000, .int .i64 1000, .int .i64 3000, .bool false, .bool false, .int .i64 0, .int .i64 0, .int .i64 0, .slice (some ⟨g4, 0, none⟩) 2 2, .slice none 0 0]); clear HF4 HP4 HB4 HR4; generalize w4.alloc _ = w5 at *; generalize w4.heap.size = gM at *; have tokB : True := trivial) | (have _t := tokB; refine wpl_row rfl 29 (.tmp 4) rfl _ rfl _ 14 H4.out Tryz.rowMet rfl ?_; simp only [Act.put]; clear tokB; have tokC : True := trivial) | (have _t := tokC; refine wpl_recr rfl 32 45 2 _ 3 rxLs (nV rxS) rfl Tryz.lgU Tryz.lgS Tryz.lgZ rfl (by omega) (by omega) (by omega) rxLs_sz (by rfl) rxLs_eq ?_))
 intro g6 w6 hb6 hg6 hr6
 clear tokC
 have HF6 := hI9 (HF5.out.below hb6)
 have HP6 := hI9 (HP5.out.below hb6)
 have HB6 := hI9 (bthen HB5.out hb6)
 have HR6 := hI9 (HR5.out.below hb6)
 have HL6 := hI9 hr6
 have hg6z : w.heap.size + 1 < g6 := by have := HF5.out.lt; omega
 have hz6 : w.heap.size + 1 < w6.heap.size := HF6.out.lt
 clear HF5 HP5 HB5 HR5 H4 hb6 hr6 hg6
 refine wpl_buildr rfl 34 _ rfl #[.int .i64 3, .int .i64 0, .int .i64 10, .int .i64 5000, .int .i64 9000, .int .i64 1000, .int .i64 3000, .bool false, .bool false, .int .i64 0, .int .i64 0, .int .i64 0, .slice (some ⟨g4, 0, none⟩) 2 2, .slice none 0 0, .int .i64 20, .int .i64 3000, .int .i64 500, .bool false, .bool false, .slice (some ⟨g6, 0, none⟩) 2 2] (by kernel_rfl) ?_
 simp only [Act.put, List.setIfInBounds_toArray, List.set_cons_succ, List.set_cons_zero]
 have tokA : True := trivial
 go_wp2_with (first | (have _t := tokA; refine wpl_store_newR rfl 34 (.tmp 5) (.tmp 25) rfl #[.int .i64 3, .int .i64 0, .int .i64 10, .int .i64 5000, .int .i64 9000, .int .i64 1000, .int .i64 3000, .bool false, .bool false, .int .i64 0, .int .i64 0, .int .i64 0, .slice (some ⟨g4, 0, none⟩) 2 2, .slice none 0 0, .int .i64 20, .int .i64 3000, .int .i64 500, .bool false, .bool false, .slice (some ⟨g6, 0, none⟩) 2 2] _ _ rfl ?_ rfl Tryz.sizePlan rfl (by simp [Value.oneCell']) ?_; (focus (simp; done)); simp only [Act.put]; clear tokA; have HF7 := hI9 (HF6.out.alloc (.cells #[.int .i64 3, .int .i64 0, .int .i64 10, .int .i64 5000, .int .i64 9000, .int .i64 1000, .int .i64 3000, .bool false, .bool false, .int .i64 0, .int .i64 0, .int .i64 0, .slice (some ⟨g4, 0, none⟩) 2 2, .slice none 0 0, .int .i64 20, .int .i64 3000, .int .i64 500, .bool false, .bool false, .slice (some ⟨g6, 0, none⟩) 2 2] 34)); have HP7 := hI9 (HP6.out.alloc (.cells #[.int .i64 3, .int .i64 0, .int .i64 10, .int .i64 5000, .int .i64 9000, .int .i64 1000, .int .i64 3000, .bool false, .bool false, .int .i64 0, .int .i64 0, .int .i64 0, .slice (some ⟨g4, 0, none⟩) 2 2, .slice none 0 0, .int .i64 20, .int .i64 3000, .int .i64 500, .bool false, .bool false, .slice (some ⟨g6, 0, none⟩) 2 2] 34)); have HB7 := hI9 (bal HB6.out (.cells #[.int .i64 3, .int .i64 0, .int .i64 10, .int .i64 5000, .int .i64 9000, .int .i64 1000, .int .i64 3000, .bool false, .bool false, .int .i64 0, .int .i64 0, .int .i64 0, .slice (some ⟨g4, 0, none⟩) 2 2, .slice none 0 0, .int .i64 20, .int .i64 3000, .int .i64 500, .bool false, .bool false, .slice (some ⟨g6, 0, none⟩) 2 2] 34)); have HR7 := hI9 (HR6.out.below (bal (RowKit.Below.refl _ _) (.cells #[.int .i64 3, .int .i64 0, .int .i64 10, .int .i64 5000, .int .i64 9000, .int .i64 1000, .int .i64 3000, .bool false, .bool false, .int .i64 0, .int .i64 0, .int .i64 0, .slice (some ⟨g4, 0, none⟩) 2 2, .slice none 0 0, .int .i64 20, .int .i64 3000, .int .i64 500, .bool false, .bool false, .slice (some ⟨g6, 0, none⟩) 2 2] 34))); have HL7 := hI9 (HL6.out.below (bal (RowKit.Below.refl _ _) (.cells #[.int .i64 3, .int .i64 0, .int .i64 10, .int .i64 5000, .int .i64 9000, .int .i64 1000, .int .i64 3000, .bool false, .bool false, .int .i64 0, .int .i64 0, .int .i64 0, .slice (some ⟨g4, 0, none⟩) 2 2, .slice none 0 0, .int .i64 20, .int .i64 3000, .int .i64 500, .bool false, .bool false, .slice (some ⟨g6, 0, none⟩) 2 2] 34))); have H5 := hI9 (Blk.new w6 34 #[.int .i64 3, .int .i64 0, .int .i64 10, .int .i64 5000, .int .i64 9000, .int .i64 1000, .int .i64 3000, .bool false, .bool false, .int .i64 0, .int .i64 0, .int .i64 0, .slice (some ⟨g4, 0, none⟩) 2 2, .slice none 0 0, .int .i64 20, .int .i64 3000, .int .i64 500, .bool false, .bool false, .slice (some ⟨g6, 0, none⟩) 2 2]); clear HF6 HP6 HB6 HR6 HL6; generalize w6.alloc _ = w7 at *; generalize w6.heap.size = gP at *; have tokB : True := trivial) | (have _t := tokB; refine wpl_row rfl 34 (.tmp 5) rfl _ rfl _ 20 H5.out Tryz.rowPlan rfl ?_; simp only [Act.put]; clear tokB; have tokC : True := trivial) | (have _t := tokC; refine wpl_recr rfl 35 3 3 _ 1 rxRs (nL rxF.R) rfl Tryz.itU Tryz.itS Tryz.itZ rfl (by omega) (by omega) (by omega) rxRs_sz (by rfl) rxRs_eq ?_))
 intro g8 w8 hb8 hg8 hr8
 clear tokC
 have HF8 := hI9 (HF7.out.below hb8)
 have HP8 := hI9 (HP7.out.below hb8)
 have HB8 := hI9 (bthen HB7.out hb8)
 have HR8 := hI9 (HR7.out.below hb8)
 have HL8 := hI9 (HL7.out.below hb8)
 have HT8 := hI9 hr8
 have hg8z : w.heap.size + 1 < g8 := by have := HF7.out.lt; omega
 clear HF7 HP7 HB7 HR7 HL7 H5 hb8 hr8 hg8
 refine wpl_buildr rfl 37 _ rfl #[.slice (some ⟨g8, 0, none⟩) 3 3, .int .i64 0, .int .i64 100, .int .i64 2, .int .i64 20] (by kernel_rfl) ?_
 simp only [Act.put, List.setIfInBounds_toArray, List.set_cons_succ, List.set_cons_zero]
 have tokA : True := trivial
 go_wp2_with (first | (have _t := tokA; refine wpList_store_row rfl 34 (.tmp 0) (.tmp 26) rfl w.heap.size #[.int .i64 3, .int .i64 0, .int .i64 10, .int .i64 5000, .int .i64 9000, .int .i64 1000, .int .i64 3000, .bool false, .bool false, .int .i64 0, .int .i64 0, .int .i64 0, .slice (some ⟨g4, 0, none⟩) 2 2, .slice none 0 0, .int .i64 20, .int .i64 3000, .int .i64 500, .bool false, .bool false, .slice (some ⟨g6, 0, none⟩) 2 2] rfl rfl 34 #[.int .i64 0, .int .i64 0, .int .i64 0, .int .i64 0, .int .i64 0, .int .i64 0, .int .i64 0, .bool false, .bool false, .int .i64 0, .int .i64 0, .int .i64 0, .slice none 0 0, .slice none 0 0, .int .i64 0, .int .i64 0, .int .i64 0, .bool false, .bool false, .slice none 0 0] HP8.out Tryz.sizePlan rfl (by simp [Value.oneCell']) ?_; simp only [Act.put]; clear tokA; have tokB : True := trivial; have HF9 := hI9 ((setRow_other w8 w.heap.size (w.heap.size + 1) #[.int .i64 3, .int .i64 0, .int .i64 10, .int .i64 5000, .int .i64 9000, .int .i64 1000, .int .i64 3000, .bool false, .bool false, .int .i64 0, .int .i64 0, .int .i64 0, .slice (some ⟨g4, 0, none⟩) 2 2, .slice none 0 0, .int .i64 20, .int .i64 3000, .int .i64 500, .bool false, .bool false, .slice (some ⟨g6, 0, none⟩) 2 2] (by omega)).trans HF8.out)) | (have _t := tokB; refine wpList_store_row rfl 37 (.tmp 1) (.tmp 28) rfl (w.heap.size + 1) #[.slice (some ⟨g8, 0, none⟩) 3 3, .int .i64 0, .int .i64 100, .int .i64 2, .int .i64 20] rfl rfl 37 #[.slice none 0 0, .int .i64 0, .int .i64 0, .int .i64 0, .int .i64 0] HF9.out Tryz.sizeFli rfl (by simp [Value.oneCell']) ?_; simp only [Act.put]; clear tokB))
 have hm : MetAt w8 (.slice (some ⟨g4, 0, none⟩) 2 2) (.slice none 0 0) rxM := ⟨⟨_, 2, rfl, Nat.le_refl _, by omega, HR8.out⟩, ⟨none, 0, rfl, Nat.le_refl _, by omega, fun h => absurd h (Nat.lt_irrefl _)⟩⟩
 exact bodyPost_ret (res_cc2r rfl _ _ _ #[.int .i64 3, .int .i64 0, .int .i64 10, .int .i64 5000, .int .i64 9000, .int .i64 1000, .int .i64 3000, .bool false, .bool false, .int .i64 0, .int .i64 0, .int .i64 0, .slice (some ⟨g4, 0, none⟩) 2 2, .slice none 0 0, .int .i64 20, .int .i64 3000, .int .i64 500, .bool false, .bool false, .slice (some ⟨g6, 0, none⟩) 2 2] #[.slice (some ⟨g8, 0, none⟩) 3 3, .int .i64 0, .int .i64 100, .int .i64 2, .int .i64 20] 20 5 rfl rfl ((setRow_other _ _ _ _ (by omega)).trans (setRow_heap _ _ _ _ _ _ HP8.out)) Tryz.rowPlan rfl (setRow_heap _ _ _ _ _ _ HF9.out) Tryz.rowFli rfl) rfl
  ⟨_, _, _, _, _, rfl, below_row (below_row HB8.out (by omega) _) (by omega) _, (hm.setRow (fun b hb => by cases hb; dsimp only; omega) (fun b hb => by cases hb) _).setRow (fun b hb => by cases hb; dsimp only; omega) (fun b hb => by cases hb) _, by omega, by omega,
   RecsAt.frame HL8.out (by simp) (fun _ b off e => by cases e; exact (setRow_other _ _ _ _ (by omega)).trans (setRow_other _ _ _ _ (by omega))), _, 3, rfl, Nat.le_refl _, by omega, RecsAt.frame HT8.out (by simp) (fun _ b off e => by cases e; exact (setRow_other _ _ _ _ (by omega)).trans (setRow_other _ _ _ _ (by omega)))⟩
theorem duo_r (w : World) (c1 c2 : Array Value) (T1 T2 : TypeId) : Blk ((w.alloc (.cells c1 T1)).alloc (.cells c2 T2)) w.heap.size T1 c1 ∧ Blk ((w.alloc (.cells c1 T1)).alloc (.cells c2 T2)) (w.heap.size + 1) T2 c2 ∧ RowKit.Below w.heap.size w ((w.alloc (.cells c1 T1)).alloc (.cells c2 T2)) :=
 ⟨(Blk.new w T1 c1).alloc _, Blk.newA (g := w.heap.size + 1) (w.alloc (.cells c1 T1)) T2 c2 (by simp), bal (bal (RowKit.Below.refl _ _) _) _⟩
theorem rx_le : leE rxM 20 3000 500 false false rxS 2 rxF = (72, 0) := by
 unfold leE
 rw [rx_netM, rx_nf, if_pos rfl]
 exact rx_least
theorem rx_tk : tkE (nfE (netME rxM 20 3000 500 rxS 2) rxM rxS 2 rxF) rxF (lgT rxS 2) 12 = 0 := by
 rw [rx_netM, rx_nf]
 unfold tkE FliD.arr
 rw [if_pos rfl, show rxF.at_ (lgT rxS 2) (rxF.m - 1) = 18 from rx_arr]
 rfl
theorem rx_bs : bsE 0 rxM 20 3000 500 false false rxS 2 rxF 12 = (⟨1, 14, true⟩, 0) := by
 unfold bsE
 rw [if_pos rfl]
 exact rx_best
theorem rworks_c (w : World) : Calls Tryz.prog 7 #[] w fun e w' => e = .returned (.bool true) ∧ RowKit.Below w.heap.size w w' := by
 go_enter Tryz.func7, Tryz.ntmps7
 go_wp2_with (fail)
 refine (rExample_c _).mono ?_
 rintro e w1 ⟨vF, vS, A, c, vR, rfl, hb, hM, hc1, hc2, hL, hR⟩
 obtain ⟨⟨A1, cF, rfl, -, -, -⟩, ⟨A2, cS, rfl, -, -, -⟩⟩ := id hM
 obtain ⟨AR, cR, rfl, -, -, -⟩ := id hR
 have hle := fun w2 h1 h2 h3 => rLeast_c rxM (.slice A1 2 cF) (.slice A2 0 cS) 20 3000 500 false false A 2 c rxS rxF (.slice AR 3 cR) w2 h1 hc1 hc2 h2 h3
 have hbe := fun w2 h1 h2 h3 => rBest_c rxM (.slice A1 2 cF) (.slice A2 0 cS) 20 3000 500 false false A 2 c rxS rxF (.slice AR 3 cR) 12 w2 h1 hc1 hc2 h2 h3
 rw [rx_le] at hle
 rw [rx_tk, rx_bs] at hbe
 have HLE := hI9 hle
 have HBE := hI9 hbe
 have HM := hI9 hM
 have HL := hI9 hL
 have HR := hI9 hR
 have HB := hI9 hb
 clear hM hL hR hb hle hbe
 have tok1 : True := trivial
 go_wp2_with (first | (have _t := tok1; have _x := duo_r w1 #[.int .i64 0, .int .i64 0, .int .i64 0, .int .i64 0, .int .i64 0, .int .i64 0, .int .i64 0, .bool false, .bool false, .int .i64 0, .int .i64 0, .int .i64 0, .slice none 0 0, .slice none 0 0, .int .i64 0, .int .i64 0, .int .i64 0, .bool false, .bool false, .slice none 0 0] #[.slice none 0 0, .int .i64 0, .int .i64 0, .int .i64 0, .int .i64 0] 34 37; have ZP := hI9 _x.1; have ZF := hI9 _x.2.1; have HX := hI9 _x.2.2; clear _x; generalize World.alloc (World.alloc _ _) _ = W0 at *; refine wpList_store_row rfl 34 (.tmp 1) (.tmp 9) rfl w1.heap.size #[.int .i64 3, .int .i64 0, .int .i64 10, .int .i64 5000, .int .i64 9000, .int .i64 1000, .int .i64 3000, .bool false, .bool false, .int .i64 0, .int .i64 0, .int .i64 0, .slice A1 2 cF, .slice A2 0 cS, .int .i64 20, .int .i64 3000, .int .i64 500, .bool false, .bool false, .slice A 2 c] rfl rfl 34 #[.int .i64 0, .int .i64 0, .int .i64 0, .int .i64 0, .int .i64 0, .int .i64 0, .int .i64 0, .bool false, .bool false, .int .i64 0, .int .i64 0, .int .i64 0, .slice none 0 0, .slice none 0 0, .int .i64 0, .int .i64 0, .int .i64 0, .bool false, .bool false, .slice none 0 0] ZP.out Tryz.sizePlan rfl (by simp [Value.oneCell']) ?_; simp only [Act.put]; clear tok1; have tok2 : True := trivial; have HX2 := hI9 (below_row HX.out (Nat.le_refl _) #[.int .i64 3, .int .i64 0, .int .i64 10, .int .i64 5000, .int .i64 9000, .int .i64 1000, .int .i64 3000, .bool false, .bool false, .int .i64 0, .int .i64 0, .int .i64 0, .slice A1 2 cF, .slice A2 0 cS, .int .i64 20, .int .i64 3000, .int .i64 500, .bool false, .bool false, .slice A 2 c]); have ZP2 := hI9 (show Blk (W0.setRow w1.heap.size #[.int .i64 3, .int .i64 0, .int .i64 10, .int .i64 5000, .int .i64 9000, .int .i64 1000, .int .i64 3000, .bool false, .bool false, .int .i64 0, .int .i64 0, .int .i64 0, .slice A1 2 cF, .slice A2 0 cS, .int .i64 20, .int .i64 3000, .int .i64 500, .bool false, .bool false, .slice A 2 c]) w1.heap.size 34 #[.int .i64 3, .int .i64 0, .int .i64 10, .int .i64 5000, .int .i64 9000, .int .i64 1000, .int .i64 3000, .bool false, .bool false, .int .i64 0, .int .i64 0, .int .i64 0, .slice A1 2 cF, .slice A2 0 cS, .int .i64 20, .int .i64 3000, .int .i64 500, .bool false, .bool false, .slice A 2 c] from setRow_heap _ _ _ _ _ _ ZP.out); have ZF2 := hI9 (show Blk (W0.setRow w1.heap.size #[.int .i64 3, .int .i64 0, .int .i64 10, .int .i64 5000, .int .i64 9000, .int .i64 1000, .int .i64 3000, .bool false, .bool false, .int .i64 0, .int .i64 0, .int .i64 0, .slice A1 2 cF, .slice A2 0 cS, .int .i64 20, .int .i64 3000, .int .i64 500, .bool false, .bool false, .slice A 2 c]) (w1.heap.size + 1) 37 #[.slice none 0 0, .int .i64 0, .int .i64 0, .int .i64 0, .int .i64 0] from (setRow_other _ _ _ _ (by omega)).trans ZF.out); generalize W0.setRow w1.heap.size _ = W1 at *; clear ZP ZF HX) | (have _t := tok2; refine wpList_store_row rfl 37 (.tmp 2) (.tmp 10) rfl (w1.heap.size + 1) #[.slice AR 3 cR, .int .i64 0, .int .i64 100, .int .i64 2, .int .i64 20] rfl rfl 37 #[.slice none 0 0, .int .i64 0, .int .i64 0, .int .i64 0, .int .i64 0] ZF2.out Tryz.sizeFli rfl (by simp [Value.oneCell']) ?_; simp only [Act.put]; clear tok2; have tok3 : True := trivial; have tok4 : True := trivial; have tok5 : True := trivial; have HX3 := hI9 (below_row HX2.out (show w1.heap.size ≤ w1.heap.size + 1 by omega) #[.slice AR 3 cR, .int .i64 0, .int .i64 100, .int .i64 2, .int .i64 20]); have ZP3 := hI9 (show Blk (W1.setRow (w1.heap.size + 1) #[.slice AR 3 cR, .int .i64 0, .int .i64 100, .int .i64 2, .int .i64 20]) w1.heap.size 34 #[.int .i64 3, .int .i64 0, .int .i64 10, .int .i64 5000, .int .i64 9000, .int .i64 1000, .int .i64 3000, .bool false, .bool false, .int .i64 0, .int .i64 0, .int .i64 0, .slice A1 2 cF, .slice A2 0 cS, .int .i64 20, .int .i64 3000, .int .i64 500, .bool false, .bool false, .slice A 2 c] from (setRow_other _ _ _ _ (by omega)).trans ZP2.out); have ZF3 := hI9 (show Blk (W1.setRow (w1.heap.size + 1) #[.slice AR 3 cR, .int .i64 0, .int .i64 100, .int .i64 2, .int .i64 20]) (w1.heap.size + 1) 37 #[.slice AR 3 cR, .int .i64 0, .int .i64 100, .int .i64 2, .int .i64 20] from setRow_heap _ _ _ _ _ _ ZF2.out); generalize W1.setRow (w1.heap.size + 1) _ = W2 at *; clear ZP2 ZF2 HX2; have x19 := ZP3.out.cell 19; simp only [gtA, gtS, gtZ] at x19) | (have _t := tok3; refine wpl_mid rfl 29 _ rfl w1.heap.size 0 rfl 34 _ #[.int .i64 3, .int .i64 0, .int .i64 10, .int .i64 5000, .int .i64 9000, .int .i64 1000, .int .i64 3000, .bool false, .bool false, .int .i64 0, .int .i64 0, .int .i64 0, .slice A1 2 cF, .slice A2 0 cS] 14 ZP3.out Tryz.rowMet [] [.int .i64 20, .int .i64 3000, .int .i64 500, .bool false, .bool false, .slice A 2 c] rfl rfl rfl ?_; simp only [Act.put]; clear tok3) | (have _t := tok4; refine wpl_mid rfl 31 _ rfl w1.heap.size 14 rfl 34 _ #[.int .i64 20, .int .i64 3000, .int .i64 500, .bool false, .bool false] 5 ZP3.out Tryz.rowMin [.int .i64 3, .int .i64 0, .int .i64 10, .int .i64 5000, .int .i64 9000, .int .i64 1000, .int .i64 3000, .bool false, .bool false, .int .i64 0, .int .i64 0, .int .i64 0, .slice A1 2 cF, .slice A2 0 cS] [.slice A 2 c] rfl rfl rfl ?_; simp only [Act.put]; clear tok4) | (have _t := tok5; refine wpl_row rfl 37 (.tmp 2) rfl _ rfl _ 5 ZF3.out Tryz.rowFli rfl ?_; simp only [Act.put]; clear tok5))
 refine (HLE.out _ (HM.out.below HX3.out) (HL.out.below HX3.out) (HR.out.below HX3.out)).mono ?_
 rintro e w4 ⟨rfl, hb4⟩
 have ZP4 := hI9 (ZP3.out.below hb4)
 have ZF4 := hI9 (ZF3.out.below hb4)
 have HX4 := hI9 (bthen HX3.out hb4)
 clear ZP3 ZF3 HX3 hb4 x19
 have x19 := ZP4.out.cell 19
 simp only [gtA, gtS, gtZ] at x19
 have tok6 : True := trivial
 have tok7 : True := trivial
 have tok8 : True := trivial
 go_wp2_with (first | (have _t := tok6; refine wpl_mid rfl 29 _ rfl w1.heap.size 0 rfl 34 _ #[.int .i64 3, .int .i64 0, .int .i64 10, .int .i64 5000, .int .i64 9000, .int .i64 1000, .int .i64 3000, .bool false, .bool false, .int .i64 0, .int .i64 0, .int .i64 0, .slice A1 2 cF, .slice A2 0 cS] 14 ZP4.out Tryz.rowMet [] [.int .i64 20, .int .i64 3000, .int .i64 500, .bool false, .bool false, .slice A 2 c] rfl rfl rfl ?_; simp only [Act.put]; clear tok6) | (have _t := tok7; refine wpl_mid rfl 31 _ rfl w1.heap.size 14 rfl 34 _ #[.int .i64 20, .int .i64 3000, .int .i64 500, .bool false, .bool false] 5 ZP4.out Tryz.rowMin [.int .i64 3, .int .i64 0, .int .i64 10, .int .i64 5000, .int .i64 9000, .int .i64 1000, .int .i64 3000, .bool false, .bool false, .int .i64 0, .int .i64 0, .int .i64 0, .slice A1 2 cF, .slice A2 0 cS] [.slice A 2 c] rfl rfl rfl ?_; simp only [Act.put]; clear tok7) | (have _t := tok8; refine wpl_row rfl 37 (.tmp 2) rfl _ rfl _ 5 ZF4.out Tryz.rowFli rfl ?_; simp only [Act.put]; clear tok8))
 refine (HBE.out _ (HM.out.below HX4.out) (HL.out.below HX4.out) (HR.out.below HX4.out)).mono ?_
 rintro e w5 ⟨rfl, hb5⟩
 have HB5 := hI9 (bthen HB.out (bthen HX4.out hb5))
 clear ZP4 ZF4 HX4 hb5 x19
 unfold hvC
 go_wp2_with (fail)
 go_ret
 exact ⟨rfl, bal HB5.out _⟩
end Go.Proofs.YtlabfpjlckdmfaaGreat
