/- Texts joined: JAN. -/
import Derived.Test.YtafkifjebimdaaaGreatJAK
import Derived.Great.CaseRows
import Derived.Deep.WholeRow
set_option linter.all false
namespace Go.Proofs.YtafkifjebimdaaaGreat
open Go Go.RowKit Go.Proofs
set_option maxRecDepth 100000
set_option maxHeartbeats 8000000

end Go.Proofs.YtafkifjebimdaaaGreat

namespace Go.Proofs.YtafkifjebimdaaaGreat
open Go Go.RowKit Go.Proofs

def exD (i j : Nat) : Int := nth (nthR [[0, 0, 20, 0, 10, 30, 4000, 8000, 500, 2000], [0, 10, 20, 5, 25, 40, 1000, 3000, 300, 900]] i) j
def exE (i j : Nat) : Int := nth (nthR [[1, 4, 20, 6000, 1500]] i) j
def exM : MetD := ⟨2, ⟨0, 60, 0, 10000, 0, 3000, true, true⟩, 5, 1000, 200, 2, exD, fun _ _ => false, 1, exE, fun _ _ => false⟩
theorem stab_nil (key : Nat → Int) : stab key [] = [] := by simp [stab]
theorem stab_one (key : Nat → Int) (x : Nat) : stab key [x] = [x] := by simp [stab]
theorem exCov1 {t : Int} (h : inB t 0 9 = true) : exM.ordF 0 t = [0] := by
  obtain ⟨h1, h2⟩ := inB_iff.1 h
  unfold MetD.ordF MetD.cov
  have e : (List.range exM.n).filter (exM.covP 0 t) = [0] := by
    show [0, 1].filter (exM.covP 0 t) = [0]
    have c0 : exM.covP 0 t 0 = true := by
      show (decide ((0 : Int) = 0) && inB t 0 (20 - 1)) = true
      rw [Bool.and_eq_true, inB_iff]; exact ⟨rfl, by omega⟩
    have c1 : exM.covP 0 t 1 = false := by
      show (decide ((0 : Int) = 0) && inB t 10 (20 - 1)) = false
      rw [Bool.and_eq_false_iff]; right
      cases hh : inB t 10 (20 - 1)
      · rfl
      · have := inB_iff.1 hh; omega
    simp [c0, c1]
  rw [e, stab_one]
theorem exSen (t : Int) : exM.ordS 0 t = [] := by
  unfold MetD.ordS MetD.sen
  have e : (List.range exM.m).filter (exM.senP 0 t) = [] := by
    show [0].filter (exM.senP 0 t) = []
    have c0 : exM.senP 0 t 0 = false := by
      show (decide ((1 : Int) = 0) && _) = false
      rfl
    simp [c0]
  rw [e, stab_nil]
end Go.Proofs.YtafkifjebimdaaaGreat

namespace Go.Proofs.YtafkifjebimdaaaGreat
open Go Go.RowKit Go.Proofs
set_option maxRecDepth 100000
set_option maxHeartbeats 8000000

theorem wpl_recs {P : Program} {ops : Array Oper} {rest : List Oper} {o : Oper} {a : Act} {w : World} {Q : Exit → Act → World → Prop} (hg : o.guard = none) (t e : TypeId) (len : Nat) (parts : Array (Nat × Operand)) (s : Nat) (vs : List Value) (V : Nat → Nat → Value)
    (ho : o.op = .buildSlice t len parts) (hu : P.underlying t = some (.slice e)) (hsz : (P.info? e).map (·.size) = some s) (hz : ((P.info? e).bind (·.zero)).isSome = true)
    (hlen : len = vs.length) (hs : 0 < s) (hpos : 0 < len) (hsmall : len * s ≤ 2 ^ 24) (h1 : ∀ v ∈ vs, v.cells.size = s)
    (hparts : (parts.toList.map fun (i, x) => (i, a.eval x)) = (vs.zipIdx 0).map fun x => (x.2, x.1))
    (hV : (vs.flatMap fun v => v.cells.toList) = (List.range (len * s)).map fun q => V (q / s) (q % s))
    (h : ∀ g w', Below w.heap.size w w' → w.heap.size ≤ g → RecsAt w' (some ⟨g, 0, none⟩) len s V → wpList P ops Q rest (a.put o.dst (.slice (some ⟨g, 0, none⟩) len len)) w') : wpList P ops Q (o :: rest) a w := by
  cases hie : P.info? e with
  | none => simp [hie] at hsz
  | some ie =>
    simp only [hie, Option.map_some, Option.some.injEq, Option.bind_some] at hsz hz
    obtain ⟨z, hzz⟩ := Option.isSome_iff_exists.1 hz
    have hp := Nat.mul_pos hpos hs
    refine wpList_buildSlice hg t e len parts ho (vs.flatMap fun v => v.cells.toList).toArray ie z hu hie hzz (by rw [hsz]; omega) (by rw [hsz]; omega) ?_ ?_
    · rw [Array.toList_map, hparts, hsz]
      exact Great.fill_whole hs vs _ h1 (by simp [hlen])
    · refine h w.heap.size _ (bal (Below.refl _ _) _) (Nat.le_refl _) ?_
      rw [hV]
      intro _
      refine ⟨w.heap.size, 0, rfl, by simp, fun i hi j hj => ?_⟩
      have hlt : i * s + j < len * s := by
        have : (i + 1) * s ≤ len * s := Nat.mul_le_mul_right s hi
        rw [Nat.add_mul] at this; omega
      rw [Nat.zero_add, cell_of_row _ w.heap.size (i * s + j) _ e (0, 0) (World.alloc_heap_new w _)]
      simp only [List.getElem?_toArray, List.getElem?_map, List.getElem?_range hlt, Option.map_some]
      rw [Nat.mul_comm i s, Nat.mul_add_div hs, Nat.mul_add_mod, Nat.div_eq_of_lt hj, Nat.mod_eq_of_lt hj, Nat.add_zero]
theorem wpl_buildw {P : Program} {ops : Array Oper} {rest : List Oper} {o : Oper} {a : Act} {w : World} {Q : Exit → Act → World → Prop} (hg : o.guard = none) (t : TypeId) (parts : Array (Nat × Operand)) (ho : o.op = .build t parts)
    (cs : Array Value) (hf : P.built t (parts.toList.map fun (i, x) => (i, a.eval x)) = some cs)
    (h : wpList P ops Q rest (a.put o.dst (.agg cs)) w) : wpList P ops Q (o :: rest) a w :=
  wpList_build hg t parts ho (by rw [Array.toList_map, hf]; rfl) (by rw [Array.toList_map, hf]; exact h)
theorem wpl_store_newW {P : Program} {ops : Array Oper} {rest : List Oper} {o : Oper} {a : Act} {w : World} {Q : Exit → Act → World → Prop} (hgd : o.guard = none) (ty : TypeId) (x y : Operand) (ho : o.op = .store ty x y)
    (cells old : Array Value) (g : Nat) (hx : a.eval x = .pointer (some ⟨g, 0, none⟩)) (hg : g = w.heap.size) (hy : a.eval y = .agg cells) (hi : (P.info? ty).map (·.size) = some cells.size)
    (hold : old.size = cells.size) (h1 : cells.all (·.oneCell') = true)
    (h : wpList P ops Q rest (a.put o.dst undef) (w.alloc (.cells cells ty))) : wpList P ops Q (o :: rest) a (w.alloc (.cells old ty)) := by
  subst hg
  refine wpList_store_row hgd ty x y ho w.heap.size cells hx hy ty old (World.alloc_heap_new w _) hi hold h1 ?_
  rw [World.setRow_alloc_new]; exact h
theorem res_cc2 {P : Program} {w : World} {fn : Func} {p q : Tmp} {ty ty' : TypeId} (h : fn.results = #[.cell p ty, .cell q ty']) (tmps : Array Value) (g g' : Nat) (cs cs' : Array Value) (n n' : Nat) (hp : tmps.getD p undef = .pointer (some ⟨g, 0, none⟩)) (hq : tmps.getD q undef = .pointer (some ⟨g', 0, none⟩))
    (hB : w.heap[g]? = some (.cells cs ty (0, 0))) (hr : RowTy P ty n) (hn : cs.size = n) (hB' : w.heap[g']? = some (.cells cs' ty' (0, 0))) (hr' : RowTy P ty' n') (hn' : cs'.size = n') : (results fn tmps).run P w = .ok (.tuple #[.agg cs, .agg cs']) w := by
  have hp' : tmps[p]?.getD undef = .pointer (some ⟨g, 0, none⟩) := by simpa using hp
  have hq' : tmps[q]?.getD undef = .pointer (some ⟨g', 0, none⟩) := by simpa using hq
  simp [results, h, hp', hq', asAddr, run_row hB hr hn, run_row hB' hr' hn']
theorem Tryz.fcS : (Tryz.prog.info? 133).map (·.size) = some 12 := by kernel_rfl
theorem Tryz.fcZ : ((Tryz.prog.info? 133).bind (·.zero)).isSome = true := by kernel_rfl
theorem Tryz.siS : (Tryz.prog.info? 135).map (·.size) = some 7 := by kernel_rfl
theorem Tryz.siZ : ((Tryz.prog.info? 135).bind (·.zero)).isSome = true := by kernel_rfl
theorem Tryz.sizeMin : (Tryz.prog.info? 41).map (·.size) = some 5 := by kernel_rfl
def exF : List Value := [.agg #[.int .i64 0, .int .i64 0, .int .i64 20, .int .i64 0, .int .i64 10, .int .i64 30, .int .i64 4000, .int .i64 8000, .int .i64 500, .int .i64 2000, .bool false, .bool false], .agg #[.int .i64 0, .int .i64 10, .int .i64 20, .int .i64 5, .int .i64 25, .int .i64 40, .int .i64 1000, .int .i64 3000, .int .i64 300, .int .i64 900, .bool false, .bool false]]
def exG : List Value := [.agg #[.int .i64 1, .int .i64 4, .int .i64 20, .int .i64 6000, .int .i64 1500, .bool false, .bool false]]
theorem exF_eq : (exF.flatMap fun v => v.cells.toList) = (List.range (2 * 12)).map fun q => fcV exM.D exM.B (q / 12) (q % 12) := by rfl
theorem exG_eq : (exG.flatMap fun v => v.cells.toList) = (List.range (1 * 7)).map fun q => siV exM.E exM.C (q / 7) (q % 7) := by rfl
theorem exF_sz : ∀ v ∈ exF, v.cells.size = 12 := by
  intro v hv; simp only [exF, List.mem_cons, List.not_mem_nil, or_false] at hv; rcases hv with rfl | rfl <;> rfl
theorem exG_sz : ∀ v ∈ exG, v.cells.size = 7 := by
  intro v hv; simp only [exG, List.mem_cons, List.not_mem_nil, or_false] at hv; subst hv; rfl
theorem one5 (a b c : Int) (d e : Bool) : (#[.int .i64 a, .int .i64 b, .int .i64 c, .bool d, .bool e] : Array Value).all (·.oneCell') = true := by simp [Value.oneCell']
theorem wExample_c (w : World) :
   Calls Tryz.prog 28 #[] w fun e w' => ∃ vF vS, e = .returned (.tuple #[.agg #[.int .i64 2, .int .i64 0, .int .i64 60, .int .i64 0, .int .i64 10000, .int .i64 0, .int .i64 3000, .bool true, .bool true, .int .i64 5, .int .i64 1000, .int .i64 200, vF, vS], .agg #[.int .i64 35, .int .i64 3000, .int .i64 400, .bool false, .bool false]]) ∧ Below w.heap.size w w' ∧ MetAt w' vF vS exM := by
  have tok : True := trivial
  go_enter Tryz.func28, Tryz.ntmps28
  go_wp2_with (first | (have _t := tok; refine wpl_recs rfl 31 133 2 _ 12 exF (fcV exM.D exM.B) rfl Tryz.fcU Tryz.fcS Tryz.fcZ rfl (by omega) (by omega) (by omega) exF_sz (by rfl) exF_eq ?_))
  intro g1 w1 hb1 hg1 hr1
  clear tok
  have tok1 : True := trivial
  have HM := Lib.hid (Blk.under (((Blk.newA (g := w.heap.size) w 34 #[.int .i64 0, .int .i64 0, .int .i64 0, .int .i64 0, .int .i64 0, .int .i64 0, .int .i64 0, .bool false, .bool false, .int .i64 0, .int .i64 0, .int .i64 0, .slice none 0 0, .slice none 0 0] rfl).alloc (.cells #[.int .i64 0, .int .i64 0, .int .i64 0, .bool false, .bool false] 41))) hb1 (by omega))
  have HN := Lib.hid (Blk.under (Blk.newA (g := w.heap.size + 1) (w.alloc (.cells #[.int .i64 0, .int .i64 0, .int .i64 0, .int .i64 0, .int .i64 0, .int .i64 0, .int .i64 0, .bool false, .bool false, .int .i64 0, .int .i64 0, .int .i64 0, .slice none 0 0, .slice none 0 0] 34)) 41 #[.int .i64 0, .int .i64 0, .int .i64 0, .bool false, .bool false] (by simp)) hb1 (by omega))
  have HB := Lib.hid ((show Below w.heap.size w _ from (by repeat' (first | exact Below.refl _ _ | assumption | refine Below.drew ?_ | refine bdn ?_ _ | refine bal ?_ _ | refine Below.setCell ?_ (by first | (simp; done) | omega | (simp; omega)) _))).trans (hb1.mono (by omega)))
  have HR1 := Lib.hid hr1
  have hg1z : w.heap.size + 1 < g1 := by first | omega | (simp at hg1; omega)
  clear hg1
  have hz1 : w.heap.size + 1 < w1.heap.size := by have := hb1.size; first | omega | (simp at this; omega)
  clear hb1 hr1
  go_wp2_with (first | (have _t := tok1; refine wpl_recs rfl 32 135 1 _ 7 exG (siV exM.E exM.C) rfl Tryz.siU Tryz.siS Tryz.siZ rfl (by omega) (by omega) (by omega) exG_sz (by rfl) exG_eq ?_))
  intro g2 w2 hb2 hg2 hr2
  clear tok1
  have tok2 : True := trivial
  have HM2 := Lib.hid (HM.out.below hb2)
  have HN2 := Lib.hid (HN.out.below hb2)
  have HB2 := Lib.hid (HB.out.trans (hb2.mono (by omega)))
  have HA2 := Lib.hid (show MetAt w2 (.slice (some ⟨g1, 0, none⟩) 2 2) (.slice (some ⟨g2, 0, none⟩) 1 1) exM from ⟨⟨_, 2, rfl, Nat.le_refl _, by omega, HR1.out.below hb2⟩, ⟨_, 1, rfl, Nat.le_refl _, by omega, hr2⟩⟩)
  have hg2z : w.heap.size + 1 < g2 := by omega
  clear hg2
  have hz2 : w.heap.size + 1 < w2.heap.size := by have := hb2.size; omega
  clear hb2 hr2 HM HN HB HR1
  refine wpl_buildw rfl 34 _ rfl #[.int .i64 2, .int .i64 0, .int .i64 60, .int .i64 0, .int .i64 10000, .int .i64 0, .int .i64 3000, .bool true, .bool true, .int .i64 5, .int .i64 1000, .int .i64 200, .slice (some ⟨g1, 0, none⟩) 2 2, .slice (some ⟨g2, 0, none⟩) 1 1] (by kernel_rfl) ?_
  simp only [Act.put, List.setIfInBounds_toArray, List.set_cons_succ, List.set_cons_zero]
  go_wp2_with (first | (have _t := tok2; refine wpl_store_newW rfl 34 (.tmp 2) (.tmp 21) rfl #[.int .i64 2, .int .i64 0, .int .i64 60, .int .i64 0, .int .i64 10000, .int .i64 0, .int .i64 3000, .bool true, .bool true, .int .i64 5, .int .i64 1000, .int .i64 200, .slice (some ⟨g1, 0, none⟩) 2 2, .slice (some ⟨g2, 0, none⟩) 1 1] _ _ rfl ?_ rfl Tryz.sizeMet rfl (oneM exM (some ⟨g1, 0, none⟩) (some ⟨g2, 0, none⟩) 2 2 1 1) ?_; (focus (simp; done)); simp only [Act.put]; clear tok2; have tok3 : True := trivial; have ZM := Lib.hid (HM2.out.alloc (.cells #[.int .i64 2, .int .i64 0, .int .i64 60, .int .i64 0, .int .i64 10000, .int .i64 0, .int .i64 3000, .bool true, .bool true, .int .i64 5, .int .i64 1000, .int .i64 200, .slice (some ⟨g1, 0, none⟩) 2 2, .slice (some ⟨g2, 0, none⟩) 1 1] 34))) | (have _t := tok3; refine wpl_row rfl 34 (.tmp 2) rfl _ rfl #[.int .i64 2, .int .i64 0, .int .i64 60, .int .i64 0, .int .i64 10000, .int .i64 0, .int .i64 3000, .bool true, .bool true, .int .i64 5, .int .i64 1000, .int .i64 200, .slice (some ⟨g1, 0, none⟩) 2 2, .slice (some ⟨g2, 0, none⟩) 1 1] 14 (Blk.new _ _ _) Tryz.rowMet rfl ?_; simp only [Act.put]) | (have _t := tok3; refine wpList_store_row rfl 34 (.tmp 0) (.tmp 22) rfl w.heap.size #[.int .i64 2, .int .i64 0, .int .i64 60, .int .i64 0, .int .i64 10000, .int .i64 0, .int .i64 3000, .bool true, .bool true, .int .i64 5, .int .i64 1000, .int .i64 200, .slice (some ⟨g1, 0, none⟩) 2 2, .slice (some ⟨g2, 0, none⟩) 1 1] rfl rfl 34 #[.int .i64 0, .int .i64 0, .int .i64 0, .int .i64 0, .int .i64 0, .int .i64 0, .int .i64 0, .bool false, .bool false, .int .i64 0, .int .i64 0, .int .i64 0, .slice none 0 0, .slice none 0 0] ZM.out Tryz.sizeMet rfl (oneM exM (some ⟨g1, 0, none⟩) (some ⟨g2, 0, none⟩) 2 2 1 1) ?_; simp only [Act.put]; clear tok3; have tok4 : True := trivial) | (have _t := tok4; refine wpList_store_row rfl 41 (.tmp 1) (.tmp 23) rfl (w.heap.size + 1) #[.int .i64 35, .int .i64 3000, .int .i64 400, .bool false, .bool false] rfl rfl 41 #[.int .i64 0, .int .i64 0, .int .i64 0, .bool false, .bool false] ((setRow_other _ _ _ _ (by omega)).trans (HN2.out.alloc _)) Tryz.sizeMin rfl (one5 _ _ _ _ _) ?_; simp only [Act.put]; clear tok4))
  exact bodyPost_ret (res_cc2 rfl _ _ _ #[.int .i64 2, .int .i64 0, .int .i64 60, .int .i64 0, .int .i64 10000, .int .i64 0, .int .i64 3000, .bool true, .bool true, .int .i64 5, .int .i64 1000, .int .i64 200, .slice (some ⟨g1, 0, none⟩) 2 2, .slice (some ⟨g2, 0, none⟩) 1 1] #[.int .i64 35, .int .i64 3000, .int .i64 400, .bool false, .bool false] 14 5 rfl rfl ((setRow_other _ _ _ _ (by omega)).trans (setRow_heap _ _ _ _ _ _ ZM.out)) Tryz.rowMet rfl (setRow_heap _ _ _ _ _ _ ((setRow_other _ _ _ _ (by omega)).trans (HN2.out.alloc _))) Tryz.rowMin rfl) rfl
    ⟨_, _, rfl, below_row (below_row (bal HB2.out _) (by omega) _) (by omega) _, ((HA2.out.below (bal (Below.refl _ _) _)).setRow (fun b hb => by cases hb; dsimp only; omega) (fun b hb => by cases hb; dsimp only; omega) _).setRow (fun b hb => by cases hb; dsimp only; omega) (fun b hb => by cases hb; dsimp only; omega) _⟩
end Go.Proofs.YtafkifjebimdaaaGreat
