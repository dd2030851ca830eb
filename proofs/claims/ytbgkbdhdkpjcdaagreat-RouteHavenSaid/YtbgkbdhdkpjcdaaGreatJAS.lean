/- Texts joined: JAS. -/
import Derived.Great.CaseRows
import Derived.Deep.WholeRow
import Derived.Test.YtbgkbdhdkpjcdaaGreatNbC
import Derived.Test.YtbgkbdhdkpjcdaaGreatJAB
import Derived.OpenShut
import Derived.Deep.Slices
import Derived.ChangeArms
import Derived.ChangeSlices
import Derived.WideShapes
import Derived.Test.YtbgkbdhdkpjcdaaGreatRows
import Derived.WalkKit
import Derived.ProofKit
import Derived.Below
import Derived.Carry
import Derived.ChangeSame
import Derived.Test.YtbgkbdhdkpjcdaaGreatWeG
import Derived.Test.YtbgkbdhdkpjcdaaGreatNaE
set_option linter.all false
namespace Go.Proofs.YtbgkbdhdkpjcdaaGreat
open Go Go.RowKit Go.Proofs
set_option maxRecDepth 100000
set_option maxHeartbeats 8000000
theorem wpl_recr {P : Program} {ops : Array Oper} {rest : List Oper} {o : Oper} {a : Act} {w : World} {Q : Exit → Act → World → Prop} (hg : o.guard = none) (t e : TypeId) (len : Nat) (parts : Array (Nat × Operand)) (s : Nat) (vs : List Value) (V : Nat → Nat → Value)
    (ho : o.op = .buildSlice t len parts) (hu : P.underlying t = some (.slice e)) (hsz : (P.info? e).map (·.size) = some s) (hz : ((P.info? e).bind (·.zero)).isSome = true)
    (hlen : len = vs.length) (hs : 0 < s) (hpos : 0 < len) (hsmall : len * s ≤ 2 ^ 24) (h1 : ∀ v ∈ vs, v.cells.size = s)
    (hparts : (parts.toList.map fun (i, x) => (i, a.eval x)) = (vs.zipIdx 0).map fun x => (x.2, x.1))
    (hV : (vs.flatMap fun v => v.cells.toList) = (List.range (len * s)).map fun q => V (q / s) (q % s))
    (h : ∀ g w', Below w.heap.size w w' → w.heap.size ≤ g → RecsAt w' (some ⟨g, 0, none⟩) len s V → wpList P ops Q rest (a.put o.dst (.slice (some ⟨g, 0, none⟩) len len)) w') : wpList P ops Q (o :: rest) a w := by
  cases hie : P.info? e with
  | none => simp [hie] at hsz
  | some ie =>
    simp only [hie, Option.map_some, Option.some.injEq, Option.bind_some] at hsz hz
    obtain ⟨z, hzz⟩ := Option.isSome_iff_exists.1 hz
    have hp := Nat.mul_pos hpos hs
    refine wpList_buildSlice hg t e len parts ho (vs.flatMap fun v => v.cells.toList).toArray ie z hu hie hzz (by rw [hsz]; omega) (by rw [hsz]; omega) ?_ ?_
    · rw [Array.toList_map, hparts, hsz]
      exact Great.fill_whole hs vs _ h1 (by simp [hlen])
    · refine h w.heap.size _ (bal (Below.refl _ _) _) (Nat.le_refl _) ?_
      rw [hV]
      intro _
      refine ⟨w.heap.size, 0, rfl, by simp, fun i hi j hj => ?_⟩
      have hlt : i * s + j < len * s := by
        have : (i + 1) * s ≤ len * s := Nat.mul_le_mul_right s hi
        rw [Nat.add_mul] at this; omega
      rw [Nat.zero_add, cell_of_row _ w.heap.size (i * s + j) _ e (0, 0) (World.alloc_heap_new w _)]
      simp only [List.getElem?_toArray, List.getElem?_map, List.getElem?_range hlt, Option.map_some]
      rw [Nat.mul_comm i s, Nat.mul_add_div hs, Nat.mul_add_mod, Nat.div_eq_of_lt hj, Nat.mod_eq_of_lt hj, Nat.add_zero]
theorem wpl_buildr {P : Program} {ops : Array Oper} {rest : List Oper} {o : Oper} {a : Act} {w : World} {Q : Exit → Act → World → Prop} (hg : o.guard = none) (t : TypeId) (parts : Array (Nat × Operand)) (ho : o.op = .build t parts)
    (cs : Array Value) (hf : P.built t (parts.toList.map fun (i, x) => (i, a.eval x)) = some cs)
    (h : wpList P ops Q rest (a.put o.dst (.agg cs)) w) : wpList P ops Q (o :: rest) a w :=
  wpList_build hg t parts ho (by rw [Array.toList_map, hf]; rfl) (by rw [Array.toList_map, hf]; exact h)
theorem wpl_store_newR {P : Program} {ops : Array Oper} {rest : List Oper} {o : Oper} {a : Act} {w : World} {Q : Exit → Act → World → Prop} (hgd : o.guard = none) (ty : TypeId) (x y : Operand) (ho : o.op = .store ty x y)
    (cells old : Array Value) (g : Nat) (hx : a.eval x = .pointer (some ⟨g, 0, none⟩)) (hg : g = w.heap.size) (hy : a.eval y = .agg cells) (hi : (P.info? ty).map (·.size) = some cells.size)
    (hold : old.size = cells.size) (h1 : cells.all (·.oneCell') = true)
    (h : wpList P ops Q rest (a.put o.dst undef) (w.alloc (.cells cells ty))) : wpList P ops Q (o :: rest) a (w.alloc (.cells old ty)) := by
  subst hg
  refine wpList_store_row hgd ty x y ho w.heap.size cells hx hy ty old (World.alloc_heap_new w _) hi hold h1 ?_
  rw [World.setRow_alloc_new]; exact h
theorem res_cc2r {P : Program} {w : World} {fn : Func} {p q : Tmp} {ty ty' : TypeId} (h : fn.results = #[.cell p ty, .cell q ty']) (tmps : Array Value) (g g' : Nat) (cs cs' : Array Value) (n n' : Nat) (hp : tmps.getD p undef = .pointer (some ⟨g, 0, none⟩)) (hq : tmps.getD q undef = .pointer (some ⟨g', 0, none⟩))
    (hB : w.heap[g]? = some (.cells cs ty (0, 0))) (hr : RowTy P ty n) (hn : cs.size = n) (hB' : w.heap[g']? = some (.cells cs' ty' (0, 0))) (hr' : RowTy P ty' n') (hn' : cs'.size = n') : (results fn tmps).run P w = .ok (.tuple #[.agg cs, .agg cs']) w := by
  have hp' : tmps[p]?.getD undef = .pointer (some ⟨g, 0, none⟩) := by simpa using hp
  have hq' : tmps[q]?.getD undef = .pointer (some ⟨g', 0, none⟩) := by simpa using hq
  simp [results, h, hp', hq', asAddr, run_row hB hr hn, run_row hB' hr' hn']
theorem Tryz.fcSr : (Tryz.prog.info? 77).map (·.size) = some 12 := by kernel_rfl
theorem Tryz.fcZr : ((Tryz.prog.info? 77).bind (·.zero)).isSome = true := by kernel_rfl
end Go.Proofs.YtbgkbdhdkpjcdaaGreat

namespace Go.Proofs.YtbgkbdhdkpjcdaaGreat
open Go Go.RowKit Go.Proofs
set_option maxRecDepth 100000
set_option maxHeartbeats 4000000

/-- What a table's look-up reads as. -/
structure Look where
  T : Tbl
  xl : Int
  xh : Int
  yl : Int
  yh : Int
def Look.on (k : Look) : Bool := lkE k.T k.xl k.xh k.yl k.yh
end Go.Proofs.YtbgkbdhdkpjcdaaGreat

namespace Go.Proofs.YtbgkbdhdkpjcdaaGreat
open Go Go.RowKit Go.Proofs
set_option maxRecDepth 100000
set_option maxHeartbeats 4000000

end Go.Proofs.YtbgkbdhdkpjcdaaGreat

namespace Go.Proofs.YtbgkbdhdkpjcdaaGreat
open Go Go.RowKit Go.Proofs
set_option maxRecDepth 100000
set_option maxHeartbeats 4000000

end Go.Proofs.YtbgkbdhdkpjcdaaGreat

namespace Go.Proofs.YtbgkbdhdkpjcdaaGreat
open Go Go.RowKit Go.Proofs
set_option maxRecDepth 100000
set_option maxHeartbeats 4000000

theorem isSl_one {v : Value} (h : IsSl v) : v.oneCell' = true := by obtain ⟨a, n, c, rfl⟩ := h; rfl
theorem RotAt.one {w : World} {hx hy hv gx gy gv lx ly lv px py pv nx ny nv ax ay av cx cy cv dx dy dv : Value} {cl bu : Int} {S : Tabs} (h : RotAt w hx hy hv gx gy gv lx ly lv px py pv nx ny nv ax ay av cx cy cv dx dy dv cl bu S) (wl wh tl th el eh nl nh : Int) : (#[hx, hy, hv, gx, gy, gv, lx, ly, lv, px, py, pv, nx, ny, nv, ax, ay, av, cx, cy, cv, dx, dy, dv, .int .i64 cl, .int .i64 bu, .int .i64 wl, .int .i64 wh, .int .i64 tl, .int .i64 th, .int .i64 el, .int .i64 eh, .int .i64 nl, .int .i64 nh] : Array Value).all (·.oneCell') = true := by
  rw [Array.all_eq_true_iff_forall_mem]
  intro x hx'
  simp only [List.mem_toArray, List.mem_cons, List.not_mem_nil, or_false] at hx'
  rcases hx' with rfl | rfl | rfl | rfl | rfl | rfl | rfl | rfl | rfl | rfl | rfl | rfl | rfl | rfl | rfl | rfl | rfl | rfl | rfl | rfl | rfl | rfl | rfl | rfl | rfl | rfl | rfl | rfl | rfl | rfl | rfl | rfl | rfl | rfl
  any_goals rfl
  · exact isSl_one h.h.s1
  · exact isSl_one h.h.s2
  · exact isSl_one h.h.s3
  · exact isSl_one h.g.s1
  · exact isSl_one h.g.s2
  · exact isSl_one h.g.s3
  · exact isSl_one h.l.s1
  · exact isSl_one h.l.s2
  · exact isSl_one h.l.s3
  · exact isSl_one h.p.s1
  · exact isSl_one h.p.s2
  · exact isSl_one h.p.s3
  · exact isSl_one h.n.s1
  · exact isSl_one h.n.s2
  · exact isSl_one h.n.s3
  · exact isSl_one h.a.s1
  · exact isSl_one h.a.s2
  · exact isSl_one h.a.s3
  · exact isSl_one h.c.s1
  · exact isSl_one h.c.s2
  · exact isSl_one h.c.s3
  · exact isSl_one h.d.s1
  · exact isSl_one h.d.s2
  · exact isSl_one h.d.s3
end Go.Proofs.YtbgkbdhdkpjcdaaGreat

namespace Go.Proofs.YtbgkbdhdkpjcdaaGreat
open Go Go.RowKit Go.Proofs Go.ChangeShapes Go.WideShapes Go.ChangeAt Go.Deep
set_option maxRecDepth 100000
set_option maxHeartbeats 4000000

theorem Tryz.undInt : Tryz.prog.underlying 3 = some (.int .i64) := by kernel_rfl
section
variable {H : Type} {enc : TypeId × Value → H} {W : World} {sp : Nat → Bool} {held : Bool}

theorem wf_I64 {n : Int} (h : (Lit.int .i64 n).wf = true) : I64 n := by
  exact bounds_i64 h

end
end Go.Proofs.YtbgkbdhdkpjcdaaGreat

/- A rotor among the arguments: its cells and tables. -/
namespace Go.Proofs.YtbgkbdhdkpjcdaaGreat
open Go Go.RowKit Go.Proofs Go.ChangeShapes Go.WideShapes Go.ChangeAt Go.Deep
set_option maxRecDepth 100000
set_option maxHeartbeats 4000000

def fieldAt (d : Option TypeDesc) (i : Nat) : Option (TypeId × Nat) := match d with | some (.struct fs) => fs[i]?.map (fun f => (f.type, f.offset)) | _ => none
theorem fieldAt_struct {P : Program} {T : TypeId} {i : Nat} {r : TypeId × Nat} (h : fieldAt (P.underlying T) i = some r) : ∃ fs, P.underlying T = some (.struct fs) := by
  unfold fieldAt at h; split at h
  · rename_i fs e; exact ⟨fs, e⟩
  · exact absurd h (by simp)

section
variable {H : Type} {enc : TypeId × Value → H} {W : World} {sp : Nat → Bool} {held : Bool}

theorem trod_field {P : Program} {fuel : Nat} {T t : TypeId} {o k i : Nat} {cs : List Value} {x : DataW H × List MemPlace} (hf : fieldAt (P.underlying T) i = some (t, o)) (hk : P.cellsOf t = k)
    (h : DataW.trod enc P W 0 sp held fuel T cs = some x) : ∃ m y, DataW.trod enc P W 0 sp held m t ((cs.drop o).take k) = some y := by
  obtain ⟨fs, hu⟩ := fieldAt_struct hf
  obtain ⟨xs, m, -, -, -, hl, hg⟩ := DataW.trod_struct hu h
  rw [hu] at hf
  simp only [fieldAt, Option.map_eq_some_iff, Prod.mk.injEq] at hf
  obtain ⟨f, hfi, e1, e2⟩ := hf
  have := hg i f hfi
  rw [e1, e2, hk] at this
  have hlt : i < xs.length := by rw [hl]; exact (Array.getElem?_eq_some_iff.1 hfi).1
  exact ⟨m, xs[i], by rw [this, List.getElem?_eq_getElem hlt]⟩

theorem take1 {n : Nat} {l : List Value} (h : l.length = n + 1) : ∃ c l', l = c :: l' ∧ l'.length = n := by
  cases l with
  | nil => simp at h
  | cons c l' => exact ⟨c, l', rfl, by simpa using h⟩

end
end Go.Proofs.YtbgkbdhdkpjcdaaGreat

/- The end of a row whose call leaves a world that has grown: the arguments read as they did. -/
namespace Go.Proofs.YtbgkbdhdkpjcdaaGreat
open Go Go.RowKit Go.Proofs Go.ChangeShapes Go.WideShapes Go.ChangeAt

theorem Tryz.laidOut' : laidOutB Tryz.prog = true := by kernel_rfl

section
variable {H : Type} {enc : TypeId × Value → H} {P : Program}
theorem post_kept {f : Func} {s : ChangeSpec} {apart fresh handsOn again : Bool} {W W' : World} {args : Array Value} {v : Value} {ds gs : List (DataW H)} {before pa pv : List MemPlace}
    (hW : DataW.Whole enc P f.params.toList s.vars apart W args.toList ds gs before) (hb : Below W.heap.size W W')
    (hres : ∀ (b : Nat) (sp : Nat → Bool) (hd : Bool), DataW.TrodAll enc P W' b sp hd f.resultTypes.toList (v.resultList f.resultTypes.size) (s.fn H (ds ++ gs)).results [])
    (hargs : ∀ sp : Nat → Bool, (∀ p ∈ before, sp p.block = true) → DataW.TrodAll enc P W' 0 sp true f.params.toList args.toList (s.fn H (ds ++ gs)).args pa)
    (hvars : ∀ sp : Nat → Bool, (∀ p ∈ before, sp p.block = true) → DataW.TrodVars enc P W' sp s.vars (s.fn H (ds ++ gs)).vars pv)
    (hps : before = pa ++ pv)
    (hok : ∀ (j : Nat) (t : TypeId) (r : Value), f.resultTypes[j]? = some t → (v.resultList f.resultTypes.size)[j]? = some r → Value.okWide P W' .any 0 t r) :
    s.post enc P f apart fresh handsOn again W args v W' := by
  have old := fun p (hp : p ∈ before) => hW.lt p hp
  have mark : ∀ p ∈ before, (fun b => decide (b < W.heap.size)) p.block = true := fun p hp => decide_eq_true (old p hp)
  obtain ⟨-, -, -, -, -, hz, hn⟩ := id hW
  subst hps
  refine ⟨ds, gs, pa ++ pv, [], pa, pv, hW, hres _ _ _, hargs _ mark, hvars _ mark, World.keptBut_mono (fun p hp => ⟨hp, Or.inr (List.mem_append.1 hp)⟩) (hb.frame (· ∈ pa ++ pv)), fun _ => ⟨hok, _, _, ([] ++ pa) ++ pv, ⟨[] ++ pa, pv, trodAll_append (hargs _ (fun _ _ => rfl)) (hres _ _ _), hvars _ (fun _ _ => rfl), rfl, fun b off hp => ?_, fun ha => by simpa using hn ha⟩, fun p hp _ => by simpa using hp⟩⟩
  have hin : MemPlace.cell b off ∈ pa ++ pv := by simpa using hp
  exact (hb.frozen (p := ⟨b, off, none⟩) (old _ hin)).trans (hz b off hin)
end
end Go.Proofs.YtbgkbdhdkpjcdaaGreat

namespace Go.Proofs.YtbgkbdhdkpjcdaaGreat
open Go Go.RowKit Go.Proofs Go.ChangeShapes Go.WideShapes Go.ChangeAt Go.Deep
set_option maxRecDepth 100000
set_option maxHeartbeats 4000000

section
variable {H : Type} {enc : TypeId × Value → H} {W : World} {sp : Nat → Bool} {held : Bool}

theorem int_trod {fuel : Nat} {c : Value} {x : DataW H × List MemPlace} (h : DataW.trod enc Tryz.prog W 0 sp held fuel 3 [c] = some x) : ∃ n, c = .int .i64 n ∧ I64 n := by
  obtain ⟨n, e, -, w⟩ := DataW.trod_int Tryz.undInt h
  exact ⟨n, by simpa using e, wf_I64 w⟩
end
end Go.Proofs.YtbgkbdhdkpjcdaaGreat

namespace Go.Proofs.YtbgkbdhdkpjcdaaGreat
open Go Go.RowKit Go.Proofs Go.ChangeShapes Go.WideShapes Go.ChangeAt Go.Deep
set_option maxRecDepth 100000
set_option maxHeartbeats 4000000

/-- The type of a struct's cell, through the structs that lie in it. -/
def leafOf (P : Program) : Nat → TypeId → Nat → Option TypeId
  | 0, _, _ => none
  | f + 1, T, i => match P.underlying T with
    | some (.struct fs) => (List.range fs.size).findSome? fun j => match fieldAt (P.underlying T) j with
      | some (t, o) => if o ≤ i ∧ i < o + P.cellsOf t ∧ o + P.cellsOf t ≤ P.cellsOf T then leafOf P f t (i - o) else none
      | none => none
    | _ => if i = 0 ∧ P.cellsOf T = 1 then some T else none

section
variable {H : Type} {enc : TypeId × Value → H} {W : World} {sp : Nat → Bool} {held : Bool}
theorem one_cell {cs : List Value} (h : cs.length = 1) : cs = [cs.getD 0 undef] := by
  obtain ⟨c, l, rfl, hl⟩ := take1 h
  obtain rfl := List.eq_nil_of_length_eq_zero hl
  rfl
theorem trod_leaf {P : Program} {t : TypeId} : ∀ (f : Nat) (T : TypeId) (i fuel : Nat) (cs : List Value) (x : DataW H × List MemPlace), leafOf P f T i = some t → cs.length = P.cellsOf T →
    DataW.trod enc P W 0 sp held fuel T cs = some x → ∃ m y, DataW.trod enc P W 0 sp held m t [cs.getD i undef] = some y
  | 0, T, i, fuel, cs, x, h, _, _ => by cases h
  | f + 1, T, i, fuel, cs, x, h, hl, ht => by
    unfold leafOf at h
    split at h
    · rename_i fs hu
      obtain ⟨j, -, hj⟩ := List.exists_of_findSome?_eq_some h
      split at hj
      · rename_i t' o hf
        split at hj
        · rename_i hb
          obtain ⟨m, y, hm⟩ := trod_field hf rfl ht
          have hlen : ((cs.drop o).take (P.cellsOf t')).length = P.cellsOf t' := by
            rw [List.length_take, List.length_drop, hl]; omega
          obtain ⟨m2, y2, hm2⟩ := trod_leaf f t' (i - o) m _ y hj hlen hm
          refine ⟨m2, y2, ?_⟩
          have e : ((cs.drop o).take (P.cellsOf t')).getD (i - o) undef = cs.getD i undef := by
            unfold List.getD
            rw [List.getElem?_take_of_lt (by omega), List.getElem?_drop, show o + (i - o) = i by omega]
          rw [← e]; exact hm2
        · cases hj
      · cases hj
    · split at h
      · rename_i hc
        obtain ⟨rfl, h1⟩ := hc
        obtain rfl : T = t := by simpa using h
        rw [h1] at hl
        exact ⟨fuel, x, by rw [← one_cell hl]; exact ht⟩
      · cases h
theorem leaf_int {cs : List Value} {T : TypeId} {fuel : Nat} {x : DataW H × List MemPlace} (hl : cs.length = Tryz.prog.cellsOf T) (ht : DataW.trod enc Tryz.prog W 0 sp held fuel T cs = some x) (i : Nat) (h : leafOf Tryz.prog 9 T i = some 3) :
    ∃ n, cs.getD i undef = .int .i64 n ∧ I64 n := by
  obtain ⟨m, y, hm⟩ := trod_leaf 9 T i fuel cs x h hl ht
  exact int_trod hm
theorem Tryz.undBool : Tryz.prog.underlying 4 = some .bool := by kernel_rfl
theorem leaf_bool {cs : List Value} {T : TypeId} {fuel : Nat} {x : DataW H × List MemPlace} (hl : cs.length = Tryz.prog.cellsOf T) (ht : DataW.trod enc Tryz.prog W 0 sp held fuel T cs = some x) (i : Nat) (h : leafOf Tryz.prog 9 T i = some 4) :
    ∃ b, cs.getD i undef = .bool b := by
  obtain ⟨m, y, hm⟩ := trod_leaf 9 T i fuel cs x h hl ht
  obtain ⟨b, e, -⟩ := DataW.trod_bool Tryz.undBool hm
  exact ⟨b, by simpa using e⟩
theorem list_cells {cs : List Value} {n : Nat} (h : cs.length = n) : cs = (List.range n).map fun i => cs.getD i undef := by
  subst h
  apply List.ext_getElem
  · simp
  · intro i h1 h2
    simp [List.getD, List.getElem?_eq_getElem h1]
/-- A struct of numbers and truths: a number at each place that num says, else a truth. -/
theorem kinds {cs : List Value} {T : TypeId} {fuel n : Nat} {x : DataW H × List MemPlace} (num : Nat → Bool) (hn : Tryz.prog.cellsOf T = n) (hl : cs.length = n) (ht : DataW.trod enc Tryz.prog W 0 sp held fuel T cs = some x)
    (hk : (List.range n).all (fun i => leafOf Tryz.prog 9 T i == some (if num i then 3 else 4)) = true) :
    ∃ (f : Nat → Int) (b : Nat → Bool), (∀ i, i < n → cs.getD i undef = if num i then .int .i64 (f i) else .bool (b i)) ∧ ∀ i, i < n → num i = true → I64 (f i) := by
  have hk' : ∀ i, i < n → leafOf Tryz.prog 9 T i = some (if num i then 3 else 4) := fun i hi => by
    have := List.all_eq_true.1 hk i (List.mem_range.2 hi)
    simpa using this
  have hf : ∀ i, ∃ z : Int, i < n → num i = true → cs.getD i undef = .int .i64 z ∧ I64 z := fun i => by
    by_cases hi : i < n ∧ num i = true
    · have h1 := hk' i hi.1
      rw [hi.2, if_pos rfl] at h1
      obtain ⟨z, e, w⟩ := leaf_int (by rw [hl, hn]) ht i h1
      exact ⟨z, fun _ _ => ⟨e, w⟩⟩
    · exact ⟨0, fun a b => absurd ⟨a, b⟩ hi⟩
  have hb : ∀ i, ∃ z : Bool, i < n → num i = false → cs.getD i undef = .bool z := fun i => by
    by_cases hi : i < n ∧ num i = false
    · have h1 := hk' i hi.1
      rw [hi.2, if_neg (by decide)] at h1
      obtain ⟨z, e⟩ := leaf_bool (by rw [hl, hn]) ht i h1
      exact ⟨z, fun _ _ => e⟩
    · exact ⟨false, fun a b => absurd ⟨a, b⟩ hi⟩
  refine ⟨fun i => (hf i).choose, fun i => (hb i).choose, fun i hi => ?_, fun i hi hn => ((hf i).choose_spec hi hn).2⟩
  cases hn : num i
  · simpa using (hb i).choose_spec hi hn
  · simpa using ((hf i).choose_spec hi hn).1
theorem struct_trod {r : Reach} {b0 n : Nat} {T : TypeId} {v : Value} {d : DataW H} {ps : List MemPlace} {q : TypeId × Nat} (hf : fieldAt (Tryz.prog.underlying T) 0 = some q) (hn : Tryz.prog.cellsOf T = n)
    (hval : Value.okWide Tryz.prog W r b0 T v) (hd : DataW.Trod enc Tryz.prog W 0 sp held T v d ps) :
    ∃ cs : List Value, v = .agg cs.toArray ∧ cs.length = n ∧ ∃ fuel x, DataW.trod enc Tryz.prog W 0 sp held fuel T cs = some x := by
  obtain ⟨fs, hu⟩ := fieldAt_struct hf
  obtain ⟨cs, rfl, hs⟩ := okWide_struct hu hval
  rw [hn] at hs
  obtain ⟨fuel, h⟩ := hd
  exact ⟨cs.toList, by simp, by simpa using hs, fuel, _, h⟩
/-- A slice of structs of numbers and truths. -/
theorem slice_kinds {t e : TypeId} {fuel n : Nat} {c : Value} {x : DataW H × List MemPlace} (num : Nat → Bool) (hu : Tryz.prog.underlying t = some (.slice e)) (hn : Tryz.prog.cellsOf e = n) (h0 : 0 < n)
    (ht : DataW.trod enc Tryz.prog W 0 sp held fuel t [c] = some x) (hk : (List.range n).all (fun i => leafOf Tryz.prog 9 e i == some (if num i then 3 else 4)) = true) :
    ∃ (A : Option Addr) (len cp : Nat) (D : Nat → Nat → Int) (B : Nat → Nat → Bool), c = .slice A len cp ∧ len ≤ cp ∧ cp ≤ 9223372036854775807 ∧ (A = none → cp = 0) ∧ RecsAt W A len n (fun i j => if num j then .int .i64 (D i j) else .bool (B i j)) ∧ ∀ i, i < len → ∀ j, j < n → num j = true → I64 (D i j) := by
  obtain ⟨A, len, cp, V, rfl, h1, h2, h3, h4, h5⟩ := recs_trod hu hn h0 ht
  have hf : ∀ i, i < len → ∃ z : (Nat → Int) × (Nat → Bool), (∀ j, j < n → V i j = if num j then .int .i64 (z.1 j) else .bool (z.2 j)) ∧ ∀ j, j < n → num j = true → I64 (z.1 j) := fun i hi => by
    obtain ⟨m, y, hm⟩ := h5 i hi
    obtain ⟨f, b, hfb, hi64⟩ := kinds num hn (by simp) hm hk
    refine ⟨(f, b), fun j hj => ?_, hi64⟩
    rw [← hfb j hj]
    simp [List.getD, hj]
  obtain ⟨Z, hZ⟩ := choose_lt hf
  refine ⟨A, len, cp, fun i => (Z i).1, fun i => (Z i).2, rfl, h1, h2, h3, fun hp => ?_, fun i hi j hj hn => (hZ i hi).2 j hj hn⟩
  obtain ⟨b, off, hA, hlt, hc⟩ := h4 hp
  exact ⟨b, off, hA, hlt, fun k hk j hj => by rw [hc k hk j hj, (hZ k hk).1 j hj]⟩
end
end Go.Proofs.YtbgkbdhdkpjcdaaGreat

namespace Go.Proofs.YtbgkbdhdkpjcdaaGreat
open Go Go.RowKit Go.Proofs Go.ChangeShapes Go.WideShapes Go.ChangeAt Go.Deep
set_option maxRecDepth 100000
set_option maxHeartbeats 4000000

section
variable {H : Type} {enc : TypeId × Value → H} {W : World} {sp : Nat → Bool} {held : Bool}
theorem fcs_trod {fuel : Nat} {c : Value} {x : DataW H × List MemPlace} (ht : DataW.trod enc Tryz.prog W 0 sp held fuel 26 [c] = some x) :
    ∃ (A : Option Addr) (n cp : Nat) (D : Nat → Nat → Int) (B : Nat → Nat → Bool), c = .slice A n cp ∧ n ≤ cp ∧ cp ≤ 9223372036854775807 ∧ RecsAt W A n 12 (fcV D B) := by
  obtain ⟨A, n, cp, D, B, rfl, h1, h2, h3, h4, -⟩ := slice_kinds (e := 77) (n := 12) (fun j => decide (j < 10)) (by kernel_rfl) (by kernel_rfl) (Nat.succ_pos _) ht (by kernel_rfl)
  refine ⟨A, n, cp, D, B, rfl, h1, h2, ?_⟩
  have e : fcV D B = fun i j => if (fun j => decide (j < 10)) j = true then .int .i64 (D i j) else .bool (B i j) := by
    funext i j; unfold fcV; by_cases h : j < 10 <;> simp [h]
  rw [e]; exact h4
theorem sis_trod {fuel : Nat} {c : Value} {x : DataW H × List MemPlace} (ht : DataW.trod enc Tryz.prog W 0 sp held fuel 27 [c] = some x) :
    ∃ (A : Option Addr) (n cp : Nat) (D : Nat → Nat → Int) (B : Nat → Nat → Bool), c = .slice A n cp ∧ n ≤ cp ∧ cp ≤ 9223372036854775807 ∧ RecsAt W A n 7 (siV D B) := by
  obtain ⟨A, n, cp, D, B, rfl, h1, h2, h3, h4, -⟩ := slice_kinds (e := 79) (n := 7) (fun j => decide (j < 5)) (by kernel_rfl) (by kernel_rfl) (Nat.succ_pos _) ht (by kernel_rfl)
  refine ⟨A, n, cp, D, B, rfl, h1, h2, ?_⟩
  have e : siV D B = fun i j => if (fun j => decide (j < 5)) j = true then .int .i64 (D i j) else .bool (B i j) := by
    funext i j; unfold siV; by_cases h : j < 5 <;> simp [h]
  rw [e]; exact h4
end
end Go.Proofs.YtbgkbdhdkpjcdaaGreat

namespace Go.Proofs.YtbgkbdhdkpjcdaaGreat
open Go Go.RowKit Go.Proofs Go.ChangeShapes Go.WideShapes Go.ChangeAt Go.Deep
set_option maxRecDepth 100000
set_option maxHeartbeats 4000000
section
variable {H : Type} {enc : TypeId × Value → H} {W : World} {sp : Nat → Bool} {held : Bool}
theorem legs_trod {fuel : Nat} {c : Value} {x : DataW H × List MemPlace} (ht : DataW.trod enc Tryz.prog W 0 sp held fuel 32 [c] = some x) :
    ∃ (A : Option Addr) (n cp : Nat) (S : Nat → Nat → Int), c = .slice A n cp ∧ n ≤ cp ∧ cp ≤ 9223372036854775807 ∧ RecsAt W A n 3 (nV S) := by
  obtain ⟨A, n, cp, D, B, rfl, h1, h2, h3, h4, -⟩ := slice_kinds (e := 69) (n := 3) (fun _ => true) (by kernel_rfl) (by kernel_rfl) (Nat.succ_pos _) ht (by kernel_rfl)
  exact ⟨A, n, cp, D, rfl, h1, h2, h4⟩
theorem route_trod {fuel : Nat} {c : Value} {x : DataW H × List MemPlace} (ht : DataW.trod enc Tryz.prog W 0 sp held fuel 35 [c] = some x) :
    ∃ (n : Nat) (R : Nat → Int), SlI W c n R := by
  obtain ⟨A, n, cp, D, B, rfl, h1, h2, h3, h4, -⟩ := slice_kinds (e := 3) (n := 1) (fun _ => true) (by kernel_rfl) (by kernel_rfl) (Nat.succ_pos _) ht (by kernel_rfl)
  refine ⟨n, fun i => D i 0, A, cp, rfl, h1, h2, fun hp => ?_⟩
  obtain ⟨b, off, e1, e2, e3⟩ := h4 hp
  refine ⟨b, off, e1, e2, fun i hi j hj => ?_⟩
  rw [e3 i hi j hj]
  obtain rfl : j = 0 := by omega
  rfl
theorem plan_trod {r : Reach} {b0 : Nat} {v : Value} {d : DataW H} {ps : List MemPlace} (hval : Value.okWide Tryz.prog W r b0 34 v) (hd : DataW.Trod enc Tryz.prog W 0 sp held 34 v d ps) :
    ∃ (M : MetD) (vF vS : Value) (lw ls lc : Int) (li lb : Bool) (A : Option Addr) (n c : Nat) (S : Tab), v = .agg #[.int .i64 M.places, .int .i64 M.any.a0, .int .i64 M.any.a1, .int .i64 M.any.a2, .int .i64 M.any.a3, .int .i64 M.any.a4, .int .i64 M.any.a5, .bool M.any.i, .bool M.any.s, .int .i64 M.mw, .int .i64 M.ms, .int .i64 M.mc, vF, vS, .int .i64 lw, .int .i64 ls, .int .i64 lc, .bool li, .bool lb, .slice A n c] ∧ MetAt W vF vS M ∧ n ≤ c ∧ c ≤ 9223372036854775807 ∧ RecsAt W A n 3 (nV S) := by
  obtain ⟨cs, rfl, hl, fuel, x, ht⟩ := struct_trod (q := (29, 0)) (n := 20) (by kernel_rfl) (by kernel_rfl) hval hd
  have hl' : cs.length = Tryz.prog.cellsOf 34 := hl.trans (by kernel_rfl)
  obtain ⟨n0, e0, -⟩ := leaf_int hl' ht 0 (by kernel_rfl)
  obtain ⟨n1, e1, -⟩ := leaf_int hl' ht 1 (by kernel_rfl)
  obtain ⟨n2, e2, -⟩ := leaf_int hl' ht 2 (by kernel_rfl)
  obtain ⟨n3, e3, -⟩ := leaf_int hl' ht 3 (by kernel_rfl)
  obtain ⟨n4, e4, -⟩ := leaf_int hl' ht 4 (by kernel_rfl)
  obtain ⟨n5, e5, -⟩ := leaf_int hl' ht 5 (by kernel_rfl)
  obtain ⟨n6, e6, -⟩ := leaf_int hl' ht 6 (by kernel_rfl)
  obtain ⟨b7, e7⟩ := leaf_bool hl' ht 7 (by kernel_rfl)
  obtain ⟨b8, e8⟩ := leaf_bool hl' ht 8 (by kernel_rfl)
  obtain ⟨n9, e9, -⟩ := leaf_int hl' ht 9 (by kernel_rfl)
  obtain ⟨n10, e10, -⟩ := leaf_int hl' ht 10 (by kernel_rfl)
  obtain ⟨n11, e11, -⟩ := leaf_int hl' ht 11 (by kernel_rfl)
  obtain ⟨m12, y12, h12⟩ := trod_leaf (t := 26) 9 _ 12 fuel cs x (by kernel_rfl) hl' ht
  obtain ⟨A12, l12, c12, X12, B12, e12, p12, q12, r12⟩ := fcs_trod h12
  obtain ⟨m13, y13, h13⟩ := trod_leaf (t := 27) 9 _ 13 fuel cs x (by kernel_rfl) hl' ht
  obtain ⟨A13, l13, c13, X13, B13, e13, p13, q13, r13⟩ := sis_trod h13
  obtain ⟨n14, e14, -⟩ := leaf_int hl' ht 14 (by kernel_rfl)
  obtain ⟨n15, e15, -⟩ := leaf_int hl' ht 15 (by kernel_rfl)
  obtain ⟨n16, e16, -⟩ := leaf_int hl' ht 16 (by kernel_rfl)
  obtain ⟨b17, e17⟩ := leaf_bool hl' ht 17 (by kernel_rfl)
  obtain ⟨b18, e18⟩ := leaf_bool hl' ht 18 (by kernel_rfl)
  obtain ⟨m19, y19, h19⟩ := trod_leaf (t := 32) 9 _ 19 fuel cs x (by kernel_rfl) hl' ht
  obtain ⟨A19, l19, c19, X19, e19, p19, q19, r19⟩ := legs_trod h19
  refine ⟨⟨n0, ⟨n1, n2, n3, n4, n5, n6, b7, b8⟩, n9, n10, n11, l12, X12, B12, l13, X13, B13⟩, .slice A12 l12 c12, .slice A13 l13 c13, n14, n15, n16, b17, b18, A19, l19, c19, X19, ?_, ⟨⟨_, _, rfl, p12, q12, r12⟩, ⟨_, _, rfl, p13, q13, r13⟩⟩, p19, q19, r19⟩
  rw [list_cells hl]
  simp only [show List.range 20 = [0, 1, 2, 3, 4, 5, 6, 7, 8, 9, 10, 11, 12, 13, 14, 15, 16, 17, 18, 19] from rfl, List.map_cons, List.map_nil, e0, e1, e2, e3, e4, e5, e6, e7, e8, e9, e10, e11, e12, e13, e14, e15, e16, e17, e18, e19]
theorem flight_trod {r : Reach} {b0 : Nat} {v : Value} {d : DataW H} {ps : List MemPlace} (hval : Value.okWide Tryz.prog W r b0 37 v) (hd : DataW.Trod enc Tryz.prog W 0 sp held 37 v d ps) :
    ∃ (F : FliD) (vR : Value), v = .agg #[vR, .int .i64 F.dep, .int .i64 F.fuel, .int .i64 F.burn, .int .i64 F.res] ∧ SlI W vR F.m F.R ∧ I64 F.dep ∧ I64 F.fuel ∧ I64 F.burn ∧ I64 F.res := by
  obtain ⟨cs, rfl, hl, fuel, x, ht⟩ := struct_trod (q := (35, 0)) (n := 5) (by kernel_rfl) (by kernel_rfl) hval hd
  have hl' : cs.length = Tryz.prog.cellsOf 37 := hl.trans (by kernel_rfl)
  obtain ⟨m0, y0, h0⟩ := trod_leaf (t := 35) 9 _ 0 fuel cs x (by kernel_rfl) hl' ht
  obtain ⟨l0, X0, hR⟩ := route_trod h0
  obtain ⟨n1, e1, w1⟩ := leaf_int hl' ht 1 (by kernel_rfl)
  obtain ⟨n2, e2, w2⟩ := leaf_int hl' ht 2 (by kernel_rfl)
  obtain ⟨n3, e3, w3⟩ := leaf_int hl' ht 3 (by kernel_rfl)
  obtain ⟨n4, e4, w4⟩ := leaf_int hl' ht 4 (by kernel_rfl)
  refine ⟨⟨l0, X0, n1, n2, n3, n4⟩, cs.getD 0 undef, ?_, hR, w1, w2, w3, w4⟩
  conv => lhs; rw [list_cells hl]
  simp only [show List.range 5 = [0, 1, 2, 3, 4] from rfl, List.map_cons, List.map_nil, e1, e2, e3, e4]
end
end Go.Proofs.YtbgkbdhdkpjcdaaGreat
