/- What a rotor among the arguments reads as. -/
import Derived.Test.YtfcjblnebaemgaaGreatKR
import Derived.OpenShut
import Derived.Deep.Slices
import Derived.ChangeArms
import Derived.ChangeSlices
import Derived.WideShapes
import Derived.Test.YtfcjblnebaemgaaGreatRows
import Derived.WalkKit
import Derived.ProofKit
import Derived.Below
import Derived.Carry
import Derived.ChangeSame
set_option linter.all false
namespace Go.Proofs.YtfcjblnebaemgaaGreat
open Go Go.RowKit Go.Proofs Go.ChangeShapes Go.WideShapes Go.ChangeAt Go.Deep
set_option maxRecDepth 100000
set_option maxHeartbeats 4000000

theorem Tryz.undInt : Tryz.prog.underlying 3 = some (.int .i64) := by kernel_rfl
theorem Tryz.celInt : Tryz.prog.cellsOf 3 = 1 := by kernel_rfl
theorem Tryz.celInts : Tryz.prog.cellsOf 56 = 1 := by kernel_rfl

section
variable {H : Type} {enc : TypeId × Value → H} {W : World} {sp : Nat → Bool} {held : Bool}

theorem wf_I64 {n : Int} (h : (Lit.int .i64 n).wf = true) : I64 n := by
  exact bounds_i64 h

theorem ints_trod {fuel : Nat} {c : Value} {x : DataW H × List MemPlace} (h : DataW.trod enc Tryz.prog W 0 sp held fuel 56 [c] = some x) : ∃ xs, Ints W c xs := by
  rcases open_ints Tryz.undInts Tryz.undInt Tryz.celInt h with ⟨e, -⟩ | ⟨a, len, cap, zs, e, -, h1, h2, h3, -, h4, h5⟩
  · obtain rfl : c = .slice none 0 0 := by simpa using e
    exact ⟨[], none, 0, rfl, Nat.le_refl _, by omega, fun x hx => by simp at hx, fun hp => by simp at hp⟩
  · obtain rfl : c = .slice (some a) len cap := by simpa using e
    have hl : len ≤ zs.length := by rw [h3]; split <;> omega
    have hlen : (zs.take len).length = len := by simp; omega
    refine ⟨zs.take len, some a, cap, by rw [hlen], by omega, by unfold maxLen at h2; omega, fun x hx => wf_I64 (h5 x (List.mem_of_mem_take hx)), fun hp => ?_⟩
    rw [hlen] at hp
    obtain ⟨b, off, spot⟩ := a
    have hspot : spot = none := by simpa [Addr.add] using World.cell?_spot (h4 0 (by omega))
    subst hspot
    refine ⟨b, off, rfl, ?_, fun k hk => ?_⟩
    · have := World.block_lt_of_cell? W _ (h4 0 (by omega)); simpa [Addr.add] using this
    · rw [hlen] at hk
      have := h4 k (by omega)
      have hadd : (⟨b, off, none⟩ : Addr).add k = ⟨b, off + k, none⟩ := by unfold Addr.add; split <;> simp_all
      rw [hadd] at this
      rw [this]
      congr 2
      rw [nth_getElem _ _ (by rw [hlen]; exact hk)]
      simp [List.getD, List.getElem?_eq_getElem (show k < zs.length by omega)]

end
end Go.Proofs.YtfcjblnebaemgaaGreat

/- A rotor among the arguments: its cells and tables. -/
namespace Go.Proofs.YtfcjblnebaemgaaGreat
open Go Go.RowKit Go.Proofs Go.ChangeShapes Go.WideShapes Go.ChangeAt Go.Deep
set_option maxRecDepth 100000
set_option maxHeartbeats 4000000

def fieldAt (d : Option TypeDesc) (i : Nat) : Option (TypeId × Nat) := match d with | some (.struct fs) => fs[i]?.map (fun f => (f.type, f.offset)) | _ => none
theorem fieldAt_struct {P : Program} {T : TypeId} {i : Nat} {r : TypeId × Nat} (h : fieldAt (P.underlying T) i = some r) : ∃ fs, P.underlying T = some (.struct fs) := by
  unfold fieldAt at h; split at h
  · rename_i fs e; exact ⟨fs, e⟩
  · exact absurd h (by simp)

section
variable {H : Type} {enc : TypeId × Value → H} {W : World} {sp : Nat → Bool} {held : Bool}

theorem trod_field {P : Program} {fuel : Nat} {T t : TypeId} {o k i : Nat} {cs : List Value} {x : DataW H × List MemPlace} (hf : fieldAt (P.underlying T) i = some (t, o)) (hk : P.cellsOf t = k)
    (h : DataW.trod enc P W 0 sp held fuel T cs = some x) : ∃ m y, DataW.trod enc P W 0 sp held m t ((cs.drop o).take k) = some y := by
  obtain ⟨fs, hu⟩ := fieldAt_struct hf
  obtain ⟨xs, m, -, -, -, hl, hg⟩ := DataW.trod_struct hu h
  rw [hu] at hf
  simp only [fieldAt, Option.map_eq_some_iff, Prod.mk.injEq] at hf
  obtain ⟨f, hfi, e1, e2⟩ := hf
  have := hg i f hfi
  rw [e1, e2, hk] at this
  have hlt : i < xs.length := by rw [hl]; exact (Array.getElem?_eq_some_iff.1 hfi).1
  exact ⟨m, xs[i], by rw [this, List.getElem?_eq_getElem hlt]⟩

theorem take1 {n : Nat} {l : List Value} (h : l.length = n + 1) : ∃ c l', l = c :: l' ∧ l'.length = n := by
  cases l with
  | nil => simp at h
  | cons c l' => exact ⟨c, l', rfl, by simpa using h⟩

theorem rotor_cells {l : List Value} (h : l.length = 26) : ∃ hx hy hv gx gy gv lx ly lv px py pv nx ny nv ax ay av cx cy cv dx dy dv cc cb, l = [hx, hy, hv, gx, gy, gv, lx, ly, lv, px, py, pv, nx, ny, nv, ax, ay, av, cx, cy, cv, dx, dy, dv, cc, cb] := by
  have h0 := h
  obtain ⟨hx, l1, rfl, h1⟩ := take1 h0
  obtain ⟨hy, l2, rfl, h2⟩ := take1 h1
  obtain ⟨hv, l3, rfl, h3⟩ := take1 h2
  obtain ⟨gx, l4, rfl, h4⟩ := take1 h3
  obtain ⟨gy, l5, rfl, h5⟩ := take1 h4
  obtain ⟨gv, l6, rfl, h6⟩ := take1 h5
  obtain ⟨lx, l7, rfl, h7⟩ := take1 h6
  obtain ⟨ly, l8, rfl, h8⟩ := take1 h7
  obtain ⟨lv, l9, rfl, h9⟩ := take1 h8
  obtain ⟨px, l10, rfl, h10⟩ := take1 h9
  obtain ⟨py, l11, rfl, h11⟩ := take1 h10
  obtain ⟨pv, l12, rfl, h12⟩ := take1 h11
  obtain ⟨nx, l13, rfl, h13⟩ := take1 h12
  obtain ⟨ny, l14, rfl, h14⟩ := take1 h13
  obtain ⟨nv, l15, rfl, h15⟩ := take1 h14
  obtain ⟨ax, l16, rfl, h16⟩ := take1 h15
  obtain ⟨ay, l17, rfl, h17⟩ := take1 h16
  obtain ⟨av, l18, rfl, h18⟩ := take1 h17
  obtain ⟨cx, l19, rfl, h19⟩ := take1 h18
  obtain ⟨cy, l20, rfl, h20⟩ := take1 h19
  obtain ⟨cv, l21, rfl, h21⟩ := take1 h20
  obtain ⟨dx, l22, rfl, h22⟩ := take1 h21
  obtain ⟨dy, l23, rfl, h23⟩ := take1 h22
  obtain ⟨dv, l24, rfl, h24⟩ := take1 h23
  obtain ⟨cc, l25, rfl, h25⟩ := take1 h24
  obtain ⟨cb, l26, rfl, h26⟩ := take1 h25
  obtain rfl := List.eq_nil_of_length_eq_zero h26
  exact ⟨_, _, _, _, _, _, _, _, _, _, _, _, _, _, _, _, _, _, _, _, _, _, _, _, _, _, rfl⟩

end
end Go.Proofs.YtfcjblnebaemgaaGreat

/- The end of a row whose call leaves a world that has grown: the arguments read as they did. -/
namespace Go.Proofs.YtfcjblnebaemgaaGreat
open Go Go.RowKit Go.Proofs Go.ChangeShapes Go.WideShapes Go.ChangeAt

theorem Tryz.laidOut' : laidOutB Tryz.prog = true := by kernel_rfl

section
variable {H : Type} {enc : TypeId × Value → H} {P : Program}
theorem post_kept {f : Func} {s : ChangeSpec} {apart fresh handsOn again : Bool} {W W' : World} {args : Array Value} {v : Value} {ds gs : List (DataW H)} {before pa pv : List MemPlace}
    (hW : DataW.Whole enc P f.params.toList s.vars apart W args.toList ds gs before) (hb : Below W.heap.size W W')
    (hres : ∀ (b : Nat) (sp : Nat → Bool) (hd : Bool), DataW.TrodAll enc P W' b sp hd f.resultTypes.toList (v.resultList f.resultTypes.size) (s.fn H (ds ++ gs)).results [])
    (hargs : ∀ sp : Nat → Bool, (∀ p ∈ before, sp p.block = true) → DataW.TrodAll enc P W' 0 sp true f.params.toList args.toList (s.fn H (ds ++ gs)).args pa)
    (hvars : ∀ sp : Nat → Bool, (∀ p ∈ before, sp p.block = true) → DataW.TrodVars enc P W' sp s.vars (s.fn H (ds ++ gs)).vars pv)
    (hps : before = pa ++ pv)
    (hok : ∀ (j : Nat) (t : TypeId) (r : Value), f.resultTypes[j]? = some t → (v.resultList f.resultTypes.size)[j]? = some r → Value.okWide P W' .any 0 t r) :
    s.post enc P f apart fresh handsOn again W args v W' := by
  have old := fun p (hp : p ∈ before) => hW.lt p hp
  have mark : ∀ p ∈ before, (fun b => decide (b < W.heap.size)) p.block = true := fun p hp => decide_eq_true (old p hp)
  obtain ⟨-, -, -, -, -, hz, hn⟩ := id hW
  subst hps
  refine ⟨ds, gs, pa ++ pv, [], pa, pv, hW, hres _ _ _, hargs _ mark, hvars _ mark, World.keptBut_mono (fun p hp => ⟨hp, Or.inr (List.mem_append.1 hp)⟩) (hb.frame (· ∈ pa ++ pv)), fun _ => ⟨hok, _, _, ([] ++ pa) ++ pv, ⟨[] ++ pa, pv, trodAll_append (hargs _ (fun _ _ => rfl)) (hres _ _ _), hvars _ (fun _ _ => rfl), rfl, fun b off hp => ?_, fun ha => by simpa using hn ha⟩, fun p hp _ => by simpa using hp⟩⟩
  have hin : MemPlace.cell b off ∈ pa ++ pv := by simpa using hp
  exact (hb.frozen (p := ⟨b, off, none⟩) (old _ hin)).trans (hz b off hin)
end
end Go.Proofs.YtfcjblnebaemgaaGreat
