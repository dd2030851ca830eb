/- Texts joined: JAQ. -/
import Derived.Test.YtafkifjebimdaaaGreatJAP
import Derived.Test.YtafkifjebimdaaaGreatDkS
import Derived.Test.YtafkifjebimdaaaGreatBas
import Derived.Test.YtafkifjebimdaaaGreatJAB
import Derived.Deep.WholeRow
import Derived.OpenShut
import Derived.Deep.Slices
import Derived.ChangeArms
import Derived.ChangeSlices
import Derived.WideShapes
import Derived.Test.YtafkifjebimdaaaGreatRows
import Derived.WalkKit
import Derived.ProofKit
import Derived.Below
import Derived.Carry
import Derived.ChangeSame
import Derived.Test.YtafkifjebimdaaaGreatJAE
import Derived.Test.YtafkifjebimdaaaGreatWeG
set_option linter.all false
namespace Go.Proofs.YtafkifjebimdaaaGreat
open Go Go.RowKit Go.Proofs
set_option maxRecDepth 100000
set_option maxHeartbeats 8000000

theorem MetAt.alloc {w : World} {vF vS : Value} {M : MetD} (h : MetAt w vF vS M) (o : Obj) : MetAt (w.alloc o) vF vS M := h.below (bal (Below.refl _ _) _)
end Go.Proofs.YtafkifjebimdaaaGreat

namespace Go.Proofs.YtafkifjebimdaaaGreat
open Go Go.RowKit Go.Proofs
theorem oneP (D : DekD) (M : MetD) (Mo : MovD) (A1 A2 A3 A4 A5 A6 A7 A8 : Option Addr) (k1 k2 k3 k4 k5 k6 k7 k8 : Nat) : (#[.int .i64 D.size, .int .i64 D.load, .int .i64 D.wind, .slice A1 D.ns k1, .int .i64 D.pitch, .int .i64 D.roll, .int .i64 D.heave, .int .i64 D.fire, .slice A2 D.nh k2, .slice A3 D.nu k3, .int .i64 M.places, .int .i64 M.any.a0, .int .i64 M.any.a1, .int .i64 M.any.a2, .int .i64 M.any.a3, .int .i64 M.any.a4, .int .i64 M.any.a5, .bool M.any.i, .bool M.any.s, .int .i64 M.mw, .int .i64 M.ms, .int .i64 M.mc, .slice A4 M.n k4, .slice A5 M.m k5, .slice A6 Mo.np k6, .slice A7 Mo.nr k7, .slice A8 Mo.nv k8] : Array Value).all (·.oneCell') = true := by simp [Value.oneCell']
theorem DekAt.alloc {w : World} {vA vB vC : Value} {D : DekD} (h : DekAt w vA vB vC D) (o : Obj) : DekAt (w.alloc o) vA vB vC D := h.below (bal (Below.refl _ _) o)
theorem MovAt.alloc {w : World} {vP vR vV : Value} {Mo : MovD} (h : MovAt w vP vR vV Mo) (o : Obj) : MovAt (w.alloc o) vP vR vV Mo := h.below (bal (Below.refl _ _) o)
theorem caE_mk {D : DekD} {M : MetD} {Mo : MovD} {a : AppD} {r : Bool} (h1 : scE D M Mo = 0) (h2 : appE M a = 0) (h3 : r = true) : caE D M Mo a r = 0 := by
  unfold caE
  rw [if_pos h1, if_pos h2, if_pos h3]
section
variable {P : Program} {ops : Array Oper} {rest : List Oper} {o : Oper} {a : Act} {w : World}
theorem wpl_mid_g {Q : Exit → Act → World → Prop} (hgd : Region.wanted o (yielded ops a.tmps) = true) (ty : TypeId) (x : Operand) (ho : o.op = .load ty x)
    (g off : Nat) (hx : a.eval x = .pointer (some ⟨g, off, none⟩)) (tb : TypeId) (big cs : Array Value) (n : Nat) (hB : w.heap[g]? = some (.cells big tb (0, 0)))
    (hr : RowTy P ty n) (pre post : List Value) (hpre : pre.length = off) (hcs : big.toList = pre ++ (cs.toList ++ post)) (hn : cs.size = n)
    (h : wpList P ops Q rest (a.put o.dst (.agg cs)) w) : wpList P ops Q (o :: rest) a w := by
  refine wpList_step fun K hK => ?_
  simp only [hgd, if_true]
  unfold Oper.wp execOp
  simp only [ho, hx, Instr.loadAt, Instr.sureAddr, Sem.run_bind, Sem.run_pure, Result.andThen_ok, run_mid hB hr pre post hpre hcs hn, Oper.upon]
  exact hK _ _ h
end
end Go.Proofs.YtafkifjebimdaaaGreat

namespace Go.Proofs.YtafkifjebimdaaaGreat
open Go Go.RowKit Go.Proofs

section
variable {P : Program} {ops : Array Oper} {rest : List Oper} {o : Oper} {a : Act} {w : World}
theorem wpl_row_g {Q : Exit → Act → World → Prop} (hgd : Region.wanted o (yielded ops a.tmps) = true) (ty : TypeId) (x : Operand) (ho : o.op = .load ty x)
    (g : Nat) (hx : a.eval x = .pointer (some ⟨g, 0, none⟩)) (cs : Array Value) (n : Nat) (hB : w.heap[g]? = some (.cells cs ty (0, 0)))
    (hr : RowTy P ty n) (hn : cs.size = n)
    (h : wpList P ops Q rest (a.put o.dst (.agg cs)) w) : wpList P ops Q (o :: rest) a w := by
  obtain ⟨hu, hi⟩ := hr
  cases hd : P.underlying ty with
  | none => rw [hd] at hu; cases hu
  | some d =>
    rw [hd] at hu
    refine wpList_step fun K hK => ?_
    simp only [hgd, if_true]
    unfold Oper.wp execOp
    simp only [ho, hx, Instr.loadAt, Instr.sureAddr, Sem.run_bind, Sem.run_pure, Result.andThen_ok, run_loadVar_row w g ty ty cs (0, 0) d hB hd (by cases d <;> first | rfl | (simp at hu)) (by rw [hi, hn]), Oper.upon]
    exact hK _ _ h
end
end Go.Proofs.YtafkifjebimdaaaGreat

namespace Go.Proofs.YtafkifjebimdaaaGreat
open Go Go.RowKit Go.Proofs

/-- The first start of so many ticks that are all free (fuel, tick, free ticks before it). -/
def bkR (ok : Int → Bool) (stay : Int) : Nat → Int → Int → Int
  | 0, _, _ => -1
  | r + 1, t, c => if ok t then (if c + 1 = stay then t - stay + 1 else bkR ok stay r (t + 1) (c + 1)) else bkR ok stay r (t + 1) 0
def bkV (ok : Int → Bool) (at0 stay : Int) : Int := bkR ok stay (2001 - at0).toNat at0 0
/-- A tick belongs to one of some bookings (start, stay). -/
def tkB (o : List (Int × Int)) (t : Int) : Bool := o.any fun p => decide (0 ≤ p.1) && (decide (p.1 ≤ t) && decide (t < p.1 + p.2))
def bkOk (D : DekD) (M : MetD) (Mo : MovD) (o : List (Int × Int)) (a : AppD) (t : Int) : Bool := !tkB o t && decide (whyN D M Mo a t = 0)
/-- The approach of a booking, out of its numbers and truths. -/
def apK (T : Nat → Nat → Int) (B : Nat → Nat → Bool) (k : Nat) : AppD := ⟨T k 2, T k 3, T k 4, T k 5, T k 6, B k 7, B k 8, T k 9, T k 10, T k 11⟩
/-- What the first k bookings get. -/
def bkL (D : DekD) (M : MetD) (Mo : MovD) (T : Nat → Nat → Int) (B : Nat → Nat → Bool) : Nat → List (Int × Int)
  | 0 => []
  | k + 1 => bkL D M Mo T B k ++ [(bkV (bkOk D M Mo (bkL D M Mo T B k) (apK T B k)) (T k 0) (T k 1), T k 1)]
def bkO (D : DekD) (M : MetD) (Mo : MovD) (T : Nat → Nat → Int) (B : Nat → Nat → Bool) (k : Nat) : Int := bkV (bkOk D M Mo (bkL D M Mo T B k) (apK T B k)) (T k 0) (T k 1)
theorem bkL_succ (D : DekD) (M : MetD) (Mo : MovD) (T : Nat → Nat → Int) (B : Nat → Nat → Bool) (k : Nat) : bkL D M Mo T B (k + 1) = bkL D M Mo T B k ++ [(bkO D M Mo T B k, T k 1)] := rfl
theorem tkB_snoc (o : List (Int × Int)) (p : Int × Int) (t : Int) : tkB (o ++ [p]) t = (tkB o t || (decide (0 ≤ p.1) && (decide (p.1 ≤ t) && decide (t < p.1 + p.2)))) := by
  unfold tkB
  rw [List.any_append]
  simp
theorem tkB_bkL (D : DekD) (M : MetD) (Mo : MovD) (T : Nat → Nat → Int) (B : Nat → Nat → Bool) (t : Int) : ∀ k : Nat, tkB (bkL D M Mo T B k) t = (List.range k).any fun j => decide (0 ≤ bkO D M Mo T B j) && (decide (bkO D M Mo T B j ≤ t) && decide (t < bkO D M Mo T B j + T j 1))
  | 0 => rfl
  | k + 1 => by
    rw [bkL_succ, tkB_snoc, tkB_bkL D M Mo T B t k, List.range_succ, List.any_append]
    simp
theorem bkR_spec {ok : Int → Bool} {stay at0 : Int} (hs : 1 ≤ stay) : ∀ (r : Nat) (t c : Int), t + r = 2001 → 0 ≤ c → c < stay → at0 ≤ t - c → (∀ m, t - c ≤ m → m < t → ok m = true) → (∀ s, at0 ≤ s → s < t - c → ∃ m, s ≤ m ∧ m < s + stay ∧ ok m = false) →
    bkR ok stay r t c = -1 ∨ (at0 ≤ bkR ok stay r t c ∧ bkR ok stay r t c + stay ≤ 2001 ∧ (∀ m, bkR ok stay r t c ≤ m → m < bkR ok stay r t c + stay → ok m = true) ∧ ∀ s, at0 ≤ s → s < bkR ok stay r t c → ∃ m, s ≤ m ∧ m < s + stay ∧ ok m = false)
  | 0, t, c, _, _, _, _, _, _ => Or.inl rfl
  | r + 1, t, c, h1, h2, h3, h4, h5, h6 => by
    unfold bkR
    split
    · rename_i ho
      split
      · rename_i hc
        refine Or.inr ⟨by omega, by omega, fun m q1 q2 => ?_, fun s q1 q2 => h6 s q1 (by omega)⟩
        by_cases e : m = t
        · rw [e]; exact ho
        · exact h5 m (by omega) (by omega)
      · rename_i hc
        refine bkR_spec hs r (t + 1) (c + 1) (by omega) (by omega) (by omega) (by omega) (fun m q1 q2 => ?_) (fun s q1 q2 => h6 s q1 (by omega))
        by_cases e : m = t
        · rw [e]; exact ho
        · exact h5 m (by omega) (by omega)
    · rename_i ho
      refine bkR_spec hs r (t + 1) 0 (by omega) (by omega) (by omega) (by omega) (fun m q1 q2 => by omega) (fun s q1 q2 => ?_)
      by_cases e : s < t - c
      · exact h6 s q1 e
      · exact ⟨t, by omega, by omega, by simpa using ho⟩
theorem bkV_spec {ok : Int → Bool} {stay at0 : Int} (hs : 1 ≤ stay) (h0 : at0 ≤ 2000) :
    bkV ok at0 stay = -1 ∨ (at0 ≤ bkV ok at0 stay ∧ bkV ok at0 stay + stay ≤ 2001 ∧ (∀ m, bkV ok at0 stay ≤ m → m < bkV ok at0 stay + stay → ok m = true) ∧ ∀ s, at0 ≤ s → s < bkV ok at0 stay → ∃ m, s ≤ m ∧ m < s + stay ∧ ok m = false) :=
  bkR_spec hs _ at0 0 (by omega) (by omega) (by omega) (by omega) (fun m q1 q2 => by omega) (fun s q1 q2 => by omega)
/-- A booking that Book accepts. -/
def bkGood (M : MetD) (T : Nat → Nat → Int) (B : Nat → Nat → Bool) (k : Nat) : Bool := decide (appE M (apK T B k) = 0) && (inB (T k 0) 0 2000 && inB (T k 1) 1 100)
def bookE (D : DekD) (M : MetD) (Mo : MovD) (T : Nat → Nat → Int) (B : Nat → Nat → Bool) (n : Nat) : Int :=
  if scE D M Mo = 0 then (if 20 < n then 2 else if (List.range n).all (bkGood M T B) then 0 else 62) else scE D M Mo
theorem bookE_ok {D : DekD} {M : MetD} {Mo : MovD} {T : Nat → Nat → Int} {B : Nat → Nat → Bool} {n : Nat} (h : bookE D M Mo T B n = 0) :
    scE D M Mo = 0 ∧ n ≤ 20 ∧ ∀ k, k < n → appE M (apK T B k) = 0 ∧ (0 ≤ T k 0 ∧ T k 0 ≤ 2000) ∧ 1 ≤ T k 1 ∧ T k 1 ≤ 100 := by
  unfold bookE at h
  by_cases h1 : scE D M Mo = 0
  · rw [if_pos h1] at h
    by_cases h2 : 20 < n
    · rw [if_pos h2] at h; cases h
    · rw [if_neg h2] at h
      cases h3 : (List.range n).all (bkGood M T B)
      · rw [h3] at h; cases h
      · refine ⟨h1, by omega, fun k hk => ?_⟩
        have := List.all_eq_true.1 h3 k (List.mem_range.2 hk)
        unfold bkGood at this
        simp only [Bool.and_eq_true, decide_eq_true_eq, inB_iff] at this
        exact this
  · rw [if_neg h1] at h; exact absurd h h1
theorem bookE_mono {D : DekD} {M : MetD} {Mo : MovD} {T : Nat → Nat → Int} {B : Nat → Nat → Bool} {n m : Nat} (h : bookE D M Mo T B n = 0) (hm : m ≤ n) : bookE D M Mo T B m = 0 := by
  obtain ⟨h1, h2, h3⟩ := bookE_ok h
  unfold bookE
  rw [if_pos h1, if_neg (by omega), if_pos]
  refine List.all_eq_true.2 fun k hk => ?_
  obtain ⟨a, b, c⟩ := h3 k (by have := List.mem_range.1 hk; omega)
  unfold bkGood
  simp only [Bool.and_eq_true, decide_eq_true_eq, inB_iff]
  exact ⟨a, b, c⟩
end Go.Proofs.YtafkifjebimdaaaGreat

namespace Go.Proofs.YtafkifjebimdaaaGreat
open Go Go.RowKit Go.Proofs
set_option maxRecDepth 100000
set_option maxHeartbeats 4000000

/-- What a table's look-up reads as. -/
structure Look where
  T : Tbl
  xl : Int
  xh : Int
  yl : Int
  yh : Int
def Look.on (k : Look) : Bool := lkE k.T k.xl k.xh k.yl k.yh
end Go.Proofs.YtafkifjebimdaaaGreat

namespace Go.Proofs.YtafkifjebimdaaaGreat
open Go Go.RowKit Go.Proofs
set_option maxRecDepth 100000
set_option maxHeartbeats 4000000

end Go.Proofs.YtafkifjebimdaaaGreat

namespace Go.Proofs.YtafkifjebimdaaaGreat
open Go Go.RowKit Go.Proofs
set_option maxRecDepth 100000
set_option maxHeartbeats 4000000

end Go.Proofs.YtafkifjebimdaaaGreat

namespace Go.Proofs.YtafkifjebimdaaaGreat
open Go Go.RowKit Go.Proofs
set_option maxRecDepth 100000
set_option maxHeartbeats 4000000

theorem isSl_one {v : Value} (h : IsSl v) : v.oneCell' = true := by obtain ⟨a, n, c, rfl⟩ := h; rfl
theorem RotAt.one {w : World} {hx hy hv gx gy gv lx ly lv px py pv nx ny nv ax ay av cx cy cv dx dy dv : Value} {cl bu : Int} {S : Tabs} (h : RotAt w hx hy hv gx gy gv lx ly lv px py pv nx ny nv ax ay av cx cy cv dx dy dv cl bu S) (wl wh tl th el eh nl nh : Int) : (#[hx, hy, hv, gx, gy, gv, lx, ly, lv, px, py, pv, nx, ny, nv, ax, ay, av, cx, cy, cv, dx, dy, dv, .int .i64 cl, .int .i64 bu, .int .i64 wl, .int .i64 wh, .int .i64 tl, .int .i64 th, .int .i64 el, .int .i64 eh, .int .i64 nl, .int .i64 nh] : Array Value).all (·.oneCell') = true := by
  rw [Array.all_eq_true_iff_forall_mem]
  intro x hx'
  simp only [List.mem_toArray, List.mem_cons, List.not_mem_nil, or_false] at hx'
  rcases hx' with rfl | rfl | rfl | rfl | rfl | rfl | rfl | rfl | rfl | rfl | rfl | rfl | rfl | rfl | rfl | rfl | rfl | rfl | rfl | rfl | rfl | rfl | rfl | rfl | rfl | rfl | rfl | rfl | rfl | rfl | rfl | rfl | rfl | rfl
  any_goals rfl
  · exact isSl_one h.h.s1
  · exact isSl_one h.h.s2
  · exact isSl_one h.h.s3
  · exact isSl_one h.g.s1
  · exact isSl_one h.g.s2
  · exact isSl_one h.g.s3
  · exact isSl_one h.l.s1
  · exact isSl_one h.l.s2
  · exact isSl_one h.l.s3
  · exact isSl_one h.p.s1
  · exact isSl_one h.p.s2
  · exact isSl_one h.p.s3
  · exact isSl_one h.n.s1
  · exact isSl_one h.n.s2
  · exact isSl_one h.n.s3
  · exact isSl_one h.a.s1
  · exact isSl_one h.a.s2
  · exact isSl_one h.a.s3
  · exact isSl_one h.c.s1
  · exact isSl_one h.c.s2
  · exact isSl_one h.c.s3
  · exact isSl_one h.d.s1
  · exact isSl_one h.d.s2
  · exact isSl_one h.d.s3
end Go.Proofs.YtafkifjebimdaaaGreat

namespace Go.Proofs.YtafkifjebimdaaaGreat
open Go Go.RowKit Go.Proofs Go.ChangeShapes Go.WideShapes Go.ChangeAt Go.Deep
set_option maxRecDepth 100000
set_option maxHeartbeats 4000000

theorem Tryz.undInt : Tryz.prog.underlying 3 = some (.int .i64) := by kernel_rfl
section
variable {H : Type} {enc : TypeId × Value → H} {W : World} {sp : Nat → Bool} {held : Bool}

theorem wf_I64 {n : Int} (h : (Lit.int .i64 n).wf = true) : I64 n := by
  exact bounds_i64 h

end
end Go.Proofs.YtafkifjebimdaaaGreat

/- A rotor among the arguments: its cells and tables. -/
namespace Go.Proofs.YtafkifjebimdaaaGreat
open Go Go.RowKit Go.Proofs Go.ChangeShapes Go.WideShapes Go.ChangeAt Go.Deep
set_option maxRecDepth 100000
set_option maxHeartbeats 4000000

def fieldAt (d : Option TypeDesc) (i : Nat) : Option (TypeId × Nat) := match d with | some (.struct fs) => fs[i]?.map (fun f => (f.type, f.offset)) | _ => none
theorem fieldAt_struct {P : Program} {T : TypeId} {i : Nat} {r : TypeId × Nat} (h : fieldAt (P.underlying T) i = some r) : ∃ fs, P.underlying T = some (.struct fs) := by
  unfold fieldAt at h; split at h
  · rename_i fs e; exact ⟨fs, e⟩
  · exact absurd h (by simp)

section
variable {H : Type} {enc : TypeId × Value → H} {W : World} {sp : Nat → Bool} {held : Bool}

theorem trod_field {P : Program} {fuel : Nat} {T t : TypeId} {o k i : Nat} {cs : List Value} {x : DataW H × List MemPlace} (hf : fieldAt (P.underlying T) i = some (t, o)) (hk : P.cellsOf t = k)
    (h : DataW.trod enc P W 0 sp held fuel T cs = some x) : ∃ m y, DataW.trod enc P W 0 sp held m t ((cs.drop o).take k) = some y := by
  obtain ⟨fs, hu⟩ := fieldAt_struct hf
  obtain ⟨xs, m, -, -, -, hl, hg⟩ := DataW.trod_struct hu h
  rw [hu] at hf
  simp only [fieldAt, Option.map_eq_some_iff, Prod.mk.injEq] at hf
  obtain ⟨f, hfi, e1, e2⟩ := hf
  have := hg i f hfi
  rw [e1, e2, hk] at this
  have hlt : i < xs.length := by rw [hl]; exact (Array.getElem?_eq_some_iff.1 hfi).1
  exact ⟨m, xs[i], by rw [this, List.getElem?_eq_getElem hlt]⟩

theorem take1 {n : Nat} {l : List Value} (h : l.length = n + 1) : ∃ c l', l = c :: l' ∧ l'.length = n := by
  cases l with
  | nil => simp at h
  | cons c l' => exact ⟨c, l', rfl, by simpa using h⟩

end
end Go.Proofs.YtafkifjebimdaaaGreat

/- The end of a row whose call leaves a world that has grown: the arguments read as they did. -/
namespace Go.Proofs.YtafkifjebimdaaaGreat
open Go Go.RowKit Go.Proofs Go.ChangeShapes Go.WideShapes Go.ChangeAt

theorem Tryz.laidOut' : laidOutB Tryz.prog = true := by kernel_rfl

section
variable {H : Type} {enc : TypeId × Value → H} {P : Program}
theorem post_kept {f : Func} {s : ChangeSpec} {apart fresh handsOn again : Bool} {W W' : World} {args : Array Value} {v : Value} {ds gs : List (DataW H)} {before pa pv : List MemPlace}
    (hW : DataW.Whole enc P f.params.toList s.vars apart W args.toList ds gs before) (hb : Below W.heap.size W W')
    (hres : ∀ (b : Nat) (sp : Nat → Bool) (hd : Bool), DataW.TrodAll enc P W' b sp hd f.resultTypes.toList (v.resultList f.resultTypes.size) (s.fn H (ds ++ gs)).results [])
    (hargs : ∀ sp : Nat → Bool, (∀ p ∈ before, sp p.block = true) → DataW.TrodAll enc P W' 0 sp true f.params.toList args.toList (s.fn H (ds ++ gs)).args pa)
    (hvars : ∀ sp : Nat → Bool, (∀ p ∈ before, sp p.block = true) → DataW.TrodVars enc P W' sp s.vars (s.fn H (ds ++ gs)).vars pv)
    (hps : before = pa ++ pv)
    (hok : ∀ (j : Nat) (t : TypeId) (r : Value), f.resultTypes[j]? = some t → (v.resultList f.resultTypes.size)[j]? = some r → Value.okWide P W' .any 0 t r) :
    s.post enc P f apart fresh handsOn again W args v W' := by
  have old := fun p (hp : p ∈ before) => hW.lt p hp
  have mark : ∀ p ∈ before, (fun b => decide (b < W.heap.size)) p.block = true := fun p hp => decide_eq_true (old p hp)
  obtain ⟨-, -, -, -, -, hz, hn⟩ := id hW
  subst hps
  refine ⟨ds, gs, pa ++ pv, [], pa, pv, hW, hres _ _ _, hargs _ mark, hvars _ mark, World.keptBut_mono (fun p hp => ⟨hp, Or.inr (List.mem_append.1 hp)⟩) (hb.frame (· ∈ pa ++ pv)), fun _ => ⟨hok, _, _, ([] ++ pa) ++ pv, ⟨[] ++ pa, pv, trodAll_append (hargs _ (fun _ _ => rfl)) (hres _ _ _), hvars _ (fun _ _ => rfl), rfl, fun b off hp => ?_, fun ha => by simpa using hn ha⟩, fun p hp _ => by simpa using hp⟩⟩
  have hin : MemPlace.cell b off ∈ pa ++ pv := by simpa using hp
  exact (hb.frozen (p := ⟨b, off, none⟩) (old _ hin)).trans (hz b off hin)
end
end Go.Proofs.YtafkifjebimdaaaGreat

namespace Go.Proofs.YtafkifjebimdaaaGreat
open Go Go.RowKit Go.Proofs Go.ChangeShapes Go.WideShapes Go.ChangeAt Go.Deep
set_option maxRecDepth 100000
set_option maxHeartbeats 4000000

section
variable {H : Type} {enc : TypeId × Value → H} {W : World} {sp : Nat → Bool} {held : Bool}

theorem int_trod {fuel : Nat} {c : Value} {x : DataW H × List MemPlace} (h : DataW.trod enc Tryz.prog W 0 sp held fuel 3 [c] = some x) : ∃ n, c = .int .i64 n ∧ I64 n := by
  obtain ⟨n, e, -, w⟩ := DataW.trod_int Tryz.undInt h
  exact ⟨n, by simpa using e, wf_I64 w⟩
theorem int_trod_arg {r : Reach} {b0 : Nat} {v : Value} {d : DataW H} {ps : List MemPlace} (hval : Value.okWide Tryz.prog W r b0 3 v) (hd : DataW.Trod enc Tryz.prog W 0 sp held 3 v d ps) :
    ∃ n, v = .int .i64 n ∧ I64 n := by
  obtain ⟨n, rfl⟩ := okWide_int Tryz.undInt hval
  obtain ⟨fuel, h⟩ := hd
  obtain ⟨m, e, hm⟩ := int_trod (show DataW.trod enc Tryz.prog W 0 sp held fuel 3 [.int .i64 n] = some _ from h)
  exact ⟨m, e, hm⟩
end
end Go.Proofs.YtafkifjebimdaaaGreat

namespace Go.Proofs.YtafkifjebimdaaaGreat
open Go Go.RowKit Go.Proofs Go.ChangeShapes Go.WideShapes Go.ChangeAt Go.Deep
set_option maxRecDepth 100000
set_option maxHeartbeats 4000000

/-- The type of a struct's cell, through the structs that lie in it. -/
def leafOf (P : Program) : Nat → TypeId → Nat → Option TypeId
  | 0, _, _ => none
  | f + 1, T, i => match P.underlying T with
    | some (.struct fs) => (List.range fs.size).findSome? fun j => match fieldAt (P.underlying T) j with
      | some (t, o) => if o ≤ i ∧ i < o + P.cellsOf t ∧ o + P.cellsOf t ≤ P.cellsOf T then leafOf P f t (i - o) else none
      | none => none
    | _ => if i = 0 ∧ P.cellsOf T = 1 then some T else none

section
variable {H : Type} {enc : TypeId × Value → H} {W : World} {sp : Nat → Bool} {held : Bool}
theorem one_cell {cs : List Value} (h : cs.length = 1) : cs = [cs.getD 0 undef] := by
  obtain ⟨c, l, rfl, hl⟩ := take1 h
  obtain rfl := List.eq_nil_of_length_eq_zero hl
  rfl
theorem trod_leaf {P : Program} {t : TypeId} : ∀ (f : Nat) (T : TypeId) (i fuel : Nat) (cs : List Value) (x : DataW H × List MemPlace), leafOf P f T i = some t → cs.length = P.cellsOf T →
    DataW.trod enc P W 0 sp held fuel T cs = some x → ∃ m y, DataW.trod enc P W 0 sp held m t [cs.getD i undef] = some y
  | 0, T, i, fuel, cs, x, h, _, _ => by cases h
  | f + 1, T, i, fuel, cs, x, h, hl, ht => by
    unfold leafOf at h
    split at h
    · rename_i fs hu
      obtain ⟨j, -, hj⟩ := List.exists_of_findSome?_eq_some h
      split at hj
      · rename_i t' o hf
        split at hj
        · rename_i hb
          obtain ⟨m, y, hm⟩ := trod_field hf rfl ht
          have hlen : ((cs.drop o).take (P.cellsOf t')).length = P.cellsOf t' := by
            rw [List.length_take, List.length_drop, hl]; omega
          obtain ⟨m2, y2, hm2⟩ := trod_leaf f t' (i - o) m _ y hj hlen hm
          refine ⟨m2, y2, ?_⟩
          have e : ((cs.drop o).take (P.cellsOf t')).getD (i - o) undef = cs.getD i undef := by
            unfold List.getD
            rw [List.getElem?_take_of_lt (by omega), List.getElem?_drop, show o + (i - o) = i by omega]
          rw [← e]; exact hm2
        · cases hj
      · cases hj
    · split at h
      · rename_i hc
        obtain ⟨rfl, h1⟩ := hc
        obtain rfl : T = t := by simpa using h
        rw [h1] at hl
        exact ⟨fuel, x, by rw [← one_cell hl]; exact ht⟩
      · cases h
theorem leaf_int {cs : List Value} {T : TypeId} {fuel : Nat} {x : DataW H × List MemPlace} (hl : cs.length = Tryz.prog.cellsOf T) (ht : DataW.trod enc Tryz.prog W 0 sp held fuel T cs = some x) (i : Nat) (h : leafOf Tryz.prog 9 T i = some 3) :
    ∃ n, cs.getD i undef = .int .i64 n ∧ I64 n := by
  obtain ⟨m, y, hm⟩ := trod_leaf 9 T i fuel cs x h hl ht
  exact int_trod hm
theorem Tryz.undBool : Tryz.prog.underlying 4 = some .bool := by kernel_rfl
theorem leaf_bool {cs : List Value} {T : TypeId} {fuel : Nat} {x : DataW H × List MemPlace} (hl : cs.length = Tryz.prog.cellsOf T) (ht : DataW.trod enc Tryz.prog W 0 sp held fuel T cs = some x) (i : Nat) (h : leafOf Tryz.prog 9 T i = some 4) :
    ∃ b, cs.getD i undef = .bool b := by
  obtain ⟨m, y, hm⟩ := trod_leaf 9 T i fuel cs x h hl ht
  obtain ⟨b, e, -⟩ := DataW.trod_bool Tryz.undBool hm
  exact ⟨b, by simpa using e⟩
theorem list_cells {cs : List Value} {n : Nat} (h : cs.length = n) : cs = (List.range n).map fun i => cs.getD i undef := by
  subst h
  apply List.ext_getElem
  · simp
  · intro i h1 h2
    simp [List.getD, List.getElem?_eq_getElem h1]
/-- A struct of numbers and truths: a number at each place that num says, else a truth. -/
theorem kinds {cs : List Value} {T : TypeId} {fuel n : Nat} {x : DataW H × List MemPlace} (num : Nat → Bool) (hn : Tryz.prog.cellsOf T = n) (hl : cs.length = n) (ht : DataW.trod enc Tryz.prog W 0 sp held fuel T cs = some x)
    (hk : (List.range n).all (fun i => leafOf Tryz.prog 9 T i == some (if num i then 3 else 4)) = true) :
    ∃ (f : Nat → Int) (b : Nat → Bool), (∀ i, i < n → cs.getD i undef = if num i then .int .i64 (f i) else .bool (b i)) ∧ ∀ i, i < n → num i = true → I64 (f i) := by
  have hk' : ∀ i, i < n → leafOf Tryz.prog 9 T i = some (if num i then 3 else 4) := fun i hi => by
    have := List.all_eq_true.1 hk i (List.mem_range.2 hi)
    simpa using this
  have hf : ∀ i, ∃ z : Int, i < n → num i = true → cs.getD i undef = .int .i64 z ∧ I64 z := fun i => by
    by_cases hi : i < n ∧ num i = true
    · have h1 := hk' i hi.1
      rw [hi.2, if_pos rfl] at h1
      obtain ⟨z, e, w⟩ := leaf_int (by rw [hl, hn]) ht i h1
      exact ⟨z, fun _ _ => ⟨e, w⟩⟩
    · exact ⟨0, fun a b => absurd ⟨a, b⟩ hi⟩
  have hb : ∀ i, ∃ z : Bool, i < n → num i = false → cs.getD i undef = .bool z := fun i => by
    by_cases hi : i < n ∧ num i = false
    · have h1 := hk' i hi.1
      rw [hi.2, if_neg (by decide)] at h1
      obtain ⟨z, e⟩ := leaf_bool (by rw [hl, hn]) ht i h1
      exact ⟨z, fun _ _ => e⟩
    · exact ⟨false, fun a b => absurd ⟨a, b⟩ hi⟩
  refine ⟨fun i => (hf i).choose, fun i => (hb i).choose, fun i hi => ?_, fun i hi hn => ((hf i).choose_spec hi hn).2⟩
  cases hn : num i
  · simpa using (hb i).choose_spec hi hn
  · simpa using ((hf i).choose_spec hi hn).1
theorem struct_trod {r : Reach} {b0 n : Nat} {T : TypeId} {v : Value} {d : DataW H} {ps : List MemPlace} {q : TypeId × Nat} (hf : fieldAt (Tryz.prog.underlying T) 0 = some q) (hn : Tryz.prog.cellsOf T = n)
    (hval : Value.okWide Tryz.prog W r b0 T v) (hd : DataW.Trod enc Tryz.prog W 0 sp held T v d ps) :
    ∃ cs : List Value, v = .agg cs.toArray ∧ cs.length = n ∧ ∃ fuel x, DataW.trod enc Tryz.prog W 0 sp held fuel T cs = some x := by
  obtain ⟨fs, hu⟩ := fieldAt_struct hf
  obtain ⟨cs, rfl, hs⟩ := okWide_struct hu hval
  rw [hn] at hs
  obtain ⟨fuel, h⟩ := hd
  exact ⟨cs.toList, by simp, by simpa using hs, fuel, _, h⟩
/-- A slice of structs of numbers and truths. -/
theorem slice_kinds {t e : TypeId} {fuel n : Nat} {c : Value} {x : DataW H × List MemPlace} (num : Nat → Bool) (hu : Tryz.prog.underlying t = some (.slice e)) (hn : Tryz.prog.cellsOf e = n) (h0 : 0 < n)
    (ht : DataW.trod enc Tryz.prog W 0 sp held fuel t [c] = some x) (hk : (List.range n).all (fun i => leafOf Tryz.prog 9 e i == some (if num i then 3 else 4)) = true) :
    ∃ (A : Option Addr) (len cp : Nat) (D : Nat → Nat → Int) (B : Nat → Nat → Bool), c = .slice A len cp ∧ len ≤ cp ∧ cp ≤ 9223372036854775807 ∧ (A = none → cp = 0) ∧ RecsAt W A len n (fun i j => if num j then .int .i64 (D i j) else .bool (B i j)) ∧ ∀ i, i < len → ∀ j, j < n → num j = true → I64 (D i j) := by
  obtain ⟨A, len, cp, V, rfl, h1, h2, h3, h4, h5⟩ := recs_trod hu hn h0 ht
  have hf : ∀ i, i < len → ∃ z : (Nat → Int) × (Nat → Bool), (∀ j, j < n → V i j = if num j then .int .i64 (z.1 j) else .bool (z.2 j)) ∧ ∀ j, j < n → num j = true → I64 (z.1 j) := fun i hi => by
    obtain ⟨m, y, hm⟩ := h5 i hi
    obtain ⟨f, b, hfb, hi64⟩ := kinds num hn (by simp) hm hk
    refine ⟨(f, b), fun j hj => ?_, hi64⟩
    rw [← hfb j hj]
    simp [List.getD, hj]
  obtain ⟨Z, hZ⟩ := choose_lt hf
  refine ⟨A, len, cp, fun i => (Z i).1, fun i => (Z i).2, rfl, h1, h2, h3, fun hp => ?_, fun i hi j hj hn => (hZ i hi).2 j hj hn⟩
  obtain ⟨b, off, hA, hlt, hc⟩ := h4 hp
  exact ⟨b, off, hA, hlt, fun k hk j hj => by rw [hc k hk j hj, (hZ k hk).1 j hj]⟩
theorem slice_trod {t e : TypeId} {r : Reach} {b0 : Nat} {v : Value} {d : DataW H} {ps : List MemPlace} (hu : Tryz.prog.underlying t = some (.slice e)) (hval : Value.okWide Tryz.prog W r b0 t v) (hd : DataW.Trod enc Tryz.prog W 0 sp held t v d ps) :
    ∃ fuel x, DataW.trod enc Tryz.prog W 0 sp held fuel t [v] = some x := by
  obtain ⟨a, len, cap, rfl⟩ := okWide_slice hu hval
  obtain ⟨fuel, h⟩ := hd
  exact ⟨fuel, _, h⟩
end
end Go.Proofs.YtafkifjebimdaaaGreat

namespace Go.Proofs.YtafkifjebimdaaaGreat
open Go Go.RowKit Go.Proofs Go.ChangeShapes Go.WideShapes Go.ChangeAt Go.Deep
set_option maxRecDepth 100000
set_option maxHeartbeats 4000000

section
variable {H : Type} {enc : TypeId × Value → H} {W : World} {sp : Nat → Bool} {held : Bool}
theorem fcs_trod {fuel : Nat} {c : Value} {x : DataW H × List MemPlace} (ht : DataW.trod enc Tryz.prog W 0 sp held fuel 31 [c] = some x) :
    ∃ (A : Option Addr) (n cp : Nat) (D : Nat → Nat → Int) (B : Nat → Nat → Bool), c = .slice A n cp ∧ n ≤ cp ∧ cp ≤ 9223372036854775807 ∧ RecsAt W A n 12 (fcV D B) := by
  obtain ⟨A, n, cp, D, B, rfl, h1, h2, h3, h4, -⟩ := slice_kinds (e := 133) (n := 12) (fun j => decide (j < 10)) (by kernel_rfl) (by kernel_rfl) (Nat.succ_pos _) ht (by kernel_rfl)
  refine ⟨A, n, cp, D, B, rfl, h1, h2, ?_⟩
  have e : fcV D B = fun i j => if (fun j => decide (j < 10)) j = true then .int .i64 (D i j) else .bool (B i j) := by
    funext i j; unfold fcV; by_cases h : j < 10 <;> simp [h]
  rw [e]; exact h4
theorem sis_trod {fuel : Nat} {c : Value} {x : DataW H × List MemPlace} (ht : DataW.trod enc Tryz.prog W 0 sp held fuel 32 [c] = some x) :
    ∃ (A : Option Addr) (n cp : Nat) (D : Nat → Nat → Int) (B : Nat → Nat → Bool), c = .slice A n cp ∧ n ≤ cp ∧ cp ≤ 9223372036854775807 ∧ RecsAt W A n 7 (siV D B) := by
  obtain ⟨A, n, cp, D, B, rfl, h1, h2, h3, h4, -⟩ := slice_kinds (e := 135) (n := 7) (fun j => decide (j < 5)) (by kernel_rfl) (by kernel_rfl) (Nat.succ_pos _) ht (by kernel_rfl)
  refine ⟨A, n, cp, D, B, rfl, h1, h2, ?_⟩
  have e : siV D B = fun i j => if (fun j => decide (j < 5)) j = true then .int .i64 (D i j) else .bool (B i j) := by
    funext i j; unfold siV; by_cases h : j < 5 <;> simp [h]
  rw [e]; exact h4
end
end Go.Proofs.YtafkifjebimdaaaGreat
