/- Contracts: Has, Needs, Margin of package rotor. -/
import Derived.Test.YtechkkgmdjgddaaGreatRoJ
import Derived.Test.YtechkkgmdjgddaaGreatRoM
import Derived.Deep.WholeRow
set_option linter.all false
namespace Go.Proofs.YtechkkgmdjgddaaGreat
open Go Go.RowKit Go.Proofs
set_option maxRecDepth 100000
set_option maxHeartbeats 4000000

theorem isSl_one {v : Value} (h : IsSl v) : v.oneCell' = true := by obtain ⟨a, n, c, rfl⟩ := h; rfl
theorem RotAt.one {w : World} {hx hy hv gx gy gv lx ly lv px py pv nx ny nv ax ay av cx cy cv dx dy dv : Value} {cl bu : Int} {S : Tabs} (h : RotAt w hx hy hv gx gy gv lx ly lv px py pv nx ny nv ax ay av cx cy cv dx dy dv cl bu S) (wl wh tl th el eh nl nh : Int) : (#[hx, hy, hv, gx, gy, gv, lx, ly, lv, px, py, pv, nx, ny, nv, ax, ay, av, cx, cy, cv, dx, dy, dv, .int .i64 cl, .int .i64 bu, .int .i64 wl, .int .i64 wh, .int .i64 tl, .int .i64 th, .int .i64 el, .int .i64 eh, .int .i64 nl, .int .i64 nh] : Array Value).all (·.oneCell') = true := by
  rw [Array.all_eq_true_iff_forall_mem]
  intro x hx'
  simp only [List.mem_toArray, List.mem_cons, List.not_mem_nil, or_false] at hx'
  rcases hx' with rfl | rfl | rfl | rfl | rfl | rfl | rfl | rfl | rfl | rfl | rfl | rfl | rfl | rfl | rfl | rfl | rfl | rfl | rfl | rfl | rfl | rfl | rfl | rfl | rfl | rfl | rfl | rfl | rfl | rfl | rfl | rfl | rfl | rfl
  any_goals rfl
  · exact isSl_one h.h.s1
  · exact isSl_one h.h.s2
  · exact isSl_one h.h.s3
  · exact isSl_one h.g.s1
  · exact isSl_one h.g.s2
  · exact isSl_one h.g.s3
  · exact isSl_one h.l.s1
  · exact isSl_one h.l.s2
  · exact isSl_one h.l.s3
  · exact isSl_one h.p.s1
  · exact isSl_one h.p.s2
  · exact isSl_one h.p.s3
  · exact isSl_one h.n.s1
  · exact isSl_one h.n.s2
  · exact isSl_one h.n.s3
  · exact isSl_one h.a.s1
  · exact isSl_one h.a.s2
  · exact isSl_one h.a.s3
  · exact isSl_one h.c.s1
  · exact isSl_one h.c.s2
  · exact isSl_one h.c.s3
  · exact isSl_one h.d.s1
  · exact isSl_one h.d.s2
  · exact isSl_one h.d.s3
theorem Tryz.rowAir : RowTy Tryz.prog 31 8 := ⟨by kernel_rfl, by kernel_rfl⟩
theorem Tryz.sizeMach : (Tryz.prog.info? 51).map (·.size) = some 34 := by kernel_rfl

/-- A whole row into the block that was made last. -/
theorem wpl_store_new {P : Program} {ops : Array Oper} {rest : List Oper} {o : Oper} {a : Act} {w : World} {Q : Exit → Act → World → Prop} (hgd : o.guard = none) (ty : TypeId) (x y : Operand) (ho : o.op = .store ty x y)
    (cells old : Array Value) (g : Nat) (hx : a.eval x = .pointer (some ⟨g, 0, none⟩)) (hg : g = w.heap.size) (hy : a.eval y = .agg cells) (hi : (P.info? ty).map (·.size) = some cells.size)
    (hold : old.size = cells.size) (h1 : cells.all (·.oneCell') = true)
    (h : wpList P ops Q rest (a.put o.dst undef) (w.alloc (.cells cells ty))) : wpList P ops Q (o :: rest) a (w.alloc (.cells old ty)) := by
  subst hg
  refine wpList_store_row hgd ty x y ho w.heap.size cells hx hy ty old (World.alloc_heap_new w _) hi hold h1 ?_
  rw [World.setRow_alloc_new]; exact h

def hasE (S : Tabs) (cl bu : Int) (wl wh tl th el eh nl nh : Int) : Int := chkE (rotB S cl bu) (airB wl wh tl th el eh nl nh) false (!lkE S.p tl th el eh)
def hasLo (S : Tabs) (cl bu : Int) (wl wh tl th el eh nl nh : Int) : Int := okN (hasE S cl bu wl wh tl th el eh nl nh) (bLo S.p tl th el eh)
def hasHi (S : Tabs) (cl bu : Int) (wl wh tl th el eh nl nh : Int) : Int := okN (hasE S cl bu wl wh tl th el eh nl nh) (bHi S.p tl th el eh)
theorem hasE_ok {S : Tabs} {cl bu wl wh tl th el eh nl nh : Int} (h : hasE S cl bu wl wh tl th el eh nl nh = 0) : rotB S cl bu = true ∧ Fits S.p tl th el eh := by
  obtain ⟨h1, h2, -, h3⟩ := chkE_zero h
  unfold airB at h2; simp only [Bool.and_eq_true] at h2
  exact ⟨h1, Fits.mk' (rotB_p h1) h2.1.1.2 h2.1.2 (by simpa using h3)⟩


end Go.Proofs.YtechkkgmdjgddaaGreat
