/- Texts joined: KZL. -/
import Derived.Test.YtlabfpjlckdmfaaGreatKZK
set_option linter.all false
namespace Go.Proofs.YtlabfpjlckdmfaaGreat
open Go Go.RowKit Go.Proofs
set_option maxRecDepth 100000
set_option maxHeartbeats 8000000
structure MyG0 (M : MetD) (vF vS : Value) (w w2 : World) (vs : Value) (l : List Nat) : Prop where
 b : RowKit.Below w.heap.size w w2
 m : Blk w2 w.heap.size 29 #[.int .i64 M.places, .int .i64 M.any.a0, .int .i64 M.any.a1, .int .i64 M.any.a2, .int .i64 M.any.a3, .int .i64 M.any.a4, .int .i64 M.any.a5, .bool M.any.i, .bool M.any.s, .int .i64 M.mw, .int .i64 M.ms, .int .i64 M.mc, vF, vS]
 r : Blk w2 (w.heap.size + 1) 25 #[.int .i64 0, .int .i64 0, .int .i64 0, .int .i64 0, .int .i64 0, .int .i64 0, .bool false, .bool false]
 o : w2.ownsRow (w.heap.size + 3) 3 1 vs l.length (l.map encN)
 z : w.heap.size + 3 ≤ w2.heap.size
structure MyG (w w2 : World) (x : Sk) (j : Nat) (v : Value) (wr : World) : Prop where
 c : But (w.heap.size + 2) w2 wr
 s : Blk wr (w.heap.size + 2) 25 x.cells
 o : ∃ xs : List Nat, xs.length ≤ j ∧ wr.ownsRow w2.heap.size 3 1 v xs.length (xs.map encN)
 k : x.inr = true
theorem MyG0.start {M : MetD} {vF vS : Value} {w W w2 : World} {vs : Value} {l : List Nat} {x : Sk} (hB : RowKit.Below w.heap.size w W) (hX : Blk W w.heap.size 29 #[.int .i64 M.places, .int .i64 M.any.a0, .int .i64 M.any.a1, .int .i64 M.any.a2, .int .i64 M.any.a3, .int .i64 M.any.a4, .int .i64 M.any.a5, .bool M.any.i, .bool M.any.s, .int .i64 M.mw, .int .i64 M.ms, .int .i64 M.mc, vF, vS]) (hR : Blk W (w.heap.size + 1) 25 #[.int .i64 0, .int .i64 0, .int .i64 0, .int .i64 0, .int .i64 0, .int .i64 0, .bool false, .bool false]) (hS : Blk W (w.heap.size + 2) 25 x.cells)
  (hb : RowKit.Below W.heap.size W w2) (ho : w2.ownsRow (W.heap.size + 1) 3 1 vs l.length (l.map encN)) (hk : x.inr = true) : MyG0 M vF vS w w2 vs l ∧ MyG w w2 x 0 (.slice none 0 0) w2 := by
 have hz := hS.lt
 have hz2 := hb.size
 exact ⟨⟨bthen hB hb, hX.below hb, hR.below hb, ownsRow_base ho (by omega), by omega⟩, ⟨But.refl _ _, hS.below hb, ⟨[], Nat.le_refl _, World.ownsRow_nil _ _ _ _⟩, hk⟩⟩
theorem MyG0.cell {M : MetD} {vF vS : Value} {w w2 wr : World} {l : List Nat} {x : Sk} {j q : Nat} {v : Value} {g c : Nat} (h : MyG0 M vF vS w w2 (.slice (some ⟨g, 0, none⟩) l.length c) l) (h2 : MyG w w2 x j v wr) (hq : q < l.length) : wr.cell? ⟨g, q, none⟩ = some (.int .i64 ((l.getD q 0 : Nat) : Int)) := by
 have hg := owns_base h.o (b := g) rfl
 refine h2.c.cell ?_ (by show g ≠ _; omega)
 have := h.o.cellAt (g := g) q (by omega)
 rw [this]
 simp [encN, hq]
theorem MyG0.met {M : MetD} {vF vS : Value} {w w2 wr : World} {vs : Value} {l : List Nat} {x : Sk} {j : Nat} {v : Value} (h : MyG0 M vF vS w w2 vs l) (h2 : MyG w w2 x j v wr) : Blk wr w.heap.size 29 #[.int .i64 M.places, .int .i64 M.any.a0, .int .i64 M.any.a1, .int .i64 M.any.a2, .int .i64 M.any.a3, .int .i64 M.any.a4, .int .i64 M.any.a5, .bool M.any.i, .bool M.any.s, .int .i64 M.mw, .int .i64 M.ms, .int .i64 M.mc, vF, vS] := h.m.but h2.c (by omega)
theorem MyG0.shape {M : MetD} {vF vS : Value} {w w2 : World} {vs : Value} {l : List Nat} (h : MyG0 M vF vS w w2 vs l) (hl : 0 < l.length) : ∃ g c, vs = .slice (some ⟨g, 0, none⟩) l.length c := by
 rcases h.o.2 with ⟨-, e⟩ | ⟨g, cap, cur, rfl, -⟩
 ·omega
 ·exact ⟨g, cap, rfl⟩
theorem MyG.world {w w2 : World} {x : Sk} {j : Nat} {v : Value} {wr w5 : World} (h : MyG w w2 x j v wr) (hc : But (w.heap.size + 2) wr w5) (hz : w.heap.size + 3 ≤ w2.heap.size) {y : Sk} (hs : Blk w5 (w.heap.size + 2) 25 y.cells) (hk : y.inr = true) : MyG w w2 y j v w5 := by
 obtain ⟨xs, h1, h2⟩ := h.o
 exact ⟨h.c.trans hc, hs, ⟨xs, h1, owns_but h2 hc (by omega)⟩, hk⟩
theorem MyG.more {w w2 : World} {x : Sk} {j j' : Nat} {v : Value} {wr : World} (h : MyG w w2 x j v wr) (hj : j ≤ j') : MyG w w2 x j' v wr := by
 obtain ⟨xs, h1, h2⟩ := h.o
 exact ⟨h.c, h.s, ⟨xs, Nat.le_trans h1 hj, h2⟩, h.k⟩
theorem MyG.add {w w2 : World} {x : Sk} {j i : Nat} {v v' : Value} {wr w5 : World} {xs : List Nat} (h : MyG w w2 x j v wr) (hx : xs.length ≤ j) (hb : ∀ b, some b = v.ownBlock → w2.heap.size ≤ b) (hz : w.heap.size + 3 ≤ w2.heap.size) (ho : w5.ownsRow w2.heap.size 3 1 v' (xs ++ [i]).length ((xs ++ [i]).map encN)) (hg : wr.grownBy w5 v.ownBlock) : MyG w w2 x (j + 1) v' w5 :=
 ⟨h.c.grown hg (fun b hb' => hb b hb'), h.s.grown' hg (fun b hb' => by have := hb b hb'; omega), ⟨xs ++ [i], by simp; omega, ho⟩, h.k⟩
theorem MyG.next {M : MetD} {p t : Int} {j : Nat} (hj : j < (M.ordF p t).length) {i : Nat} (hi : i = (M.ordF p t).getD j 0) {x : Sk} (hx : M.skyP (M.ordF p t) j = x) : M.skyP (M.ordF p t) (j + 1) = M.stepF x i := by
 unfold MetD.skyP MetD.skyF at *
 rw [take_getD _ _ hj, List.foldl_append, hx, hi]; rfl
theorem MyG.nextS {M : MetD} {p t : Int} {j : Nat} (hj : j < (M.ordS p t).length) {i : Nat} (hi : i = (M.ordS p t).getD j 0) {x : Sk} (hx : M.skyQ p t j = x) : M.skyQ p t (j + 1) = M.stepS t x i := by
 unfold MetD.skyQ at *
 rw [take_getD _ _ hj, List.foldl_append, hx, hi]; rfl
theorem ordF_len (M : MetD) (hM : M.Ok) (p t : Int) : (M.ordF p t).length ≤ 40 := by
 unfold MetD.ordF; rw [stab_length]; exact Nat.le_trans (M.cov_len p t M.n) hM.n
theorem ordS_len (M : MetD) (hM : M.Ok) (p t : Int) : (M.ordS p t).length ≤ 20 := by
 unfold MetD.ordS; rw [stab_length]; exact Nat.le_trans (M.sen_len p t M.m) hM.m
def r7R (w0 gm bf off g j i n cF ln cg : Nat) (a0 a1 a2 a3 a4 a5 : Int) (xi xs : Bool) (b0 b1 b2 b3 b4 b5 : Int) (bi bs : Bool) (l1 h1 l2 h2 l3 h3 : Int) (F : Bool) : Nat → Value → World → Prop
 | 0, v, _ => v = .agg #[.int .i64 a0, .int .i64 a1, .int .i64 a2, .int .i64 a3, .int .i64 a4, .int .i64 a5, .bool xi, .bool xs]
 | 1, v, _ => v = .pointer (some ⟨gm, 12, none⟩)
 | 2, v, _ => v = .slice (some ⟨bf, off, none⟩) n cF
 | 3, v, _ => v = .slice (some ⟨g, 0, none⟩) ln cg
 | 4, v, _ => v = .int .i64 j
 | 5, v, _ => v = .pointer (some ⟨g, j, none⟩)
 | 6, v, _ => v = .int .i64 i
 | 7, v, _ => v = .pointer (some ⟨bf, off + i * 12, none⟩)
 | 8, v, _ => v = .pointer (some ⟨bf, off + i * 12 + 4, none⟩)
 | 9, v, _ => v = .agg #[.int .i64 b0, .int .i64 b1, .int .i64 b2, .int .i64 b3, .int .i64 b4, .int .i64 b5, .bool bi, .bool bs]
 | 10, v, _ => v = .tuple #[.agg #[.int .i64 l1, .int .i64 h1, .int .i64 l2, .int .i64 h2, .int .i64 l3, .int .i64 h3, .bool (xi && bi), .bool (xs && bs)], .bool F]
 | 11, v, _ => v = .tuple #[.agg #[.int .i64 l1, .int .i64 h1, .int .i64 l2, .int .i64 h2, .int .i64 l3, .int .i64 h3, .bool (xi && bi), .bool (xs && bs)], .bool F]
 | 12, v, _ => v = .agg #[.int .i64 l1, .int .i64 h1, .int .i64 l2, .int .i64 h2, .int .i64 l3, .int .i64 h3, .bool (xi && bi), .bool (xs && bs)]
 | 13, v, _ => v = .bool F
 | 14, v, w => NewBlk w0 25 #[.int .i64 0, .int .i64 0, .int .i64 0, .int .i64 0, .int .i64 0, .int .i64 0, .bool false, .bool false] v w
 | _, _, _ => True
theorem r7R_below {w0 gm bf off g j i n cF ln cg : Nat} {a0 a1 a2 a3 a4 a5 : Int} {xi xs : Bool} {b0 b1 b2 b3 b4 b5 : Int} {bi bs : Bool} {l1 h1 l2 h2 l3 h3 : Int} {F : Bool} (k : Nat) (v : Value) (w w' : World) (hb : Below w.heap.size w w') (h : r7R w0 gm bf off g j i n cF ln cg a0 a1 a2 a3 a4 a5 xi xs b0 b1 b2 b3 b4 b5 bi bs l1 h1 l2 h2 l3 h3 F k v w) : r7R w0 gm bf off g j i n cF ln cg a0 a1 a2 a3 a4 a5 xi xs b0 b1 b2 b3 b4 b5 bi bs l1 h1 l2 h2 l3 h3 F k v w' := by
 unfold r7R at *
 split at h <;> first | exact h | exact NewBlk.below hb h
def r15R (w0 gm bf off g j i n cS ln cg : Nat) (d0 d1 d2 d3 d4 : Int) (d5 d6 : Bool) : Nat → Value → World → Prop
 | 0, v, _ => v = .pointer (some ⟨gm, 13, none⟩)
 | 1, v, _ => v = .slice (some ⟨bf, off, none⟩) n cS
 | 2, v, _ => v = .slice (some ⟨g, 0, none⟩) ln cg
 | 3, v, _ => v = .int .i64 j
 | 4, v, _ => v = .pointer (some ⟨g, j, none⟩)
 | 5, v, _ => v = .int .i64 i
 | 6, v, _ => v = .pointer (some ⟨bf, off + i * 7, none⟩)
 | 7, v, _ => v = .agg #[.int .i64 d0, .int .i64 d1, .int .i64 d2, .int .i64 d3, .int .i64 d4, .bool d5, .bool d6]
 | 8, v, w => NewBlk w0 101 #[.int .i64 0, .int .i64 0, .int .i64 0, .int .i64 0, .int .i64 0, .bool false, .bool false] v w
 | _, _, _ => True
theorem r15R_below {w0 gm bf off g j i n cS ln cg : Nat} {d0 d1 d2 d3 d4 : Int} {d5 d6 : Bool} (k : Nat) (v : Value) (w w' : World) (hb : Below w.heap.size w w') (h : r15R w0 gm bf off g j i n cS ln cg d0 d1 d2 d3 d4 d5 d6 k v w) : r15R w0 gm bf off g j i n cS ln cg d0 d1 d2 d3 d4 d5 d6 k v w' := by
 unfold r15R at *
 split at h <;> first | exact h | exact NewBlk.below hb h
def r17R (gb gT gm qq qh qe qm : Nat) (A B e nn mm pp l1 h1 L H : Int) (F : Bool) : Nat → Value → World → Prop
 | 0, v, _ => v = .pointer (some ⟨gb, qq, none⟩)
 | 1, v, _ => v = .agg #[.int .i64 A, .int .i64 B]
 | 2, v, _ => v = .pointer (some ⟨gT, 2, none⟩)
 | 3, v, _ => v = .pointer (some ⟨gT, qe, none⟩)
 | 4, v, _ => v = .int .i64 e
 | 5, v, _ => v = .int .i64 nn
 | 6, v, _ => v = .pointer (some ⟨gm, qm, none⟩)
 | 7, v, _ => v = .int .i64 mm
 | 8, v, _ => v = .int .i64 pp
 | 9, v, _ => v = .agg #[.int .i64 l1, .int .i64 h1]
 | 10, v, _ => v = .tuple #[.agg #[.int .i64 L, .int .i64 H], .bool F]
 | 11, v, _ => v = .tuple #[.agg #[.int .i64 L, .int .i64 H], .bool F]
 | 12, v, _ => v = .agg #[.int .i64 L, .int .i64 H]
 | 13, v, _ => v = .bool F
 | _, _, _ => True
theorem r17R_below {gb gT gm qq qh qe qm : Nat} {A B e nn mm pp l1 h1 L H : Int} {F : Bool} (k : Nat) (v : Value) (w w' : World) (hb : Below w.heap.size w w') (h : r17R gb gT gm qq qh qe qm A B e nn mm pp l1 h1 L H F k v w) : r17R gb gT gm qq qh qe qm A B e nn mm pp l1 h1 L H F k v w' := by
 unfold r17R at *
 split at h <;> first | exact h
theorem But.setRow {g : Nat} {w w' : World} (h : But g w w') (cs : Array Value) : But g w (w'.setRow g cs) :=
 ⟨h.os, h.tape, h.output, by simpa [World.setRow] using h.size, fun k hk hne => (setRow_other w' g k cs hne).trans (h.block k hk hne)⟩
theorem blk_row {w : World} {g : Nat} {t : TypeId} {old cs : Array Value} (h : Blk w g t old) : Blk (w.setRow g cs) g t cs := setRow_heap w g old cs t (0, 0) h
theorem setRow_cell_ne {w : World} {g : Nat} {cs : Array Value} {a : Addr} (h : a.block ≠ g) : (w.setRow g cs).cell? a = w.cell? a := World.cell?_of_block (setRow_other w g a.block cs h)
theorem MyG.grow {w w2 : World} {x : Sk} {j : Nat} {v : Value} {wr w5 : World} (h : MyG w w2 x j v wr) (hb : RowKit.Below wr.heap.size wr w5) : MyG w w2 x j v w5 := by
 obtain ⟨xs, h1, h2⟩ := h.o
 exact ⟨h.c.trans (But.of hb), h.s.below hb, ⟨xs, h1, ownsRow_below h2 hb⟩, h.k⟩
theorem MyG0.below {M : MetD} {vF vS : Value} {w w2 wr : World} {vs : Value} {l : List Nat} {x : Sk} {j : Nat} {v : Value} (h : MyG0 M vF vS w w2 vs l) (h2 : MyG w w2 x j v wr) : RowKit.Below w.heap.size w wr :=
 But.below h.b (by have := h.z; omega) h2.c (by omega)
theorem MyG0.again {M : MetD} {vF vS : Value} {w w2 wr w3 : World} {vs vs' : Value} {l l' : List Nat} {x : Sk} {j : Nat} {v : Value} (h : MyG0 M vF vS w w2 vs l) (h2 : MyG w w2 x j v wr) (hb : RowKit.Below wr.heap.size wr w3) (ho : w3.ownsRow (wr.heap.size + 1) 3 1 vs' l'.length (l'.map encN)) :
  MyG0 M vF vS w w3 vs' l' ∧ MyG w w3 x 0 (.slice none 0 0) w3 := by
 have hz := h.z
 have hz1 := h2.c.size
 have hz2 := hb.size
 exact ⟨⟨bthen (h.below h2) hb, (h.met h2).below hb, (h.r.but h2.c (by omega)).below hb, ownsRow_base ho (by omega), by omega⟩, ⟨But.refl _ _, h2.s.below hb, ⟨[], Nat.le_refl _, World.ownsRow_nil _ _ _ _⟩, h2.k⟩⟩
theorem Tryz.sizeSight : (Tryz.prog.info? 101).map (·.size) = some 7 := by kernel_rfl
theorem oneG (d0 d1 d2 d3 d4 : Int) (d5 d6 : Bool) : (#[.int .i64 d0, .int .i64 d1, .int .i64 d2, .int .i64 d3, .int .i64 d4, .bool d5, .bool d6] : Array Value).all (·.oneCell') = true := by simp [Value.oneCell']
theorem rw_may_c (M : MetD) (vF vS : Value) (p t : Int) (w : World) (hM : M.Ok) (hA : MetAt w vF vS M) (ht0 : 0 ≤ t) (ht1 : t ≤ 2000) :
  Calls Tryz.prog 115 #[.agg #[.int .i64 M.places, .int .i64 M.any.a0, .int .i64 M.any.a1, .int .i64 M.any.a2, .int .i64 M.any.a3, .int .i64 M.any.a4, .int .i64 M.any.a5, .bool M.any.i, .bool M.any.s, .int .i64 M.mw, .int .i64 M.ms, .int .i64 M.mc, vF, vS], .int .i64 p, .int .i64 t] w fun e w' => ∃ v : Value, e = .returned (.tuple #[.agg (M.may p t).cells, v]) ∧ RowKit.Below w.heap.size w w' := by
 have HM := hI9 hM
 have HA := hI9 hA
 have HCV := hI9 (fun w1 h => rw_covers_c M vF vS p t w1 hM h)
 have HSN := hI9 (fun w1 h => rw_seen_c M vF vS p t w1 hM h)
 obtain ⟨⟨A, cF, rfl, hF1, hF2, -⟩, ⟨A2, cS, rfl, hS1, hS2, -⟩⟩ := hA
 have HL1 := hI9 (ordF_len M hM p t)
 have HL2 := hI9 (ordS_len M hM p t)
 clear hM
 go_enter Tryz.func115, Tryz.ntmps115
 go_wp2_with (fail)
 have _x := frm3 w #[.int .i64 M.places, .int .i64 M.any.a0, .int .i64 M.any.a1, .int .i64 M.any.a2, .int .i64 M.any.a3, .int .i64 M.any.a4, .int .i64 M.any.a5, .bool M.any.i, .bool M.any.s, .int .i64 M.mw, .int .i64 M.ms, .int .i64 M.mc, .slice A M.n cF, .slice A2 M.m cS] 29 #[.int .i64 0, .int .i64 0, .int .i64 0, .int .i64 0, .int .i64 0, .int .i64 0, .bool false, .bool false] 25 #[.int .i64 M.any.a0, .int .i64 M.any.a1, .int .i64 M.any.a2, .int .i64 M.any.a3, .int .i64 M.any.a4, .int .i64 M.any.a5, .bool M.any.i, .bool M.any.s] 25
 have HX := hI9 _x.1
 have HR := hI9 _x.2.1
 have HS := hI9 _x.2.2.1
 have HB := hI9 _x.2.2.2.1
 have zW := _x.2.2.2.2
 clear _x
 generalize World.alloc (World.alloc (World.alloc w _) _) _ = W at *
 go_wp2_with (first | (refine wpl_row rfl 29 _ rfl _ rfl _ 14 HX.out Tryz.rowMet rfl ?_; simp only [Act.put]) | (go_at_call 124; refine (HCV.out _ (HA.out.below HB.out)).mono ?_; rintro e w2 ⟨v, rfl, hb, ho, hn⟩; (obtain ⟨A3, c3, rfl⟩ := owns_slice ho hn.1); have L1 := hI9 (MyG0.start HB.out HX.out HR.out HS.out hb ho HM.out.any); clear HX HR HS HB hb ho hn HCV))
 go_loopg [9, 11] (M.ordF p t).length (fun gx v i wr => ∃ j : Nat, i = .int .i64 j ∧ j ≤ (M.ordF p t).length ∧ (M.ordF p t).length - j ≤ gx ∧ Hid (MyG w w2 (M.skyP (M.ordF p t) j) j v wr))
 case atStart => exact ⟨0, rfl, Nat.zero_le _, Nat.le_refl _, L1.out.2⟩
 case round =>
  obtain ⟨j, rfl, hj, hgx, L2⟩ := hrel
  have hlen := HL1.out
  by_cases hlt : j < (M.ordF p t).length
  ·have hltz : (j : Int) < ((M.ordF p t).length : Int) := by omega
   obtain ⟨A', c', hA', -, -, hrec⟩ := HA.out.f
   simp only [Value.slice.injEq] at hA'
   obtain ⟨rfl, -, rfl⟩ := hA'
   obtain ⟨g, cg, hg⟩ := L1.out.1.shape (by omega)
   simp only [Value.slice.injEq] at hg
   obtain ⟨rfl, -, rfl⟩ := hg
   obtain ⟨i, hi⟩ : ∃ q, q = (M.ordF p t).getD j 0 := ⟨_, rfl⟩
   have him : i < M.n := by rw [hi]; exact M.cov_lt (stab_mem.1 (getD_mem _ _ hlt))
   obtain ⟨bf, off, rfl, hbf, hcell⟩ := hrec (by omega)
   have hz2 := L1.out.1.z
   have hzr := L2.out.c.size
   have hgl : g < wr.heap.size := Nat.lt_of_lt_of_le (owns_lt L1.out.1.o (b := g) rfl) hzr
   have hgb : w.heap.size + 3 ≤ g := owns_base L1.out.1.o (b := g) rfl
   have CI := hI9 (show wr.cell? ⟨g, j, none⟩ = some (.int .i64 (i : Int)) from by rw [hi]; exact L1.out.1.cell L2.out hlt)
   have HMB := hI9 (L1.out.1.met L2.out)
   have HCR := hI9 (show ∀ w3, RowKit.Below wr.heap.size wr w3 → ∀ q, q < 12 → w3.cell? ⟨bf, off + i * 12 + q, none⟩ = some (fcV M.D M.B i q) from fun w3 hb3 q hq => (hb3.cell (p := ⟨bf, off + i * 12 + q, none⟩) (by show bf < _; omega)).trans (L2.out.c.cell ((L1.out.1.b.cell (p := ⟨bf, off + i * 12 + q, none⟩) hbf).trans (hcell i him q hq)) (by show bf ≠ _; omega)))
   have x1 : (i : Int) < (M.n : Int) := by omega
   have hn40 := HM.out.n
   have hs := L2.out.s
   have hk := L2.out.k
   rcases hx : M.skyP (M.ordF p t) j with ⟨a0, a1, a2, a3, a4, a5, xi, xs⟩
   rw [hx] at hs hk
   have hy := HM.out.stepF hk him
   have hcs := fun w1 => rw_cutSky_c (Sk.mk a0 a1 a2 a3 a4 a5 xi xs) (M.fc i) w1 (Sk.inr_ok hk) (Sk.inr_ok (HM.out.fs i him))
   have hst : M.stepF (Sk.mk a0 a1 a2 a3 a4 a5 xi xs) i = ⟨cuL a0 a1 (M.D i 4) (M.D i 5), cuH a0 a1 (M.D i 4) (M.D i 5), cuL a2 a3 (M.D i 6) (M.D i 7), cuH a2 a3 (M.D i 6) (M.D i 7), cuL a4 a5 (M.D i 8) (M.D i 9), cuH a4 a5 (M.D i 8) (M.D i 9), xi && M.B i 10, xs && M.B i 11⟩ := rfl
   have HS := hI9 (show Blk wr (w.heap.size + 2) 25 #[.int .i64 a0, .int .i64 a1, .int .i64 a2, .int .i64 a3, .int .i64 a4, .int .i64 a5, .bool xi, .bool xs] from hs)
   have HX := hI9 hx
   have HI := hI9 hi
   rw [hst] at hy
   have hcs2 := fun w1 => (show Calls Tryz.prog 125 #[.agg #[.int .i64 a0, .int .i64 a1, .int .i64 a2, .int .i64 a3, .int .i64 a4, .int .i64 a5, .bool xi, .bool xs], .agg #[.int .i64 (M.D i 4), .int .i64 (M.D i 5), .int .i64 (M.D i 6), .int .i64 (M.D i 7), .int .i64 (M.D i 8), .int .i64 (M.D i 9), .bool (M.B i 10), .bool (M.B i 11)]] w1 fun e w' => e = .returned (.tuple #[.agg #[.int .i64 (cuL a0 a1 (M.D i 4) (M.D i 5)), .int .i64 (cuH a0 a1 (M.D i 4) (M.D i 5)), .int .i64 (cuL a2 a3 (M.D i 6) (M.D i 7)), .int .i64 (cuH a2 a3 (M.D i 6) (M.D i 7)), .int .i64 (cuL a4 a5 (M.D i 8) (M.D i 9)), .int .i64 (cuH a4 a5 (M.D i 8) (M.D i 9)), .bool (xi && M.B i 10), .bool (xs && M.B i 11)], .bool (skF a0 a1 a2 a3 a4 a5 (M.D i 4) (M.D i 5) (M.D i 6) (M.D i 7) (M.D i 8) (M.D i 9))]) ∧ RowKit.Below w1.heap.size w1 w' from hcs w1)
   clear hcs hx hi hs hk hcell hrec
   generalize cuL a0 a1 (M.D i 4) (M.D i 5) = l1 at *
   generalize cuH a0 a1 (M.D i 4) (M.D i 5) = h1 at *
   generalize cuL a2 a3 (M.D i 6) (M.D i 7) = l2 at *
   generalize cuH a2 a3 (M.D i 6) (M.D i 7) = h2 at *
   generalize cuL a4 a5 (M.D i 8) (M.D i 9) = l3 at *
   generalize cuH a4 a5 (M.D i 8) (M.D i 9) = h3 at *
   generalize skF a0 a1 a2 a3 a4 a5 (M.D i 4) (M.D i 5) (M.D i 6) (M.D i 7) (M.D i 8) (M.D i 9) = F at *
   have HCS := hI9 hcs2
   have HST := hI9 hst
   have HY := hI9 hy
   clear hcs2 hst hy
   go_wp2_with (fail)
   refine wp_region_specL 15 [13] (r7R wr.heap.size w.heap.size bf off g j i M.n cF (M.ordF p t).length c3 a0 a1 a2 a3 a4 a5 xi xs (M.D i 4) (M.D i 5) (M.D i 6) (M.D i 7) (M.D i 8) (M.D i 9) (M.B i 10) (M.B i 11) l1 h1 l2 h2 l3 h3 F) (fun i => decide (i = 14)) (by kernel_rfl) (by kernel_rfl) (by decide) r7R_below ?hop1 ?htail1
   case hop1 =>
    simp only [List.take_succ_cons, List.take_zero, allOps]
    refine ⟨?_, ?_, ?_, ?_, ?_, ?_, ?_, ?_, ?_, ?_, ?_, ?_, ?_, ?_, ?_, trivial⟩
    all_goals intro u A w1 hA hb hd
    all_goals simp only [putAll, dstOf, gtA, gtS, gtZ, Option.bind_some, Option.bind, Act.put, List.setIfInBounds_toArray, List.set_cons_succ, List.set_cons_zero] at hA; subst hA
    all_goals have HB1 := hI9 hb
    ·refine OpOk.now rfl ?_
     clear hb hd
     go_wp2_with (refine wpl_row rfl 25 _ rfl _ rfl _ 8 (HS.out.below HB1.out) Tryz.rowSky rfl ?_; simp only [Act.put])
     exact ⟨_, rfl, Below.refl _ _, rfl, fun h => absurd h (by decide)⟩
    ·refine OpOk.now rfl ?_
     clear hb hd
     go_wp2
     exact ⟨_, rfl, Below.refl _ _, rfl, fun h => absurd h (by decide)⟩
    ·refine OpOk.now rfl ?_
     have d1 : u 1 = _ := hd 1 (by omega) (by kernel_rfl)
     clear hb hd
     rw [d1]
     clear d1
     have c := (HMB.out.below HB1.out).cell 12
     go_wp2
     exact ⟨_, rfl, Below.refl _ _, rfl, fun h => absurd h (by decide)⟩
    ·refine OpOk.now rfl ?_
     clear hb hd
     go_wp2
     exact ⟨_, rfl, Below.refl _ _, rfl, fun h => absurd h (by decide)⟩
    ·refine OpOk.now rfl ?_
     clear hb hd
     go_wp2
     exact ⟨_, rfl, Below.refl _ _, rfl, fun h => absurd h (by decide)⟩
    ·refine OpOk.now rfl ?_
     have d3 : u 3 = _ := hd 3 (by omega) (by kernel_rfl)
     have d4 : u 4 = _ := hd 4 (by omega) (by kernel_rfl)
     clear hb hd
     rw [d3, d4]
     clear d3 d4
     go_wp2
     exact ⟨_, rfl, Below.refl _ _, rfl, fun h => absurd h (by decide)⟩
    ·refine OpOk.now rfl ?_
     have d5 : u 5 = _ := hd 5 (by omega) (by kernel_rfl)
     clear hb hd
     rw [d5]
     clear d5
     have c := (HB1.out.cell (p := ⟨g, j, none⟩) hgl).trans CI.out
     go_wp2
     exact ⟨_, rfl, Below.refl _ _, rfl, fun h => absurd h (by decide)⟩
    ·refine OpOk.now rfl ?_
     have d2 : u 2 = _ := hd 2 (by omega) (by kernel_rfl)
     have d6 : u 6 = _ := hd 6 (by omega) (by kernel_rfl)
     clear hb hd
     rw [d2, d6]
     clear d2 d6
     go_wp2
     exact ⟨_, rfl, Below.refl _ _, rfl, fun h => absurd h (by decide)⟩
    ·refine OpOk.now rfl ?_
     have d7 : u 7 = _ := hd 7 (by omega) (by kernel_rfl)
     clear hb hd
     rw [d7]
     clear d7
     go_wp2
     exact ⟨_, rfl, Below.refl _ _, rfl, fun h => absurd h (by decide)⟩
    ·refine OpOk.now rfl ?_
     have d8 : u 8 = _ := hd 8 (by omega) (by kernel_rfl)
     clear hb hd
     rw [d8]
     clear d8
     have c4 : w1.cell? ⟨bf, off + i * 12 + 4, none⟩ = some (.int .i64 (M.D i 4)) := HCR.out _ HB1.out 4 (by omega)
     have c5 : w1.cell? ⟨bf, off + i * 12 + 5, none⟩ = some (.int .i64 (M.D i 5)) := HCR.out _ HB1.out 5 (by omega)
     have c6 : w1.cell? ⟨bf, off + i * 12 + 6, none⟩ = some (.int .i64 (M.D i 6)) := HCR.out _ HB1.out 6 (by omega)
     have c7 : w1.cell? ⟨bf, off + i * 12 + 7, none⟩ = some (.int .i64 (M.D i 7)) := HCR.out _ HB1.out 7 (by omega)
     have c8 : w1.cell? ⟨bf, off + i * 12 + 8, none⟩ = some (.int .i64 (M.D i 8)) := HCR.out _ HB1.out 8 (by omega)
     have c9 : w1.cell? ⟨bf, off + i * 12 + 9, none⟩ = some (.int .i64 (M.D i 9)) := HCR.out _ HB1.out 9 (by omega)
     have c10 : w1.cell? ⟨bf, off + i * 12 + 10, none⟩ = some (.bool (M.B i 10)) := HCR.out _ HB1.out 10 (by omega)
     have c11 : w1.cell? ⟨bf, off + i * 12 + 11, none⟩ = some (.bool (M.B i 11)) := HCR.out _ HB1.out 11 (by omega)
     go_wp2
     exact ⟨_, rfl, Below.refl _ _, rfl, fun h => absurd h (by decide)⟩
    ·refine OpOk.now rfl ?_
     have d0 : u 0 = _ := hd 0 (by omega) (by kernel_rfl)
     have d9 : u 9 = _ := hd 9 (by omega) (by kernel_rfl)
     clear hb hd
     rw [d0, d9]
     clear d0 d9
     go_wp2_with (go_at_call 125; (with_reducible refine (HCS.out _).mono ?_); rintro e w2 ⟨rfl, hb2⟩)
     exact ⟨_, rfl, hb2, rfl, fun h => absurd h (by decide)⟩
    ·refine OpOk.now rfl ?_
     have d10 : u 10 = _ := hd 10 (by omega) (by kernel_rfl)
     clear hb hd
     rw [d10]
     clear d10
     go_wp2
     exact ⟨_, rfl, Below.refl _ _, rfl, fun h => absurd h (by decide)⟩
    ·refine OpOk.now rfl ?_
     have d11 : u 11 = _ := hd 11 (by omega) (by kernel_rfl)
     clear hb hd
     rw [d11]
     clear d11
     go_wp2
     exact ⟨_, rfl, Below.refl _ _, rfl, fun h => absurd h (by decide)⟩
    ·have d11 : u 11 = _ := hd 11 (by omega) (by kernel_rfl)
     clear hb hd
     rw [d11]
     clear d11
     refine OpOk.late rfl ?_
     exact ⟨_, yields_extract rfl _ _ rfl _ rfl _ rfl, rfl⟩
    ·refine OpOk.now rfl ?_
     have zz := hb.size
     clear hb hd
     go_wp2
     exact ⟨_, rfl, bal (Below.refl _ _) _, ⟨_, rfl, by omega, Blk.new _ _ _⟩, fun _ => ⟨_, rfl, Nat.le_refl _, by simp⟩⟩
   case htail1 =>
    intro u A w1 hA hb hd hf
    simp only [putAll, dstOf, gtA, gtS, gtZ, Option.bind_some, Option.bind, Act.put, List.setIfInBounds_toArray, List.set_cons_succ, List.set_cons_zero] at hA; subst hA
    have e0 : u 0 = _ := hd 0 (by omega)
    have e1 : u 1 = _ := hd 1 (by omega)
    have e2 : u 2 = _ := hd 2 (by omega)
    have e3 : u 3 = _ := hd 3 (by omega)
    have e4 : u 4 = _ := hd 4 (by omega)
    have e5 : u 5 = _ := hd 5 (by omega)
    have e6 : u 6 = _ := hd 6 (by omega)
    have e7 : u 7 = _ := hd 7 (by omega)
    have e8 : u 8 = _ := hd 8 (by omega)
    have e9 : u 9 = _ := hd 9 (by omega)
    have e10 : u 10 = _ := hd 10 (by omega)
    have e11 : u 11 = _ := hd 11 (by omega)
    have e12 : u 12 = _ := hd 12 (by omega)
    have e13 : u 13 = _ := hd 13 (by omega)
    obtain ⟨g14, e14, z14, b14⟩ := hd 14 (by omega)
    first | rw [e0, e1, e2, e3, e4, e5, e6, e7, e8, e9, e10, e11, e12, e13, e14] | simp only [e0, e1, e2, e3, e4, e5, e6, e7, e8, e9, e10, e11, e12, e13, e14]
    clear e0 e1 e2 e3 e4 e5 e6 e7 e8 e9 e10 e11 e12 e13 e14
    clear hd hf
    have B3 := hI9 (below_row hb z14 #[.int .i64 l1, .int .i64 h1, .int .i64 l2, .int .i64 h2, .int .i64 l3, .int .i64 h3, .bool (xi && M.B i 10), .bool (xs && M.B i 11)])
    have T3 := hI9 (blk_row (cs := #[.int .i64 l1, .int .i64 h1, .int .i64 l2, .int .i64 h2, .int .i64 l3, .int .i64 h3, .bool (xi && M.B i 10), .bool (xs && M.B i 11)]) b14)
    have CI4 := hI9 ((B3.out.cell (p := ⟨g, j, none⟩) hgl).trans CI.out)
    have HB4 := hI9 b14
    clear HCS HCR hb z14 b14 CI
    refine wpList_store_row rfl 25 _ _ rfl g14 #[.int .i64 l1, .int .i64 h1, .int .i64 l2, .int .i64 h2, .int .i64 l3, .int .i64 h3, .bool (xi && M.B i 10), .bool (xs && M.B i 11)] rfl rfl 25 #[.int .i64 0, .int .i64 0, .int .i64 0, .int .i64 0, .int .i64 0, .int .i64 0, .bool false, .bool false] HB4.out Tryz.sizeSky rfl (oneS _ _ _ _ _ _ _ _) ?_
    simp only [Act.put]
    have S3 := hI9 (HS.out.below B3.out)
    clear HB4 HS HMB
    generalize w1.setRow g14 #[.int .i64 l1, .int .i64 h1, .int .i64 l2, .int .i64 h2, .int .i64 l3, .int .i64 h3, .bool (xi && M.B i 10), .bool (xs && M.B i 11)] = w3 at *
    cases F
    ·go_wp2_with (fail)
     dsimp only [NoPanic]
     go_wp2_with (first | (refine wpl_row rfl 25 _ rfl _ rfl _ 8 T3.out Tryz.rowSky rfl ?_; simp only [Act.put]) | (refine wpList_store_row rfl 25 _ _ rfl (w.heap.size + 2) #[.int .i64 l1, .int .i64 h1, .int .i64 l2, .int .i64 h2, .int .i64 l3, .int .i64 h3, .bool (xi && M.B i 10), .bool (xs && M.B i 11)] rfl rfl 25 #[.int .i64 a0, .int .i64 a1, .int .i64 a2, .int .i64 a3, .int .i64 a4, .int .i64 a5, .bool xi, .bool xs] S3.out Tryz.sizeSky rfl (oneS _ _ _ _ _ _ _ _) ?_; simp only [Act.put]; have C4 := hI9 ((But.of (g := w.heap.size + 2) B3.out).setRow #[.int .i64 l1, .int .i64 h1, .int .i64 l2, .int .i64 h2, .int .i64 l3, .int .i64 h3, .bool (xi && M.B i 10), .bool (xs && M.B i 11)]); have S4 := hI9 (blk_row (cs := #[.int .i64 l1, .int .i64 h1, .int .i64 l2, .int .i64 h2, .int .i64 l3, .int .i64 h3, .bool (xi && M.B i 10), .bool (xs && M.B i 11)]) S3.out); have ci := (setRow_cell_ne (w := w3) (g := w.heap.size + 2) (cs := #[.int .i64 l1, .int .i64 h1, .int .i64 l2, .int .i64 h2, .int .i64 l3, .int .i64 h3, .bool (xi && M.B i 10), .bool (xs && M.B i 11)]) (a := ⟨g, j, none⟩) (by show g ≠ _; omega)).trans CI4.out; clear B3 T3 S3 CI4; generalize w3.setRow (w.heap.size + 2) #[.int .i64 l1, .int .i64 h1, .int .i64 l2, .int .i64 h2, .int .i64 l3, .int .i64 h3, .bool (xi && M.B i 10), .bool (xs && M.B i 11)] = w4 at *; have L4 := hI9 (L2.out.world C4.out hz2 (y := ⟨l1, h1, l2, h2, l3, h3, xi && M.B i 10, xs && M.B i 11⟩) S4.out HY.out); have HN := hI9 (show M.skyP (M.ordF p t) (j + 1) = ⟨l1, h1, l2, h2, l3, h3, xi && M.B i 10, xs && M.B i 11⟩ from (by rw [MyG.next hlt HI.out HX.out, HST.out])); clear C4 S4 HY HX HST; (obtain ⟨us, hus, hou⟩ := L4.out.o); have HUS := hI9 hus; have HOU := hI9 hou; have hz4 : w2.heap.size ≤ w4.heap.size := L4.out.c.size; clear hus hou))
     go_roundg ((M.ordF p t).length - (j + 1))
     case measure => omega
     case rel => exact ⟨j + 1, by first | rfl | go_num | (congr 1; omega), by omega, Nat.le_refl _, by have := L4.out.more (show j ≤ j + 1 by omega); rw [HN.out]; exact hI9 this⟩
    ·go_wp2_with (fail)
     dsimp only [NoPanic]
     go_wp2_with (first | (refine wpl_row rfl 25 _ rfl _ rfl _ 8 T3.out Tryz.rowSky rfl ?_; simp only [Act.put]) | (refine wpList_store_row rfl 25 _ _ rfl (w.heap.size + 2) #[.int .i64 l1, .int .i64 h1, .int .i64 l2, .int .i64 h2, .int .i64 l3, .int .i64 h3, .bool (xi && M.B i 10), .bool (xs && M.B i 11)] rfl rfl 25 #[.int .i64 a0, .int .i64 a1, .int .i64 a2, .int .i64 a3, .int .i64 a4, .int .i64 a5, .bool xi, .bool xs] S3.out Tryz.sizeSky rfl (oneS _ _ _ _ _ _ _ _) ?_; simp only [Act.put]; have C4 := hI9 ((But.of (g := w.heap.size + 2) B3.out).setRow #[.int .i64 l1, .int .i64 h1, .int .i64 l2, .int .i64 h2, .int .i64 l3, .int .i64 h3, .bool (xi && M.B i 10), .bool (xs && M.B i 11)]); have S4 := hI9 (blk_row (cs := #[.int .i64 l1, .int .i64 h1, .int .i64 l2, .int .i64 h2, .int .i64 l3, .int .i64 h3, .bool (xi && M.B i 10), .bool (xs && M.B i 11)]) S3.out); have ci := (setRow_cell_ne (w := w3) (g := w.heap.size + 2) (cs := #[.int .i64 l1, .int .i64 h1, .int .i64 l2, .int .i64 h2, .int .i64 l3, .int .i64 h3, .bool (xi && M.B i 10), .bool (xs && M.B i 11)]) (a := ⟨g, j, none⟩) (by show g ≠ _; omega)).trans CI4.out; clear B3 T3 S3 CI4; generalize w3.setRow (w.heap.size + 2) #[.int .i64 l1, .int .i64 h1, .int .i64 l2, .int .i64 h2, .int .i64 l3, .int .i64 h3, .bool (xi && M.B i 10), .bool (xs && M.B i 11)] = w4 at *; have L4 := hI9 (L2.out.world C4.out hz2 (y := ⟨l1, h1, l2, h2, l3, h3, xi && M.B i 10, xs && M.B i 11⟩) S4.out HY.out); have HN := hI9 (show M.skyP (M.ordF p t) (j + 1) = ⟨l1, h1, l2, h2, l3, h3, xi && M.B i 10, xs && M.B i 11⟩ from (by rw [MyG.next hlt HI.out HX.out, HST.out])); clear C4 S4 HY HX HST; (obtain ⟨us, hus, hou⟩ := L4.out.o); have HUS := hI9 hus; have HOU := hI9 hou; have hz4 : w2.heap.size ≤ w4.heap.size := L4.out.c.size; clear hus hou) | (at_builtin; go_loud (refine wpl_appN rfl _ _ rfl w2.heap.size _ us rfl (HOU.out.alloc _) _ i rfl ?d1 ?d3 ?d2 ?_)))
     case d1 => simp [encN]
     case d3 => have := HUS.out; omega
     case d2 => simp; omega
     ·intro v5 w5 O5 G5 N5
      have L5 := hI9 ((L4.out.grow (bal (RowKit.Below.refl _ _) (.cells #[.int .i64 (i : Int)] 3))).add HUS.out (fun b hb => owns_base HOU.out hb) hz2 (by simpa using O5) G5)
      clear L4 HOU O5 G5 N5
      go_wp2_with (fail)
      go_roundg ((M.ordF p t).length - (j + 1))
      case measure => omega
      case rel => exact ⟨j + 1, by first | rfl | go_num | (congr 1; omega), by omega, Nat.le_refl _, by rw [HN.out]; exact L5⟩
  ·obtain rfl : j = (M.ordF p t).length := by omega
   have HMB := hI9 (L1.out.1.met L2.out)
   have hsky : M.skyP (M.ordF p t) (M.ordF p t).length = M.skyF (M.ordF p t) := by unfold MetD.skyP; rw [List.take_of_length_le (Nat.le_refl _)]
   have LB := hI9 (L1.out.1.below L2.out)
   have l2 := L2.out
   rw [hsky] at l2
   have L3 := hI9 l2
   clear L2 l2 hsky hgx hj hlen hlt
   go_wp2_with (first | (refine wpl_row rfl 29 _ rfl _ rfl _ 14 HMB.out Tryz.rowMet rfl ?_; simp only [Act.put]) | (go_at_call 126; refine (HSN.out _ (HA.out.below LB.out)).mono ?_; rintro e w3 ⟨vs, rfl, hb, ho, hn⟩; (obtain ⟨A4, c4, rfl⟩ := owns_slice ho hn.1); have K1 := hI9 (L1.out.1.again L3.out hb ho); clear HSN L1 L3 hb ho hn HMB LB))
   go_loopg [15] (M.ordS p t).length (fun gx i wr => ∃ j : Nat, i = .int .i64 j ∧ j ≤ (M.ordS p t).length ∧ (M.ordS p t).length - j ≤ gx ∧ Hid (MyG w w3 (M.skyQ p t j) j (.slice none 0 0) wr))
   case atStart => exact ⟨0, rfl, Nat.zero_le _, Nat.le_refl _, K1.out.2⟩
   case round =>
    obtain ⟨j, rfl, hj, hgx, L2⟩ := hrel
    have hlen := HL2.out
    by_cases hlt : j < (M.ordS p t).length
    ·have hltz : (j : Int) < ((M.ordS p t).length : Int) := by omega
     obtain ⟨A', c', hA', -, -, hrec⟩ := HA.out.s
     simp only [Value.slice.injEq] at hA'
     obtain ⟨rfl, -, rfl⟩ := hA'
     obtain ⟨g, cg, hg⟩ := K1.out.1.shape (by omega)
     simp only [Value.slice.injEq] at hg
     obtain ⟨rfl, -, rfl⟩ := hg
     obtain ⟨i, hi⟩ : ∃ q, q = (M.ordS p t).getD j 0 := ⟨_, rfl⟩
     have himt : i < M.m ∧ M.E i 1 ≤ t := by rw [hi]; exact M.sen_lt (stab_mem.1 (getD_mem _ _ hlt))
     obtain ⟨him, hit⟩ := himt
     obtain ⟨bf, off, rfl, hbf, hcell⟩ := hrec (by omega)
     have hz2 := K1.out.1.z
     have hzr := L2.out.c.size
     have hgl : g < wr.heap.size := Nat.lt_of_lt_of_le (owns_lt K1.out.1.o (b := g) rfl) hzr
     have hgb : w.heap.size + 3 ≤ g := owns_base K1.out.1.o (b := g) rfl
     have CI := hI9 (show wr.cell? ⟨g, j, none⟩ = some (.int .i64 (i : Int)) from by rw [hi]; exact K1.out.1.cell L2.out hlt)
     have HMB := hI9 (K1.out.1.met L2.out)
     have HCR := hI9 (show ∀ w3, RowKit.Below wr.heap.size wr w3 → ∀ q, q < 7 → w3.cell? ⟨bf, off + i * 7 + q, none⟩ = some (siV M.E M.C i q) from fun w3 hb3 q hq => (hb3.cell (p := ⟨bf, off + i * 7 + q, none⟩) (by show bf < _; omega)).trans (L2.out.c.cell ((K1.out.1.b.cell (p := ⟨bf, off + i * 7 + q, none⟩) hbf).trans (hcell i him q hq)) (by show bf ≠ _; omega)))
     have x1 : (i : Int) < (M.m : Int) := by omega
     have hm20 := HM.out.m
     have sa := HM.out.sa i him
     have hs := L2.out.s
     have hk := L2.out.k
     rcases hx : M.skyQ p t j with ⟨a0, a1, a2, a3, a4, a5, xi, xs⟩
     rw [hx] at hs hk
     have hy := HM.out.stepS hk him hit
     have ok1 := Sk.inr_ok hk
     have ok2 := Sk.inr_ok (HM.out.si (t := t) him hit)
     have HS := hI9 (show Blk wr (w.heap.size + 2) 25 #[.int .i64 a0, .int .i64 a1, .int .i64 a2, .int .i64 a3, .int .i64 a4, .int .i64 a5, .bool xi, .bool xs] from hs)
     have HX := hI9 hx
     have HI := hI9 hi
     clear hx hi hs hk hcell hrec
     obtain ⟨nn, hnn⟩ : ∃ q, q = t - M.E i 1 := ⟨_, rfl⟩
     have znn : t - M.E i 1 = nn := hnn.symm
     have hn1 : 0 ≤ nn := by omega
     have hn2 : nn ≤ 2000 := by omega
     obtain ⟨p1, hp1⟩ : ∃ q, q = (t - M.E i 1) * M.mw := ⟨_, rfl⟩
     obtain ⟨p2, hp2⟩ : ∃ q, q = (t - M.E i 1) * M.ms := ⟨_, rfl⟩
     obtain ⟨p3, hp3⟩ : ∃ q, q = (t - M.E i 1) * M.mc := ⟨_, rfl⟩
     have hsi : M.si t i = ⟨neL (M.E i 2) p1 300, neH (M.E i 2) p1 300, neL (M.E i 3) p2 20000, neH (M.E i 3) p2 20000, neL (M.E i 4) p3 20000, neH (M.E i 4) p3 20000, false, false⟩ := by unfold MetD.si; rw [hp1, hp2, hp3]
     have hst : M.stepS t (Sk.mk a0 a1 a2 a3 a4 a5 xi xs) i = if nn = 0 then ⟨cuL a0 a1 (neL (M.E i 2) p1 300) (neH (M.E i 2) p1 300), cuH a0 a1 (neL (M.E i 2) p1 300) (neH (M.E i 2) p1 300), cuL a2 a3 (neL (M.E i 3) p2 20000) (neH (M.E i 3) p2 20000), cuH a2 a3 (neL (M.E i 3) p2 20000) (neH (M.E i 3) p2 20000), cuL a4 a5 (neL (M.E i 4) p3 20000) (neH (M.E i 4) p3 20000), cuH a4 a5 (neL (M.E i 4) p3 20000) (neH (M.E i 4) p3 20000), M.C i 5, M.C i 6⟩ else ⟨cuL a0 a1 (neL (M.E i 2) p1 300) (neH (M.E i 2) p1 300), cuH a0 a1 (neL (M.E i 2) p1 300) (neH (M.E i 2) p1 300), cuL a2 a3 (neL (M.E i 3) p2 20000) (neH (M.E i 3) p2 20000), cuH a2 a3 (neL (M.E i 3) p2 20000) (neH (M.E i 3) p2 20000), cuL a4 a5 (neL (M.E i 4) p3 20000) (neH (M.E i 4) p3 20000), cuH a4 a5 (neL (M.E i 4) p3 20000) (neH (M.E i 4) p3 20000), xi, xs⟩ := by unfold MetD.stepS; rw [hsi, znn]; rfl
     rw [hst] at hy
     rw [hsi] at ok2
     unfold Sk.ok at ok1 ok2
     have mw := HM.out.mw
     have ms := HM.out.ms
     have mc := HM.out.mc
     have d1 := mul_bd (a := t - M.E i 1) (b := M.mw) (A := 2000) (B := 20000) (by omega) (by omega) (by omega) (by omega)
     have d2 := mul_bd (a := t - M.E i 1) (b := M.ms) (A := 2000) (B := 20000) (by omega) (by omega) (by omega) (by omega)
     have d3 := mul_bd (a := t - M.E i 1) (b := M.mc) (A := 2000) (B := 20000) (by omega) (by omega) (by omega) (by omega)
     rw [← hp1] at d1
     rw [← hp2] at d2
     rw [← hp3] at d3
     have EQ1 := hI9 (show wrap64 (nn * M.mw) = p1 by rw [← znn, ← hp1]; exact wrap64_in (by omega) (by omega))
     have EQ2 := hI9 (show wrap64 (nn * M.ms) = p2 by rw [← znn, ← hp2]; exact wrap64_in (by omega) (by omega))
     have EQ3 := hI9 (show wrap64 (nn * M.mc) = p3 by rw [← znn, ← hp3]; exact wrap64_in (by omega) (by omega))
     have v2 := HM.out.sw i him
     have v3 := HM.out.ss i him
     have v4 := HM.out.sc i him
     have e1 : 0 ≤ p1 := by rw [hp1]; exact Int.mul_nonneg (by omega) mw.1
     have e2 : 0 ≤ p2 := by rw [hp2]; exact Int.mul_nonneg (by omega) ms.1
     have e3 : 0 ≤ p3 := by rw [hp3]; exact Int.mul_nonneg (by omega) mc.1
     have n1 := fun w1 => rw_around_c (M.E i 2) p1 300 w1 (by omega) (by omega) (by omega) (by omega) (by omega) (by omega) (by omega) (by omega)
     have n2 := fun w1 => rw_around_c (M.E i 3) p2 20000 w1 (by omega) (by omega) (by omega) (by omega) (by omega) (by omega) (by omega) (by omega)
     have n3 := fun w1 => rw_around_c (M.E i 4) p3 20000 w1 (by omega) (by omega) (by omega) (by omega) (by omega) (by omega) (by omega) (by omega)
     have u1 := fun w1 => rw_cut_c a0 a1 (neL (M.E i 2) p1 300) (neH (M.E i 2) p1 300) w1 ok1.1 ok2.1
     have u2 := fun w1 => rw_cut_c a2 a3 (neL (M.E i 3) p2 20000) (neH (M.E i 3) p2 20000) w1 ok1.2.1 ok2.2.1
     have u3 := fun w1 => rw_cut_c a4 a5 (neL (M.E i 4) p3 20000) (neH (M.E i 4) p3 20000) w1 ok1.2.2 ok2.2.2
     clear e1 e2 e3 hp1 hp2 hp3 d1 d2 d3 mw ms mc v2 v3 v4 ok1 ok2 hsi hnn
     generalize neL (M.E i 2) p1 300 = l1 at *
     generalize neH (M.E i 2) p1 300 = h1 at *
     generalize neL (M.E i 3) p2 20000 = l2 at *
     generalize neH (M.E i 3) p2 20000 = h2 at *
     generalize neL (M.E i 4) p3 20000 = l3 at *
     generalize neH (M.E i 4) p3 20000 = h3 at *
     generalize cuL a0 a1 l1 h1 = b0 at *
     generalize cuH a0 a1 l1 h1 = b1 at *
     generalize cuF a0 a1 l1 h1 = F1 at *
     generalize cuL a2 a3 l2 h2 = b2 at *
     generalize cuH a2 a3 l2 h2 = b3 at *
     generalize cuF a2 a3 l2 h2 = F2 at *
     generalize cuL a4 a5 l3 h3 = b4 at *
     generalize cuH a4 a5 l3 h3 = b5 at *
     generalize cuF a4 a5 l3 h3 = F3 at *
     have N1 := hI9 n1
     have N2 := hI9 n2
     have N3 := hI9 n3
     have U1 := hI9 u1
     have U2 := hI9 u2
     have U3 := hI9 u3
     have HST := hI9 hst
     have HY := hI9 hy
     clear n1 n2 n3 u1 u2 u3 hst hy
     go_wp2_with (fail)
     refine wp_region_spec 9 (r15R wr.heap.size w.heap.size bf off g j i M.m cS (M.ordS p t).length c4 (M.E i 0) (M.E i 1) (M.E i 2) (M.E i 3) (M.E i 4) (M.C i 5) (M.C i 6)) (fun i => decide (i = 8)) (by kernel_rfl) (by kernel_rfl) r15R_below ?hop2 ?htail2
     case hop2 =>
      simp only [List.take_succ_cons, List.take_zero, allOps]
      refine ⟨?_, ?_, ?_, ?_, ?_, ?_, ?_, ?_, ?_, trivial⟩
      all_goals intro u A w1 hA hb hd
      all_goals simp only [putAll, dstOf, gtA, gtS, gtZ, Option.bind_some, Option.bind, Act.put, List.setIfInBounds_toArray, List.set_cons_succ, List.set_cons_zero] at hA; subst hA
      all_goals have HB1 := hI9 hb
      ·clear hb hd
       go_wp2
       exact ⟨_, rfl, Below.refl _ _, rfl, fun h => absurd h (by decide)⟩
      ·have d0 : u 0 = _ := hd 0 (by omega) (by kernel_rfl)
       clear hb hd
       rw [d0]
       clear d0
       have c := (HMB.out.below HB1.out).cell 13
       go_wp2
       exact ⟨_, rfl, Below.refl _ _, rfl, fun h => absurd h (by decide)⟩
      ·clear hb hd
       go_wp2
       exact ⟨_, rfl, Below.refl _ _, rfl, fun h => absurd h (by decide)⟩
      ·clear hb hd
       go_wp2
       exact ⟨_, rfl, Below.refl _ _, rfl, fun h => absurd h (by decide)⟩
      ·have d2 : u 2 = _ := hd 2 (by omega) (by kernel_rfl)
       have d3 : u 3 = _ := hd 3 (by omega) (by kernel_rfl)
       clear hb hd
       rw [d2, d3]
       clear d2 d3
       go_wp2
       exact ⟨_, rfl, Below.refl _ _, rfl, fun h => absurd h (by decide)⟩
      ·have d4 : u 4 = _ := hd 4 (by omega) (by kernel_rfl)
       clear hb hd
       rw [d4]
       clear d4
       have c := (HB1.out.cell (p := ⟨g, j, none⟩) hgl).trans CI.out
       go_wp2
       exact ⟨_, rfl, Below.refl _ _, rfl, fun h => absurd h (by decide)⟩
      ·have d1 : u 1 = _ := hd 1 (by omega) (by kernel_rfl)
       have d5 : u 5 = _ := hd 5 (by omega) (by kernel_rfl)
       clear hb hd
       rw [d1, d5]
       clear d1 d5
       go_wp2
       exact ⟨_, rfl, Below.refl _ _, rfl, fun h => absurd h (by decide)⟩
      ·have d6 : u 6 = _ := hd 6 (by omega) (by kernel_rfl)
       clear hb hd
       rw [d6]
       clear d6
       have c0 : w1.cell? ⟨bf, off + i * 7, none⟩ = some (.int .i64 (M.E i 0)) := HCR.out _ HB1.out 0 (by omega)
       have c1 : w1.cell? ⟨bf, off + i * 7 + 1, none⟩ = some (.int .i64 (M.E i 1)) := HCR.out _ HB1.out 1 (by omega)
       have c2 : w1.cell? ⟨bf, off + i * 7 + 2, none⟩ = some (.int .i64 (M.E i 2)) := HCR.out _ HB1.out 2 (by omega)
       have c3 : w1.cell? ⟨bf, off + i * 7 + 3, none⟩ = some (.int .i64 (M.E i 3)) := HCR.out _ HB1.out 3 (by omega)
       have c4 : w1.cell? ⟨bf, off + i * 7 + 4, none⟩ = some (.int .i64 (M.E i 4)) := HCR.out _ HB1.out 4 (by omega)
       have c5 : w1.cell? ⟨bf, off + i * 7 + 5, none⟩ = some (.bool (M.C i 5)) := HCR.out _ HB1.out 5 (by omega)
       have c6 : w1.cell? ⟨bf, off + i * 7 + 6, none⟩ = some (.bool (M.C i 6)) := HCR.out _ HB1.out 6 (by omega)
       go_wp2
       exact ⟨_, rfl, Below.refl _ _, rfl, fun h => absurd h (by decide)⟩
      ·have zz := hb.size
       clear hb hd
       go_wp2
       exact ⟨_, rfl, bal (Below.refl _ _) _, ⟨_, rfl, by omega, Blk.new _ _ _⟩, fun _ => ⟨_, rfl, Nat.le_refl _, by simp⟩⟩
     case htail2 =>
      intro u A w1 hA hb hd hf
      simp only [putAll, dstOf, gtA, gtS, gtZ, Option.bind_some, Option.bind, Act.put, List.setIfInBounds_toArray, List.set_cons_succ, List.set_cons_zero] at hA; subst hA
      have e0 : u 0 = _ := hd 0 (by omega)
      have e1 : u 1 = _ := hd 1 (by omega)
      have e2 : u 2 = _ := hd 2 (by omega)
      have e3 : u 3 = _ := hd 3 (by omega)
      have e4 : u 4 = _ := hd 4 (by omega)
      have e5 : u 5 = _ := hd 5 (by omega)
      have e6 : u 6 = _ := hd 6 (by omega)
      have e7 : u 7 = _ := hd 7 (by omega)
      obtain ⟨g8, e8, z8, b8⟩ := hd 8 (by omega)
      first | rw [e0, e1, e2, e3, e4, e5, e6, e7, e8] | simp only [e0, e1, e2, e3, e4, e5, e6, e7, e8]
      clear e0 e1 e2 e3 e4 e5 e6 e7 e8
      clear hd hf
      have B3 := hI9 (below_row hb z8 #[.int .i64 (M.E i 0), .int .i64 (M.E i 1), .int .i64 (M.E i 2), .int .i64 (M.E i 3), .int .i64 (M.E i 4), .bool (M.C i 5), .bool (M.C i 6)])
      have T3 := hI9 (blk_row (cs := #[.int .i64 (M.E i 0), .int .i64 (M.E i 1), .int .i64 (M.E i 2), .int .i64 (M.E i 3), .int .i64 (M.E i 4), .bool (M.C i 5), .bool (M.C i 6)]) b8)
      have HB4 := hI9 b8
      have hgT : g8 ≠ w.heap.size + 2 := by omega
      clear HCR hb b8 CI
      refine wpList_store_row rfl 101 _ _ rfl g8 #[.int .i64 (M.E i 0), .int .i64 (M.E i 1), .int .i64 (M.E i 2), .int .i64 (M.E i 3), .int .i64 (M.E i 4), .bool (M.C i 5), .bool (M.C i 6)] rfl rfl 101 #[.int .i64 0, .int .i64 0, .int .i64 0, .int .i64 0, .int .i64 0, .bool false, .bool false] HB4.out Tryz.sizeSight rfl (oneG _ _ _ _ _ _ _) ?_
      simp only [Act.put]
      have S3 := hI9 (HS.out.below B3.out)
      have M3 := hI9 (HMB.out.below B3.out)
      have C3 := hI9 (But.of (g := w.heap.size + 2) B3.out)
      clear HB4 HS HMB B3
      generalize w1.setRow g8 #[.int .i64 (M.E i 0), .int .i64 (M.E i 1), .int .i64 (M.E i 2), .int .i64 (M.E i 3), .int .i64 (M.E i 4), .bool (M.C i 5), .bool (M.C i 6)] = W0 at *
      have t1 := T3.out.cell 1
      simp only [gtA, gtS, gtZ] at t1
      go_wp2_with (fail)
      try dsimp only [NoPanic]
      go_wp2_with (fail)
      clear t1
      have HT := T3
      have HS := S3
      have HMB := M3
      have HC := C3
      clear T3 S3 M3 C3
      refine wp_region_specL 14 [13] (r17R (w.heap.size + 2) g8 w.heap.size 0 1 2 9 a0 a1 (M.E i 2) nn M.mw p1 l1 h1 b0 b1 F1) (fun i => false) (by kernel_rfl) (by kernel_rfl) (by decide) r17R_below ?hop3 ?htail3
      case hop3 =>
       simp only [List.take_succ_cons, List.take_zero, allOps]
       refine ⟨?_, ?_, ?_, ?_, ?_, ?_, ?_, ?_, ?_, ?_, ?_, ?_, ?_, ?_, trivial⟩
       all_goals intro u A w1 hA hb hd
       all_goals simp only [putAll, dstOf, gtA, gtS, gtZ, Option.bind_some, Option.bind, Act.put, List.setIfInBounds_toArray, List.set_cons_succ, List.set_cons_zero] at hA; subst hA
       all_goals have HB1 := hI9 hb
       ·refine OpOk.now rfl ?_
        clear hb hd
        go_wp2
        exact ⟨_, rfl, Below.refl _ _, rfl, fun h => absurd h (by decide)⟩
       ·refine OpOk.now rfl ?_
        have d0 : u 0 = _ := hd 0 (by omega) (by kernel_rfl)
        clear hb hd
        rw [d0]
        clear d0
        have c := (HS.out.below HB1.out).cell 0
        have d := (HS.out.below HB1.out).cell 1
        go_wp2
        exact ⟨_, rfl, Below.refl _ _, rfl, fun h => absurd h (by decide)⟩
       ·refine OpOk.now rfl ?_
        clear hb hd
        go_wp2
        exact ⟨_, rfl, Below.refl _ _, rfl, fun h => absurd h (by decide)⟩
       ·refine OpOk.now rfl ?_
        have d2 : u 2 = _ := hd 2 (by omega) (by kernel_rfl)
        clear hb hd
        rw [d2]
        clear d2
        go_wp2
        exact ⟨_, rfl, Below.refl _ _, rfl, fun h => absurd h (by decide)⟩
       ·refine OpOk.now rfl ?_
        have d3 : u 3 = _ := hd 3 (by omega) (by kernel_rfl)
        clear hb hd
        rw [d3]
        clear d3
        have c := (HT.out.below HB1.out).cell 2
        go_wp2
        exact ⟨_, rfl, Below.refl _ _, rfl, fun h => absurd h (by decide)⟩
       ·refine OpOk.now rfl ?_
        clear hb hd
        go_wp2
        exact ⟨_, rfl, Below.refl _ _, rfl, fun h => absurd h (by decide)⟩
       ·refine OpOk.now rfl ?_
        clear hb hd
        go_wp2
        exact ⟨_, rfl, Below.refl _ _, rfl, fun h => absurd h (by decide)⟩
       ·refine OpOk.now rfl ?_
        have d6 : u 6 = _ := hd 6 (by omega) (by kernel_rfl)
        clear hb hd
        rw [d6]
        clear d6
        have c := (HMB.out.below HB1.out).cell 9
        go_wp2
        exact ⟨_, rfl, Below.refl _ _, rfl, fun h => absurd h (by decide)⟩
       ·refine OpOk.now rfl ?_
        have d5 : u 5 = _ := hd 5 (by omega) (by kernel_rfl)
        have d7 : u 7 = _ := hd 7 (by omega) (by kernel_rfl)
        clear hb hd
        rw [d5, d7]
        clear d5 d7
        go_wp2
        exact ⟨_, rfl, RowKit.Below.refl _ _, (show Value.int .i64 (wrap64 (nn * M.mw)) = .int .i64 p1 by rw [EQ1.out]), fun h => absurd h (by decide)⟩
       ·refine OpOk.now rfl ?_
        have d4 : u 4 = _ := hd 4 (by omega) (by kernel_rfl)
        have d8 : u 8 = _ := hd 8 (by omega) (by kernel_rfl)
        clear hb hd
        rw [d4, d8]
        clear d4 d8
        go_wp2_with (go_at_call 128; (with_reducible refine (N1.out _).mono ?_); rintro e w2 ⟨rfl, hb2⟩)
        exact ⟨_, rfl, hb2, rfl, fun h => absurd h (by decide)⟩
       ·refine OpOk.now rfl ?_
        have d1 : u 1 = _ := hd 1 (by omega) (by kernel_rfl)
        have d9 : u 9 = _ := hd 9 (by omega) (by kernel_rfl)
        clear hb hd
        rw [d1, d9]
        clear d1 d9
        go_wp2_with (go_at_call 127; (with_reducible refine (U1.out _).mono ?_); rintro e w2 ⟨rfl, hb2⟩)
        exact ⟨_, rfl, hb2, rfl, fun h => absurd h (by decide)⟩
       ·refine OpOk.now rfl ?_
        have d10 : u 10 = _ := hd 10 (by omega) (by kernel_rfl)
        clear hb hd
        rw [d10]
        clear d10
        go_wp2
        exact ⟨_, rfl, Below.refl _ _, rfl, fun h => absurd h (by decide)⟩
       ·refine OpOk.now rfl ?_
        have d11 : u 11 = _ := hd 11 (by omega) (by kernel_rfl)
        clear hb hd
        rw [d11]
        clear d11
        go_wp2
        exact ⟨_, rfl, Below.refl _ _, rfl, fun h => absurd h (by decide)⟩
       ·have d11 : u 11 = _ := hd 11 (by omega) (by kernel_rfl)
        clear hb hd
        rw [d11]
        clear d11
        refine OpOk.late rfl ?_
        exact ⟨_, yields_extract rfl _ _ rfl _ rfl _ rfl, rfl⟩
      case htail3 =>
       intro u A w1 hA hb hd hf
       simp only [putAll, dstOf, gtA, gtS, gtZ, Option.bind_some, Option.bind, Act.put, List.setIfInBounds_toArray, List.set_cons_succ, List.set_cons_zero] at hA; subst hA
       have e0 : u 0 = _ := hd 0 (by omega)
       have e1 : u 1 = _ := hd 1 (by omega)
       have e2 : u 2 = _ := hd 2 (by omega)
       have e3 : u 3 = _ := hd 3 (by omega)
       have e4 : u 4 = _ := hd 4 (by omega)
       have e5 : u 5 = _ := hd 5 (by omega)
       have e6 : u 6 = _ := hd 6 (by omega)
       have e7 : u 7 = _ := hd 7 (by omega)
       have e8 : u 8 = _ := hd 8 (by omega)
       have e9 : u 9 = _ := hd 9 (by omega)
       have e10 : u 10 = _ := hd 10 (by omega)
       have e11 : u 11 = _ := hd 11 (by omega)
       have e12 : u 12 = _ := hd 12 (by omega)
       have e13 : u 13 = _ := hd 13 (by omega)
       first | rw [e0, e1, e2, e3, e4, e5, e6, e7, e8, e9, e10, e11, e12, e13] | simp only [e0, e1, e2, e3, e4, e5, e6, e7, e8, e9, e10, e11, e12, e13]
       clear e0 e1 e2 e3 e4 e5 e6 e7 e8 e9 e10 e11 e12 e13
       clear hd hf
       have T1 := hI9 (HT.out.below hb)
       have S1 := hI9 (HS.out.below hb)
       have M1 := hI9 (HMB.out.below hb)
       have C1 := hI9 (HC.out.trans (But.of hb))
       clear HT HS HMB HC hb
       have cA := S1.out.cell 0
       have cB := S1.out.cell 1
       have fz := fun i => S1.out.frozen i
       simp only [gtA, gtS, gtZ] at cA cB
       go_wp2_with (fail)
       try dsimp only [NoPanic]
       go_wp2_with (fail)
       have HS := hI9 (show Blk ((w1.setCell ⟨w.heap.size + 2, 0, none⟩ (.int .i64 b0)).setCell ⟨w.heap.size + 2, 1, none⟩ (.int .i64 b1)) (w.heap.size + 2) 25 #[.int .i64 b0, .int .i64 b1, .int .i64 a2, .int .i64 a3, .int .i64 a4, .int .i64 a5, .bool xi, .bool xs] from (S1.out.set_ 0 _).set_ 1 _)
       have HT := hI9 ((T1.out.far' hgT (i := 0) (.int .i64 b0)).far' hgT (i := 1) (.int .i64 b1))
       have HMB := hI9 ((M1.out.far' (f := w.heap.size + 2) (by omega) (i := 0) (.int .i64 b0)).far' (f := w.heap.size + 2) (by omega) (i := 1) (.int .i64 b1))
       have HC := hI9 ((C1.out.set (i := 0) (.int .i64 b0)).set (i := 1) (.int .i64 b1))
       clear S1 T1 M1 C1 cA cB fz
       generalize (w1.setCell ⟨w.heap.size + 2, 0, none⟩ (.int .i64 b0)).setCell ⟨w.heap.size + 2, 1, none⟩ (.int .i64 b1) = W1 at *
       refine wp_region_specL 14 [13] (r17R (w.heap.size + 2) g8 w.heap.size 2 3 3 10 a2 a3 (M.E i 3) nn M.ms p2 l2 h2 b2 b3 F2) (fun i => false) (by kernel_rfl) (by kernel_rfl) (by decide) r17R_below ?hop4 ?htail4
       case hop4 =>
        simp only [List.take_succ_cons, List.take_zero, allOps]
        refine ⟨?_, ?_, ?_, ?_, ?_, ?_, ?_, ?_, ?_, ?_, ?_, ?_, ?_, ?_, trivial⟩
        all_goals intro u A w1 hA hb hd
        all_goals simp only [putAll, dstOf, gtA, gtS, gtZ, Option.bind_some, Option.bind, Act.put, List.setIfInBounds_toArray, List.set_cons_succ, List.set_cons_zero] at hA; subst hA
        all_goals have HB1 := hI9 hb
        ·refine OpOk.now rfl ?_
         clear hb hd
         go_wp2
         exact ⟨_, rfl, Below.refl _ _, rfl, fun h => absurd h (by decide)⟩
        ·refine OpOk.now rfl ?_
         have d0 : u 0 = _ := hd 0 (by omega) (by kernel_rfl)
         clear hb hd
         rw [d0]
         clear d0
         have c := (HS.out.below HB1.out).cell 2
         have d := (HS.out.below HB1.out).cell 3
         go_wp2
         exact ⟨_, rfl, Below.refl _ _, rfl, fun h => absurd h (by decide)⟩
        ·refine OpOk.now rfl ?_
         clear hb hd
         go_wp2
         exact ⟨_, rfl, Below.refl _ _, rfl, fun h => absurd h (by decide)⟩
        ·refine OpOk.now rfl ?_
         have d2 : u 2 = _ := hd 2 (by omega) (by kernel_rfl)
         clear hb hd
         rw [d2]
         clear d2
         go_wp2
         exact ⟨_, rfl, Below.refl _ _, rfl, fun h => absurd h (by decide)⟩
        ·refine OpOk.now rfl ?_
         have d3 : u 3 = _ := hd 3 (by omega) (by kernel_rfl)
         clear hb hd
         rw [d3]
         clear d3
         have c := (HT.out.below HB1.out).cell 3
         go_wp2
         exact ⟨_, rfl, Below.refl _ _, rfl, fun h => absurd h (by decide)⟩
        ·refine OpOk.now rfl ?_
         clear hb hd
         go_wp2
         exact ⟨_, rfl, Below.refl _ _, rfl, fun h => absurd h (by decide)⟩
        ·refine OpOk.now rfl ?_
         clear hb hd
         go_wp2
         exact ⟨_, rfl, Below.refl _ _, rfl, fun h => absurd h (by decide)⟩
        ·refine OpOk.now rfl ?_
         have d6 : u 6 = _ := hd 6 (by omega) (by kernel_rfl)
         clear hb hd
         rw [d6]
         clear d6
         have c := (HMB.out.below HB1.out).cell 10
         go_wp2
         exact ⟨_, rfl, Below.refl _ _, rfl, fun h => absurd h (by decide)⟩
        ·refine OpOk.now rfl ?_
         have d5 : u 5 = _ := hd 5 (by omega) (by kernel_rfl)
         have d7 : u 7 = _ := hd 7 (by omega) (by kernel_rfl)
         clear hb hd
         rw [d5, d7]
         clear d5 d7
         go_wp2
         exact ⟨_, rfl, RowKit.Below.refl _ _, (show Value.int .i64 (wrap64 (nn * M.ms)) = .int .i64 p2 by rw [EQ2.out]), fun h => absurd h (by decide)⟩
        ·refine OpOk.now rfl ?_
         have d4 : u 4 = _ := hd 4 (by omega) (by kernel_rfl)
         have d8 : u 8 = _ := hd 8 (by omega) (by kernel_rfl)
         clear hb hd
         rw [d4, d8]
         clear d4 d8
         go_wp2_with (go_at_call 128; (with_reducible refine (N2.out _).mono ?_); rintro e w2 ⟨rfl, hb2⟩)
         exact ⟨_, rfl, hb2, rfl, fun h => absurd h (by decide)⟩
        ·refine OpOk.now rfl ?_
         have d1 : u 1 = _ := hd 1 (by omega) (by kernel_rfl)
         have d9 : u 9 = _ := hd 9 (by omega) (by kernel_rfl)
         clear hb hd
         rw [d1, d9]
         clear d1 d9
         go_wp2_with (go_at_call 127; (with_reducible refine (U2.out _).mono ?_); rintro e w2 ⟨rfl, hb2⟩)
         exact ⟨_, rfl, hb2, rfl, fun h => absurd h (by decide)⟩
        ·refine OpOk.now rfl ?_
         have d10 : u 10 = _ := hd 10 (by omega) (by kernel_rfl)
         clear hb hd
         rw [d10]
         clear d10
         go_wp2
         exact ⟨_, rfl, Below.refl _ _, rfl, fun h => absurd h (by decide)⟩
        ·refine OpOk.now rfl ?_
         have d11 : u 11 = _ := hd 11 (by omega) (by kernel_rfl)
         clear hb hd
         rw [d11]
         clear d11
         go_wp2
         exact ⟨_, rfl, Below.refl _ _, rfl, fun h => absurd h (by decide)⟩
        ·have d11 : u 11 = _ := hd 11 (by omega) (by kernel_rfl)
         clear hb hd
         rw [d11]
         clear d11
         refine OpOk.late rfl ?_
         exact ⟨_, yields_extract rfl _ _ rfl _ rfl _ rfl, rfl⟩
       case htail4 =>
        intro u A w1 hA hb hd hf
        simp only [putAll, dstOf, gtA, gtS, gtZ, Option.bind_some, Option.bind, Act.put, List.setIfInBounds_toArray, List.set_cons_succ, List.set_cons_zero] at hA; subst hA
        have e0 : u 0 = _ := hd 0 (by omega)
        have e1 : u 1 = _ := hd 1 (by omega)
        have e2 : u 2 = _ := hd 2 (by omega)
        have e3 : u 3 = _ := hd 3 (by omega)
        have e4 : u 4 = _ := hd 4 (by omega)
        have e5 : u 5 = _ := hd 5 (by omega)
        have e6 : u 6 = _ := hd 6 (by omega)
        have e7 : u 7 = _ := hd 7 (by omega)
        have e8 : u 8 = _ := hd 8 (by omega)
        have e9 : u 9 = _ := hd 9 (by omega)
        have e10 : u 10 = _ := hd 10 (by omega)
        have e11 : u 11 = _ := hd 11 (by omega)
        have e12 : u 12 = _ := hd 12 (by omega)
        have e13 : u 13 = _ := hd 13 (by omega)
        first | rw [e0, e1, e2, e3, e4, e5, e6, e7, e8, e9, e10, e11, e12, e13] | simp only [e0, e1, e2, e3, e4, e5, e6, e7, e8, e9, e10, e11, e12, e13]
        clear e0 e1 e2 e3 e4 e5 e6 e7 e8 e9 e10 e11 e12 e13
        clear hd hf
        have T1 := hI9 (HT.out.below hb)
        have S1 := hI9 (HS.out.below hb)
        have M1 := hI9 (HMB.out.below hb)
        have C1 := hI9 (HC.out.trans (But.of hb))
        clear HT HS HMB HC hb
        have cA := S1.out.cell 2
        have cB := S1.out.cell 3
        have fz := fun i => S1.out.frozen i
        simp only [gtA, gtS, gtZ] at cA cB
        go_wp2_with (fail)
        try dsimp only [NoPanic]
        go_wp2_with (fail)
        have HS := hI9 (show Blk ((w1.setCell ⟨w.heap.size + 2, 2, none⟩ (.int .i64 b2)).setCell ⟨w.heap.size + 2, 3, none⟩ (.int .i64 b3)) (w.heap.size + 2) 25 #[.int .i64 b0, .int .i64 b1, .int .i64 b2, .int .i64 b3, .int .i64 a4, .int .i64 a5, .bool xi, .bool xs] from (S1.out.set_ 2 _).set_ 3 _)
        have HT := hI9 ((T1.out.far' hgT (i := 2) (.int .i64 b2)).far' hgT (i := 3) (.int .i64 b3))
        have HMB := hI9 ((M1.out.far' (f := w.heap.size + 2) (by omega) (i := 2) (.int .i64 b2)).far' (f := w.heap.size + 2) (by omega) (i := 3) (.int .i64 b3))
        have HC := hI9 ((C1.out.set (i := 2) (.int .i64 b2)).set (i := 3) (.int .i64 b3))
        clear S1 T1 M1 C1 cA cB fz
        generalize (w1.setCell ⟨w.heap.size + 2, 2, none⟩ (.int .i64 b2)).setCell ⟨w.heap.size + 2, 3, none⟩ (.int .i64 b3) = W2 at *
        refine wp_region_specL 14 [13] (r17R (w.heap.size + 2) g8 w.heap.size 4 5 4 11 a4 a5 (M.E i 4) nn M.mc p3 l3 h3 b4 b5 F3) (fun i => false) (by kernel_rfl) (by kernel_rfl) (by decide) r17R_below ?hop5 ?htail5
        case hop5 =>
         simp only [List.take_succ_cons, List.take_zero, allOps]
         refine ⟨?_, ?_, ?_, ?_, ?_, ?_, ?_, ?_, ?_, ?_, ?_, ?_, ?_, ?_, trivial⟩
         all_goals intro u A w1 hA hb hd
         all_goals simp only [putAll, dstOf, gtA, gtS, gtZ, Option.bind_some, Option.bind, Act.put, List.setIfInBounds_toArray, List.set_cons_succ, List.set_cons_zero] at hA; subst hA
         all_goals have HB1 := hI9 hb
         ·refine OpOk.now rfl ?_
          clear hb hd
          go_wp2
          exact ⟨_, rfl, Below.refl _ _, rfl, fun h => absurd h (by decide)⟩
         ·refine OpOk.now rfl ?_
          have d0 : u 0 = _ := hd 0 (by omega) (by kernel_rfl)
          clear hb hd
          rw [d0]
          clear d0
          have c := (HS.out.below HB1.out).cell 4
          have d := (HS.out.below HB1.out).cell 5
          go_wp2
          exact ⟨_, rfl, Below.refl _ _, rfl, fun h => absurd h (by decide)⟩
         ·refine OpOk.now rfl ?_
          clear hb hd
          go_wp2
          exact ⟨_, rfl, Below.refl _ _, rfl, fun h => absurd h (by decide)⟩
         ·refine OpOk.now rfl ?_
          have d2 : u 2 = _ := hd 2 (by omega) (by kernel_rfl)
          clear hb hd
          rw [d2]
          clear d2
          go_wp2
          exact ⟨_, rfl, Below.refl _ _, rfl, fun h => absurd h (by decide)⟩
         ·refine OpOk.now rfl ?_
          have d3 : u 3 = _ := hd 3 (by omega) (by kernel_rfl)
          clear hb hd
          rw [d3]
          clear d3
          have c := (HT.out.below HB1.out).cell 4
          go_wp2
          exact ⟨_, rfl, Below.refl _ _, rfl, fun h => absurd h (by decide)⟩
         ·refine OpOk.now rfl ?_
          clear hb hd
          go_wp2
          exact ⟨_, rfl, Below.refl _ _, rfl, fun h => absurd h (by decide)⟩
         ·refine OpOk.now rfl ?_
          clear hb hd
          go_wp2
          exact ⟨_, rfl, Below.refl _ _, rfl, fun h => absurd h (by decide)⟩
         ·refine OpOk.now rfl ?_
          have d6 : u 6 = _ := hd 6 (by omega) (by kernel_rfl)
          clear hb hd
          rw [d6]
          clear d6
          have c := (HMB.out.below HB1.out).cell 11
          go_wp2
          exact ⟨_, rfl, Below.refl _ _, rfl, fun h => absurd h (by decide)⟩
         ·refine OpOk.now rfl ?_
          have d5 : u 5 = _ := hd 5 (by omega) (by kernel_rfl)
          have d7 : u 7 = _ := hd 7 (by omega) (by kernel_rfl)
          clear hb hd
          rw [d5, d7]
          clear d5 d7
          go_wp2
          exact ⟨_, rfl, RowKit.Below.refl _ _, (show Value.int .i64 (wrap64 (nn * M.mc)) = .int .i64 p3 by rw [EQ3.out]), fun h => absurd h (by decide)⟩
         ·refine OpOk.now rfl ?_
          have d4 : u 4 = _ := hd 4 (by omega) (by kernel_rfl)
          have d8 : u 8 = _ := hd 8 (by omega) (by kernel_rfl)
          clear hb hd
          rw [d4, d8]
          clear d4 d8
          go_wp2_with (go_at_call 128; (with_reducible refine (N3.out _).mono ?_); rintro e w2 ⟨rfl, hb2⟩)
          exact ⟨_, rfl, hb2, rfl, fun h => absurd h (by decide)⟩
         ·refine OpOk.now rfl ?_
          have d1 : u 1 = _ := hd 1 (by omega) (by kernel_rfl)
          have d9 : u 9 = _ := hd 9 (by omega) (by kernel_rfl)
          clear hb hd
          rw [d1, d9]
          clear d1 d9
          go_wp2_with (go_at_call 127; (with_reducible refine (U3.out _).mono ?_); rintro e w2 ⟨rfl, hb2⟩)
          exact ⟨_, rfl, hb2, rfl, fun h => absurd h (by decide)⟩
         ·refine OpOk.now rfl ?_
          have d10 : u 10 = _ := hd 10 (by omega) (by kernel_rfl)
          clear hb hd
          rw [d10]
          clear d10
          go_wp2
          exact ⟨_, rfl, Below.refl _ _, rfl, fun h => absurd h (by decide)⟩
         ·refine OpOk.now rfl ?_
          have d11 : u 11 = _ := hd 11 (by omega) (by kernel_rfl)
          clear hb hd
          rw [d11]
          clear d11
          go_wp2
          exact ⟨_, rfl, Below.refl _ _, rfl, fun h => absurd h (by decide)⟩
         ·have d11 : u 11 = _ := hd 11 (by omega) (by kernel_rfl)
          clear hb hd
          rw [d11]
          clear d11
          refine OpOk.late rfl ?_
          exact ⟨_, yields_extract rfl _ _ rfl _ rfl _ rfl, rfl⟩
        case htail5 =>
         intro u A w1 hA hb hd hf
         simp only [putAll, dstOf, gtA, gtS, gtZ, Option.bind_some, Option.bind, Act.put, List.setIfInBounds_toArray, List.set_cons_succ, List.set_cons_zero] at hA; subst hA
         have e0 : u 0 = _ := hd 0 (by omega)
         have e1 : u 1 = _ := hd 1 (by omega)
         have e2 : u 2 = _ := hd 2 (by omega)
         have e3 : u 3 = _ := hd 3 (by omega)
         have e4 : u 4 = _ := hd 4 (by omega)
         have e5 : u 5 = _ := hd 5 (by omega)
         have e6 : u 6 = _ := hd 6 (by omega)
         have e7 : u 7 = _ := hd 7 (by omega)
         have e8 : u 8 = _ := hd 8 (by omega)
         have e9 : u 9 = _ := hd 9 (by omega)
         have e10 : u 10 = _ := hd 10 (by omega)
         have e11 : u 11 = _ := hd 11 (by omega)
         have e12 : u 12 = _ := hd 12 (by omega)
         have e13 : u 13 = _ := hd 13 (by omega)
         first | rw [e0, e1, e2, e3, e4, e5, e6, e7, e8, e9, e10, e11, e12, e13] | simp only [e0, e1, e2, e3, e4, e5, e6, e7, e8, e9, e10, e11, e12, e13]
         clear e0 e1 e2 e3 e4 e5 e6 e7 e8 e9 e10 e11 e12 e13
         clear hd hf
         have T1 := hI9 (HT.out.below hb)
         have S1 := hI9 (HS.out.below hb)
         have M1 := hI9 (HMB.out.below hb)
         have C1 := hI9 (HC.out.trans (But.of hb))
         clear HT HS HMB HC hb
         have cA := S1.out.cell 4
         have cB := S1.out.cell 5
         have fz := fun i => S1.out.frozen i
         simp only [gtA, gtS, gtZ] at cA cB
         have t5 := T1.out.cell 5
         have t6 := T1.out.cell 6
         have s6 := S1.out.cell 6
         have s7 := S1.out.cell 7
         simp only [gtA, gtS, gtZ] at t5 t6 s6 s7
         have hzT := T1.out.lt
         by_cases hz : nn = 0
         ·have hz1 : (nn == 0) = true := by simp [hz]
          have HZ := hI9 hz
          have hy := HY.out
          rw [if_pos hz] at hy
          have HY2 := hI9 hy
          clear hz hy
          go_wp2_with (fail)
          try dsimp only [NoPanic]
          go_wp2_with (fail)
          go_roundg ((M.ordS p t).length - (j + 1))
          case measure => omega
          case rel => exact ⟨j + 1, by first | rfl | go_num | (congr 1; omega), by omega, Nat.le_refl _, by have hq := MyG.nextS hlt HI.out HX.out; rw [HST.out, if_pos HZ.out] at hq; rw [hq]; exact hI9 ((L2.out.world ((((C1.out.set _).set _).set _).set _) hz2 (y := ⟨b0, b1, b2, b3, b4, b5, M.C i 5, M.C i 6⟩) ((((S1.out.set_ 4 _).set_ 5 _).set_ 6 _).set_ 7 _) HY2.out).more (by omega))⟩
         ·have hz1 : (nn == 0) = false := by simp [hz]
          have HZ := hI9 hz
          have hy := HY.out
          rw [if_neg hz] at hy
          have HY2 := hI9 hy
          clear hz hy
          go_wp2_with (fail)
          try dsimp only [NoPanic]
          go_wp2_with (fail)
          go_roundg ((M.ordS p t).length - (j + 1))
          case measure => omega
          case rel => exact ⟨j + 1, by first | rfl | go_num | (congr 1; omega), by omega, Nat.le_refl _, by have hq := MyG.nextS hlt HI.out HX.out; rw [HST.out, if_neg HZ.out] at hq; rw [hq]; exact hI9 ((L2.out.world ((C1.out.set _).set _) hz2 (y := ⟨b0, b1, b2, b3, b4, b5, xi, xs⟩) ((S1.out.set_ 4 _).set_ 5 _) HY2.out).more (by omega))⟩
    ·obtain rfl : j = (M.ordS p t).length := by omega
     have hq : M.skyQ p t (M.ordS p t).length = M.may p t := by unfold MetD.skyQ MetD.may; rw [List.take_of_length_le (Nat.le_refl _)]
     have hs := L2.out.s
     rw [hq] at hs
     have hz2 := K1.out.1.z
     have hzr := L2.out.c.size
     have HR := hI9 (K1.out.1.r.but L2.out.c (by omega))
     have LB := hI9 (K1.out.1.below L2.out)
     rcases hx : M.may p t with ⟨b0, b1, b2, b3, b4, b5, bi, bs⟩
     rw [hx] at hs
     have HS := hI9 (show Blk wr (w.heap.size + 2) 25 #[.int .i64 b0, .int .i64 b1, .int .i64 b2, .int .i64 b3, .int .i64 b4, .int .i64 b5, .bool bi, .bool bs] from hs)
     have HXM := hI9 hx
     clear hx hs hq L2 K1
     go_wp2_with (first | (refine wpl_row rfl 25 _ rfl _ rfl _ 8 HS.out Tryz.rowSky rfl ?_; simp only [Act.put]) | (refine wpList_store_row rfl 25 _ _ rfl (w.heap.size + 1) #[.int .i64 b0, .int .i64 b1, .int .i64 b2, .int .i64 b3, .int .i64 b4, .int .i64 b5, .bool bi, .bool bs] rfl rfl 25 #[.int .i64 0, .int .i64 0, .int .i64 0, .int .i64 0, .int .i64 0, .int .i64 0, .bool false, .bool false] HR.out Tryz.sizeSky rfl (oneS _ _ _ _ _ _ _ _) ?_; simp only [Act.put]))
     exact bodyPost_ret (res_ct rfl _ _ #[.int .i64 b0, .int .i64 b1, .int .i64 b2, .int .i64 b3, .int .i64 b4, .int .i64 b5, .bool bi, .bool bs] 8 rfl (setRow_heap _ _ _ _ _ _ HR.out) Tryz.rowSky rfl) rfl ⟨_, by rw [HXM.out]; rfl, below_row LB.out (by omega) _⟩
end Go.Proofs.YtlabfpjlckdmfaaGreat
