import Derived.Test.YtlambeiafdpkgaaGreatTcP
set_option linter.all false
namespace Go.Proofs.YtlambeiafdpkgaaGreat
open Go Go.RowKit Go.Proofs
set_option maxRecDepth 100000
set_option maxHeartbeats 4000000
def itsV (e : Nat → Int) (n : Nat) : List Value := (List.range n).map fun k => .int .i64 (e k)
theorem itsV_succ (e : Nat → Int) (n : Nat) : itsV e (n + 1) = itsV e n ++ [.int .i64 (e n)] := by unfold itsV; rw [List.range_succ, List.map_append]; rfl
theorem Tryz.tcInU : Tryz.prog.underlying 35 = some (.slice 3) := by kernel_rfl
theorem Tryz.tcInI : (Tryz.prog.info? 3).map (fun i => (i.zero, i.size, i.bytes)) = some (some (.int .i64 0), 1, 8) := by kernel_rfl
theorem wpl_appE {ops : Array Oper} {rest : List Oper} {o : Oper} {a : Act} {w : World} {Q : Exit → Act → World → Prop} (hgd : o.guard = none) (s x : Operand)
  (ho : o.op = .call { callee := .builtin .append, args := #[s, x], argTypes := #[35, 35] }) (base : Nat) (v : Value) (n : Nat) (e : Nat → Int) (hs : a.eval s = v) (hown : w.ownsRow base 3 1 v n (itsV e n))
  (g : Nat) (hx : a.eval x = .slice (some ⟨g, 0, none⟩) 1 1) (hc : w.cell? ⟨g, 0, none⟩ = some (.int .i64 (e n))) (h40 : n ≤ 40) (hbase : base ≤ w.heap.size)
  (h : ∀ v' w', w'.ownsRow base 3 1 v' (n + 1) (itsV e (n + 1)) → w.grownBy w' v.ownBlock → wpList Tryz.prog ops Q rest (a.put o.dst v') w') : wpList Tryz.prog ops Q (o :: rest) a w := by
 have hI := Tryz.tcInI
 cases hi : Tryz.prog.info? 3 with
 | none => rw [hi] at hI; cases hI
 | some i =>
  rw [hi] at hI
  simp only [Option.map_some, Option.some.injEq, Prod.mk.injEq] at hI
  refine wpList_append_own w hgd s x 35 ho base 3 i (.int .i64 0) 1 8 Tryz.tcInU hi hI.1 hI.2.1 hI.2.2 rfl (by decide) v n (itsV e n) hs hown ⟨g, 0, none⟩ 1 1 [.int .i64 (e n)] hx rfl ?_ ?_ (by unfold maxLen; omega) (by omega) hbase ?_
  ·intro j u hj
   match j, hj with
   | 0, hj =>
    have : u = .int .i64 (e n) := by simpa using hj.symm
    subst this
    exact hc
  ·intro u hu
   have : u = .int .i64 (e n) := by simpa using hu
   subst this
   rfl
  ·intro v' w' h1 h2 h3
   exact h v' w' (by rw [itsV_succ]; exact h1) h2
theorem owns_ty {w : World} {base : Nat} {T : TypeId} {k n : Nat} {v : Value} {xs : List Value} (h : w.ownsRow base T k v n xs) {g : Nat} (hg : v.ownBlock = some g) : ∃ cur, w.heap[g]? = some (.cells cur T (0, 0)) := by
 rcases h.2 with ⟨e, -⟩ | ⟨g', cap, cur, e, -, hh, -⟩
 ·rw [e] at hg; cases hg
 ·rw [e] at hg
  cases hg
  exact ⟨cur, hh⟩
theorem owns_apart {w : World} {b1 b2 : Nat} {T1 T2 : TypeId} {k1 k2 n1 n2 : Nat} {v1 v2 : Value} {x1 x2 : List Value} (h1 : w.ownsRow b1 T1 k1 v1 n1 x1) (h2 : w.ownsRow b2 T2 k2 v2 n2 x2) (hT : T1 ≠ T2) : v1.ownBlock = none ∨ v1.ownBlock ≠ v2.ownBlock := by
 cases e : v1.ownBlock with
 | none => exact .inl rfl
 | some g =>
  refine .inr fun e2 => ?_
  obtain ⟨c1, q1⟩ := owns_ty h1 e
  obtain ⟨c2, q2⟩ := owns_ty h2 e2.symm
  rw [q1] at q2
  injection q2 with q2
  injection q2 with _ q2
  exact hT q2
theorem tc_form {w : World} {base : Nat} {T : TypeId} {k n : Nat} {v : Value} {xs : List Value} (h : w.ownsRow base T k v n xs) (hn : 0 < n) : ∃ g cap, v = .slice (some ⟨g, 0, none⟩) n cap := by
 rcases h.2 with ⟨_, h0⟩ | ⟨g, cap, cur, hv, -⟩
 ·omega
 ·exact ⟨g, cap, hv⟩
structure CaK (wS wr : World) (s b2 : Nat) (vA vB vP : Value) (i j n1 : Nat) (L : List (Int × Int)) : Prop where
 b : Below s wS wr
 x : Blk wr (s + 2) 57 #[.slice (some ⟨s + 1, 0, none⟩) 3 3, vP]
 c : Blk wr (s + 1) 54 #[.slice none 0 0, vA, .bool true, .slice none 0 0, vB, .bool true, .slice (some ⟨s, 0, none⟩) 2 2, .slice none 0 0, .bool false]
 n : Blk wr s 3 #[.int .i64 0, .int .i64 1]
 a : wr.ownsRow (s + 3) 3 1 vA i (itsV (fun k => (k : Int)) i)
 q : wr.ownsRow b2 3 1 vB j (itsV (fun k => (n1 : Int) + k) j)
 p : wr.ownsRow (s + 3) 28 2 vP L.length (spC L)
 o : s + 3 ≤ b2 ∧ b2 ≤ wr.heap.size
 d : vA.ownBlock = none ∨ vA.ownBlock ≠ vB.ownBlock
theorem CaK.below {wS wr w2 : World} {s b2 : Nat} {vA vB vP : Value} {i j n1 : Nat} {L : List (Int × Int)} (h : CaK wS wr s b2 vA vB vP i j n1 L) (hb : Below wr.heap.size wr w2) : CaK wS w2 s b2 vA vB vP i j n1 L :=
 ⟨h.b.trans (hb.mono (by have := h.o; omega)), h.x.below hb, h.c.below hb, h.n.below hb, ownsRow_below h.a hb, ownsRow_below h.q hb, ownsRow_below h.p hb, ⟨h.o.1, Nat.le_trans h.o.2 hb.size⟩, h.d⟩
theorem CaK.pushA {wS wr w2 : World} {s b2 : Nat} {vA vB vP v' : Value} {i j n1 : Nat} {L : List (Int × Int)} (h : CaK wS wr s b2 vA vB vP i j n1 L) (h1 : w2.ownsRow (s + 3) 3 1 v' (i + 1) (itsV (fun k => (k : Int)) (i + 1))) (h2 : wr.grownBy w2 vA.ownBlock) (hB : vB = .slice none 0 0) :
  CaK wS (w2.setCell ⟨s + 1, 1, none⟩ v') s b2 v' vB vP (i + 1) j n1 L := by
 have hb : Below (s + 3) wr w2 := below_grown h2 (Nat.le_trans h.o.1 h.o.2) (fun b hb => owns_base h.a hb)
 have hne : ∀ g, g < s + 3 → some g ≠ vA.ownBlock := fun g hg e => by have := owns_base h.a e; omega
 have hx := Blk.grew h.x h2 (hne _ (by omega))
 have hc := Blk.grew h.c h2 (hne _ (by omega))
 have hn := Blk.grew h.n h2 (hne _ (by omega))
 have hq := h.q.kept h2 (by rw [hB]; exact .inl rfl)
 have hp := h.p.kept h2 (owns_apart h.p h.a (by decide))
 have ho := h.o
 exact ⟨bset (h.b.trans (hb.mono (by omega))) (by omega) _, hx.far' (by omega) _, hc.set_ 1 v', hn.far' (by omega) _,
  ownsRow_setCell_below h1 (a := ⟨s + 1, 1, none⟩) (by show s + 1 < s + 3; omega) _, ownsRow_setCell_below hq (a := ⟨s + 1, 1, none⟩) (by show s + 1 < b2; omega) _, ownsRow_setCell_below hp (a := ⟨s + 1, 1, none⟩) (by show s + 1 < s + 3; omega) _,
  ⟨ho.1, by have := hb.size; simp; omega⟩, by rw [hB]; cases e : v'.ownBlock with
   | none => exact .inl rfl
   | some g => exact .inr (fun h => by cases h)⟩
theorem CaK.pushB {wS wr w2 : World} {s b2 : Nat} {vA vB vP v' : Value} {i j n1 : Nat} {L : List (Int × Int)} (h : CaK wS wr s b2 vA vB vP i j n1 L) (h1 : w2.ownsRow b2 3 1 v' (j + 1) (itsV (fun k => (n1 : Int) + k) (j + 1))) (h2 : wr.grownBy w2 vB.ownBlock) (hA : ∀ g, some g = vA.ownBlock → g < b2) :
  CaK wS (w2.setCell ⟨s + 1, 4, none⟩ v') s b2 vA v' vP i (j + 1) n1 L := by
 have ho := h.o
 have hb : Below (s + 3) wr w2 := below_grown h2 (Nat.le_trans h.o.1 h.o.2) (fun b hb => by have := owns_base h.q hb; omega)
 have hne : ∀ g, g < s + 3 → some g ≠ vB.ownBlock := fun g hg e => by have := owns_base h.q e; omega
 have hx := Blk.grew h.x h2 (hne _ (by omega))
 have hc := Blk.grew h.c h2 (hne _ (by omega))
 have hn := Blk.grew h.n h2 (hne _ (by omega))
 have ha := h.a.kept h2 h.d
 have hp := h.p.kept h2 (owns_apart h.p h.q (by decide))
 exact ⟨bset (h.b.trans (hb.mono (by omega))) (by omega) _, hx.far' (by omega) _, hc.set_ 4 v', hn.far' (by omega) _,
  ownsRow_setCell_below ha (a := ⟨s + 1, 4, none⟩) (by show s + 1 < s + 3; omega) _, ownsRow_setCell_below h1 (a := ⟨s + 1, 4, none⟩) (by show s + 1 < b2; omega) _, ownsRow_setCell_below hp (a := ⟨s + 1, 4, none⟩) (by show s + 1 < s + 3; omega) _,
  ⟨ho.1, by have := hb.size; simp; omega⟩, by
   cases e : vA.ownBlock with
   | none => exact .inl rfl
   | some g => exact .inr (fun h3 => by have := hA g e.symm; have := owns_base h1 h3; omega)⟩
theorem CaK.pushP {wS wr w2 : World} {s b2 : Nat} {vA vB vP v' : Value} {i j n1 : Nat} {L : List (Int × Int)} {p : Int × Int} (h : CaK wS wr s b2 vA vB vP i j n1 L) (h1 : w2.ownsRow (s + 3) 28 2 v' (L ++ [p]).length (spC (L ++ [p]))) (h2 : wr.grownBy w2 vP.ownBlock) :
  CaK wS (w2.setCell ⟨s + 2, 1, none⟩ v') s b2 vA vB v' i j n1 (L ++ [p]) := by
 have ho := h.o
 have hb : Below (s + 3) wr w2 := below_grown h2 (Nat.le_trans h.o.1 h.o.2) (fun b hb => owns_base h.p hb)
 have hne : ∀ g, g < s + 3 → some g ≠ vP.ownBlock := fun g hg e => by have := owns_base h.p e; omega
 have hx := Blk.grew h.x h2 (hne _ (by omega))
 have hc := Blk.grew h.c h2 (hne _ (by omega))
 have hn := Blk.grew h.n h2 (hne _ (by omega))
 have ha := h.a.kept h2 (owns_apart h.a h.p (by decide))
 have hq := h.q.kept h2 (owns_apart h.q h.p (by decide))
 exact ⟨bset (h.b.trans (hb.mono (by omega))) (by omega) _, hx.set_ 1 v', hc.far' (by omega) _, hn.far' (by omega) _,
  ownsRow_setCell_below ha (a := ⟨s + 2, 1, none⟩) (by show s + 2 < s + 3; omega) _, ownsRow_setCell_below hq (a := ⟨s + 2, 1, none⟩) (by show s + 2 < b2; omega) _, ownsRow_setCell_below h1 (a := ⟨s + 2, 1, none⟩) (by show s + 2 < s + 3; omega) _,
  ⟨ho.1, by have := hb.size; simp; omega⟩, h.d⟩
theorem CaK.rebase {wS wr : World} {s b2 : Nat} {vA vP : Value} {i n1 : Nat} {L : List (Int × Int)} (h : CaK wS wr s b2 vA (.slice none 0 0) vP i 0 n1 L) : CaK wS wr s wr.heap.size vA (.slice none 0 0) vP i 0 n1 L ∧ ∀ g, some g = vA.ownBlock → g < wr.heap.size :=
 ⟨⟨h.b, h.x, h.c, h.n, h.a, World.ownsRow_nil _ _ _ _, h.p, ⟨Nat.le_trans h.o.1 h.o.2, Nat.le_refl _⟩, h.d⟩, fun g hg => (h.a.lt g hg.symm).2⟩
theorem IL.of_owns {w : World} {base : Nat} {T : TypeId} {v : Value} {n : Nat} {e : Nat → Int} (h : w.ownsRow base T 1 v n (itsV e n)) : IL w v n e := by
 rcases h.2 with ⟨ev, hz⟩ | ⟨g, cap, cur, hv, hb, hh, -⟩
 ·obtain rfl : n = 0 := hz
  exact ⟨none, 0, ev, fun h => absurd h (by omega)⟩
 ·subst hv
  refine ⟨some ⟨g, 0, none⟩, cap, rfl, fun hn => ⟨g, 0, rfl, (Array.getElem?_eq_some_iff.1 hh).1, fun k hk => ?_⟩⟩
  rw [Nat.zero_add]
  have := h.cellAt (g := g) k (by omega)
  rw [this, itsV, List.getElem?_map, List.getElem?_range hk]
  rfl
theorem spC_at (l : List (Int × Int)) (i : Nat) (hi : i < l.length) : (spC l)[i * 2]? = some (.int .i64 (loL l i)) ∧ (spC l)[i * 2 + 1]? = some (.int .i64 (hiL l i)) := by
 induction l generalizing i with
 | nil => cases hi
 | cons p l ih =>
  cases i with
  | zero => exact ⟨rfl, rfl⟩
  | succ i =>
   have := ih i (by simpa using hi)
   exact ⟨by rw [show (i + 1) * 2 = (i * 2) + 1 + 1 by omega]; exact this.1, by rw [show (i + 1) * 2 + 1 = (i * 2 + 1) + 1 + 1 by omega]; exact this.2⟩
def SpL (w : World) (v : Value) (l : List (Int × Int)) : Prop := ∃ A c, v = .slice A l.length c ∧ (0 < l.length → ∃ b off, A = some ⟨b, off, none⟩ ∧ b < w.heap.size ∧ ∀ i, i < l.length → w.cell? ⟨b, off + i * 2, none⟩ = some (.int .i64 (loL l i)) ∧ w.cell? ⟨b, off + i * 2 + 1, none⟩ = some (.int .i64 (hiL l i)))
theorem SpL.below {w w' : World} {v : Value} {l : List (Int × Int)} (h : SpL w v l) (hb : Below w.heap.size w w') : SpL w' v l := by
 obtain ⟨A, c, e, h⟩ := h
 refine ⟨A, c, e, fun hn => ?_⟩
 obtain ⟨b, off, e, hl, h⟩ := h hn
 exact ⟨b, off, e, Nat.lt_of_lt_of_le hl hb.size, fun k hk => ⟨(hb.cell (p := ⟨b, off + k * 2, none⟩) hl).trans (h k hk).1, (hb.cell (p := ⟨b, off + k * 2 + 1, none⟩) hl).trans (h k hk).2⟩⟩
theorem SpL.of_owns {w : World} {base : Nat} {T : TypeId} {v : Value} {l : List (Int × Int)} (h : w.ownsRow base T 2 v l.length (spC l)) : SpL w v l := by
 rcases h.2 with ⟨ev, hz⟩ | ⟨g, cap, cur, hv, hb, hh, -⟩
 ·exact ⟨none, 0, by rw [hz]; exact ev, fun h => absurd h (by omega)⟩
 ·subst hv
  refine ⟨some ⟨g, 0, none⟩, cap, rfl, fun hn => ⟨g, 0, rfl, (Array.getElem?_eq_some_iff.1 hh).1, fun k hk => ?_⟩⟩
  rw [Nat.zero_add]
  have h0 := h.cellAt (g := g) (k * 2) (by omega)
  have h1 := h.cellAt (g := g) (k * 2 + 1) (by omega)
  have hs := spC_at l k hk
  exact ⟨h0.trans hs.1, h1.trans hs.2⟩
theorem CaK.cla {wS wr : World} {s b2 : Nat} {vA vB vP : Value} {n1 n2 : Nat} {L : List (Int × Int)} (h : CaK wS wr s b2 vA vB vP n1 n2 n1 L) : ClaAt wr (.slice (some ⟨s + 1, 0, none⟩) 3 3) (caD n1 n2 (loL L) (hiL L)) := by
 refine ⟨s + 1, 0, 3, rfl, by show 3 ≤ 3; omega, h.c.lt, fun i hi => ?_⟩
 have hz : ∀ (P : Nat → Int), IL wr (.slice none 0 0) 0 P := fun P => ⟨none, 0, rfl, fun h => absurd h (by omega)⟩
 have hc := h.c.cell
 match i, hi with
 | 0, _ => exact ⟨_, _, hc 0, hc 1, hc 2, hz _, IL.of_owns h.a⟩
 | 1, _ => exact ⟨_, _, hc 3, hc 4, hc 5, hz _, IL.of_owns h.q⟩
 | 2, _ =>
  refine ⟨_, _, hc 6, hc 7, hc 8, ⟨_, _, rfl, fun _ => ⟨s, 0, rfl, h.n.lt, fun k hk => ?_⟩⟩, hz _⟩
  have hn := h.n.cell
  rw [Nat.zero_add]
  match k, (show k < 2 from hk) with
  | 0, _ => exact hn 0
  | 1, _ => exact hn 1
theorem CaK.prf {wS wr : World} {s b2 : Nat} {vA vB vP : Value} {n1 n2 : Nat} {L : List (Int × Int)} (h : CaK wS wr s b2 vA vB vP n1 n2 n1 L) (hl : L.length = n1 + n2) : PrfAt wr vP (caD n1 n2 (loL L) (hiL L)) := by
 obtain ⟨A, c, e, hA⟩ := SpL.of_owns h.p
 rw [hl] at e hA
 exact ⟨A, c, e, hA⟩
end Go.Proofs.YtlambeiafdpkgaaGreat
