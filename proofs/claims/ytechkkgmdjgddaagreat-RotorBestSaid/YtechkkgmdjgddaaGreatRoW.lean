/- Contracts: speeds, checkSpeeds of package rotor. -/
import Derived.Test.YtechkkgmdjgddaaGreatRoQ
import Derived.Test.YtechkkgmdjgddaaGreatRoJ
import Derived.Test.YtechkkgmdjgddaaGreatRgL
import Derived.Test.YtechkkgmdjgddaaGreatRgM
set_option linter.all false
namespace Go.Proofs.YtechkkgmdjgddaaGreat
open Go Go.RowKit Go.Proofs
set_option maxRecDepth 100000
set_option maxHeartbeats 4000000

theorem speeds_c (hx hy hv gx gy gv lx ly lv px py pv nx ny nv ax ay av cx cy cv dx dy dv : Value) (cl bu wl wh tl th el eh nl nh : Int) (xs : List Int) (w : World) (hxs : Ints w lx xs) (h0 : 0 < xs.length) :
   Calls Tryz.prog 22 #[.agg #[hx, hy, hv, gx, gy, gv, lx, ly, lv, px, py, pv, nx, ny, nv, ax, ay, av, cx, cy, cv, dx, dy, dv, .int .i64 cl, .int .i64 bu, .int .i64 wl, .int .i64 wh, .int .i64 tl, .int .i64 th, .int .i64 el, .int .i64 eh, .int .i64 nl, .int .i64 nh]] w fun e w' => e = .returned (.tuple #[.int .i64 (nth xs 0), .int .i64 (nth xs (xs.length - 1))]) ∧ Below w.heap.size w w' := by
  obtain ⟨A, c, rfl, hc1, hc2, _, hA⟩ := hxs
  obtain ⟨b, off, rfl, hb, hc⟩ := hA h0
  have c0 := hc 0 h0
  simp only [Nat.add_zero] at c0
  have c1 := hc (xs.length - 1) (by omega)
  clear hc hA
  have hi0 : (0 : Int) < (xs.length : Int) := by omega
  have hi1 : (xs.length : Int) ≤ 9223372036854775807 := by omega
  have ht : ((xs.length : Int) - 1).toNat = xs.length - 1 := by omega
  go_enter Tryz.func22, Tryz.ntmps22
  go_wp2
  go_quiet (fail)
  go_wp2
  go_ret2
  exact ⟨rfl, (by repeat' (first | exact Below.refl _ _ | assumption | refine Below.drew ?_ | refine bdn ?_ _ | refine bal ?_ _ | refine Below.setCell ?_ (by first | (simp; done) | omega | (simp; omega)) _))⟩

theorem never_c (hx hy hv gx gy gv lx ly lv px py pv nx ny nv ax ay av cx cy cv dx dy dv : Value) (cl bu wl wh tl th el eh nl nh : Int) (s1 : IsSl nx) (s2 : IsSl ny) (s3 : IsSl nv) (w : World) : Calls Tryz.prog 27 #[.agg #[hx, hy, hv, gx, gy, gv, lx, ly, lv, px, py, pv, nx, ny, nv, ax, ay, av, cx, cy, cv, dx, dy, dv, .int .i64 cl, .int .i64 bu, .int .i64 wl, .int .i64 wh, .int .i64 tl, .int .i64 th, .int .i64 el, .int .i64 eh, .int .i64 nl, .int .i64 nh]] w fun e w' => e = .returned (.agg #[nx, ny, nv, .int .i64 wl, .int .i64 wh, .int .i64 tl, .int .i64 th]) ∧ Below w.heap.size w w' := by
  obtain ⟨a1, n1, d1, rfl⟩ := s1
  obtain ⟨a2, n2, d2, rfl⟩ := s2
  obtain ⟨a3, n3, d3, rfl⟩ := s3
  go_enter Tryz.func27, Tryz.ntmps27
  go_wp2
  exact bodyPost_ret (v := .agg #[.slice a1 n1 d1, .slice a2 n2 d2, .slice a3 n3 d3, .int .i64 wl, .int .i64 wh, .int .i64 tl, .int .i64 th]) (by first | (simp (maxDischargeDepth := 9) [results, Tryz.results27, go_sem, hc1, hd1]; done) | (simp (maxDischargeDepth := 9) [results, Tryz.results27, go_sem, hc1]; done) | (simp [results, Tryz.results27, go_sem]; done)) rfl (⟨rfl, (by repeat' (first | exact Below.refl _ _ | assumption | refine Below.drew ?_ | refine bdn ?_ _ | refine bal ?_ _ | refine Below.setCell ?_ (by first | (simp; done) | omega | (simp; omega)) _))⟩)

/-- What the further tables are: none, or one in a block of its own. -/
def FurV (olds : List Value) (v : Value) (w : World) : Prop :=
  (olds = [] ∧ v = .slice none 0 0) ∨ (olds.length = 7 ∧ (∀ u ∈ olds, u.oneCell' = true) ∧ ∃ g, v = .slice (some ⟨g, 0, none⟩) 1 1 ∧ Blk w g 60 olds.toArray)
theorem FurV.below {olds : List Value} {v : Value} {w w' : World} (hb : Below w.heap.size w w') (h : FurV olds v w) : FurV olds v w' := by
  rcases h with h | ⟨h1, h2, g, e, h3⟩
  · exact .inl h
  · exact .inr ⟨h1, h2, g, e, h3.below hb⟩
def Own2 (cs : List Value) (v : Value) (w : World) : Prop := ∃ g, v = .slice (some ⟨g, 0, none⟩) 2 2 ∧ Blk w g 60 cs.toArray
theorem Own2.below {cs : List Value} {v : Value} {w w' : World} (hb : Below w.heap.size w w') (h : Own2 cs v w) : Own2 cs v w' := by
  obtain ⟨g, e, h⟩ := h; exact ⟨g, e, h.below hb⟩
def Own9 (olds cs : List Value) (v : Value) (w : World) : Prop := ∃ n, olds.length = n * 7 ∧ w.ownsRow 0 60 7 v (n + 2) (olds ++ cs)
theorem Own9.below {olds cs : List Value} {v : Value} {w w' : World} (hb : Below w.heap.size w w') (h : Own9 olds cs v w) : Own9 olds cs v w' := by
  obtain ⟨n, e, h⟩ := h; exact ⟨n, e, ownsRow_below h hb⟩

theorem Tryz.undLooked : Tryz.prog.underlying 53 = some (.slice 60) := by kernel_rfl
theorem Tryz.infoLooked : (Tryz.prog.info? 60).map (fun i => (i.zero, i.size, i.bytes)) = some (some (.agg #[.slice none 0 0, .slice none 0 0, .slice none 0 0, .int .i64 0, .int .i64 0, .int .i64 0, .int .i64 0]), 7, 104) := by kernel_rfl

theorem cells_of_blk {w : World} {g : Nat} {ty : TypeId} {cs : List Value} (h : Blk w g ty cs.toArray) (j : Nat) (u : Value) (hj : cs[j]? = some u) : w.cell? ((⟨g, 0, none⟩ : Addr).add j) = some u := by
  have hadd : (⟨g, 0, none⟩ : Addr).add j = ⟨g, j, none⟩ := by unfold Addr.add; split <;> simp_all
  rw [hadd, h.cell j]; simpa using hj
theorem wpl_append_looked {ops : Array Oper} {rest : List Oper} {o : Oper} {a : Act} {w : World} {Q : Exit → Act → World → Prop} (hgd : o.guard = none) (s x : Operand)
    (hop : o.op = Op.call { callee := Callee.builtin Builtin.append, args := #[s, x], argTypes := #[53, 53] }) {olds cs : List Value} {v1 v2 : Value} (hs : a.eval s = v1) (h1 : FurV olds v1 w) (hx : a.eval x = v2) (h2 : Own2 cs v2 w)
    (hl : cs.length = 14) (hone : ∀ u ∈ cs, u.oneCell' = true)
    (K : ∀ v' w', Own9 olds cs v' w' → Below w.heap.size w w' → wpList Tryz.prog ops Q rest (a.put o.dst v') w') : wpList Tryz.prog ops Q (o :: rest) a w := by
  obtain ⟨g8, rfl, B8⟩ := h2
  obtain ⟨i0, hi0, hz0, hz1, hz2⟩ := info_parts Tryz.infoLooked
  rcases h1 with ⟨rfl, rfl⟩ | ⟨hl1, ho1, g1, rfl, B1⟩
  · exact wpList_append_grows w hgd s x 53 hop 60 i0 _ 7 104 Tryz.undLooked hi0 hz0 hz1 hz2 rfl (by omega) none 0 0 [] hs (fun _ => ⟨rfl, rfl⟩) rfl (fun b h => by cases h)
      ⟨g8, 0, none⟩ 2 2 cs hx (by rw [hl]) (cells_of_blk B8) hone (by omega) (by unfold maxLen; omega) (by omega) (fun v' w' ho hgr => K v' w' ⟨0, rfl, ownsRow_base ho (Nat.zero_le _)⟩ (below_of_none hgr))
  · exact wpList_append_grows w hgd s x 53 hop 60 i0 _ 7 104 Tryz.undLooked hi0 hz0 hz1 hz2 rfl (by omega) (some ⟨g1, 0, none⟩) 1 1 olds hs (fun h => by cases h) hl1 (fun b hb => by cases hb; exact cells_of_blk B1)
      ⟨g8, 0, none⟩ 2 2 cs hx (by rw [hl]) (cells_of_blk B8) hone (by omega) (by unfold maxLen; omega) (by omega) (fun v' w' ho hgr => K v' w' ⟨1, hl1, ownsRow_base ho (Nat.zero_le _)⟩ (below_of_none hgr))

theorem looks_own2 {w : World} {v x y u x' y' u' : Value} {a b : Look} (h : Own9 [] [x, y, u, .int .i64 a.xl, .int .i64 a.xh, .int .i64 a.yl, .int .i64 a.yh, x', y', u', .int .i64 b.xl, .int .i64 b.xh, .int .i64 b.yl, .int .i64 b.yh] v w)
    (hT : TblAt w x y u a.T) (h1 : 0 < a.T.X.length) (h2 : 0 < a.T.Y.length) (hT' : TblAt w x' y' u' b.T) (h1' : 0 < b.T.X.length) (h2' : 0 < b.T.Y.length) : Looks w v 2 (look2 a b) := by
  obtain ⟨n, hn, ho⟩ := h
  obtain rfl : n = 0 := by simp at hn; omega
  have ho2 := ho.2
  rcases ho2 with ⟨-, hz⟩ | ⟨g, cap, cur, rfl, -, hg, -⟩
  · omega
  · have hc := fun j (hj : j < 2 * 7) => ho.cellAt (g := g) j hj
    exact ⟨_, cap, fun | 0 => x | _ => x', fun | 0 => y | _ => y', fun | 0 => u | _ => u', rfl, by omega, fun _ => ⟨g, 0, rfl, (Array.getElem?_eq_some_iff.1 hg).1, fun k hk => by
      rcases (show k = 0 ∨ k = 1 by omega) with rfl | rfl
      · exact ⟨hc 0 (by omega), hc 1 (by omega), hc 2 (by omega), hc 3 (by omega), hc 4 (by omega), hc 5 (by omega), hc 6 (by omega)⟩
      · exact ⟨hc 7 (by omega), hc 8 (by omega), hc 9 (by omega), hc 10 (by omega), hc 11 (by omega), hc 12 (by omega), hc 13 (by omega)⟩⟩, fun i hi => by
      rcases (show i = 0 ∨ i = 1 by omega) with rfl | rfl
      · exact ⟨hT, h1, h2⟩
      · exact ⟨hT', h1', h2'⟩⟩
theorem looks_own3 {w : World} {v p q r x y u x' y' u' : Value} {c a b : Look} (h : Own9 [p, q, r, .int .i64 c.xl, .int .i64 c.xh, .int .i64 c.yl, .int .i64 c.yh] [x, y, u, .int .i64 a.xl, .int .i64 a.xh, .int .i64 a.yl, .int .i64 a.yh, x', y', u', .int .i64 b.xl, .int .i64 b.xh, .int .i64 b.yl, .int .i64 b.yh] v w)
    (hU : TblAt w p q r c.T) (g1 : 0 < c.T.X.length) (g2 : 0 < c.T.Y.length) (hT : TblAt w x y u a.T) (h1 : 0 < a.T.X.length) (h2 : 0 < a.T.Y.length) (hT' : TblAt w x' y' u' b.T) (h1' : 0 < b.T.X.length) (h2' : 0 < b.T.Y.length) : Looks w v 3 (look3 c a b) := by
  obtain ⟨n, hn, ho⟩ := h
  obtain rfl : n = 1 := by simp at hn; omega
  have ho2 := ho.2
  rcases ho2 with ⟨-, hz⟩ | ⟨g, cap, cur, rfl, -, hg, -⟩
  · omega
  · have hc := fun j (hj : j < 3 * 7) => ho.cellAt (g := g) j hj
    exact ⟨_, cap, fun | 0 => p | 1 => x | _ => x', fun | 0 => q | 1 => y | _ => y', fun | 0 => r | 1 => u | _ => u', rfl, by omega, fun _ => ⟨g, 0, rfl, (Array.getElem?_eq_some_iff.1 hg).1, fun k hk => by
      rcases (show k = 0 ∨ k = 1 ∨ k = 2 by omega) with rfl | rfl | rfl
      · exact ⟨hc 0 (by omega), hc 1 (by omega), hc 2 (by omega), hc 3 (by omega), hc 4 (by omega), hc 5 (by omega), hc 6 (by omega)⟩
      · exact ⟨hc 7 (by omega), hc 8 (by omega), hc 9 (by omega), hc 10 (by omega), hc 11 (by omega), hc 12 (by omega), hc 13 (by omega)⟩
      · exact ⟨hc 14 (by omega), hc 15 (by omega), hc 16 (by omega), hc 17 (by omega), hc 18 (by omega), hc 19 (by omega), hc 20 (by omega)⟩⟩, fun i hi => by
      rcases (show i = 0 ∨ i = 1 ∨ i = 2 by omega) with rfl | rfl | rfl
      · exact ⟨hU, g1, g2⟩
      · exact ⟨hT, h1, h2⟩
      · exact ⟨hT', h1', h2'⟩⟩

def spdR (olds cs : List Value) (fn m lp sp ll : Value) (x : Int) : Nat → Value → World → Prop
  | 0, v, _ => v = fn
  | 1, v, w => FurV olds v w
  | 2, v, _ => v = m
  | 3, v, _ => v = lp
  | 4, v, _ => v = m
  | 5, v, _ => v = .int .i64 x
  | 6, v, _ => v = sp
  | 7, v, _ => v = ll
  | 8, v, w => Own2 cs v w
  | 9, v, w => Own9 olds cs v w
  | _, _, _ => True
theorem spdR_below {olds cs : List Value} {fn m lp sp ll : Value} {x : Int} (k : Nat) (v : Value) (w w' : World) (hb : Below w.heap.size w w') (h : spdR olds cs fn m lp sp ll x k v w) : spdR olds cs fn m lp sp ll x k v w' := by
  unfold spdR at *
  split at h <;> first | exact h | exact FurV.below hb h | exact Own2.below hb h | exact Own9.below hb h

theorem spdT_c (hx hy hv gx gy gv lx ly lv px py pv nx ny nv ax ay av cx cy cv dx dy dv : Value) (cl bu wl wh tl th el eh nl nh : Int) (S : Tabs) (b c g : Nat) (lb : Array Value) (olds : List Value) (w0 w : World) (hR : RotAt w0 hx hy hv gx gy gv lx ly lv px py pv nx ny nv ax ay av cx cy cv dx dy dv cl bu S) (hb : Below w0.heap.size w0 w) (hM : Blk w b 51 #[hx, hy, hv, gx, gy, gv, lx, ly, lv, px, py, pv, nx, ny, nv, ax, ay, av, cx, cy, cv, dx, dy, dv, .int .i64 cl, .int .i64 bu, .int .i64 wl, .int .i64 wh, .int .i64 tl, .int .i64 th, .int .i64 el, .int .i64 eh, .int .i64 nl, .int .i64 nh]) (hs : w.cell? ⟨c, 0, none⟩ = some (.func (.func g) #[] lb))
   (hg : ∀ args w, (callFunc g args).run Tryz.prog w = .ok (.enter g args) w) (hF : ∀ W, Below w.heap.size w W → Calls Tryz.prog g lb W fun e w' => ∃ v, e = .returned v ∧ FurV olds v w' ∧ Below W.heap.size W w') (h0 : 0 < S.l.X.length) :
   Calls Tryz.prog 46 #[.pointer (some ⟨b, 0, none⟩), .pointer (some ⟨c, 0, none⟩)] w fun e w' => ∃ v, e = .returned v ∧ Own9 olds [px, py, pv, .int .i64 tl, .int .i64 th, .int .i64 el, .int .i64 eh, lx, ly, lv, .int .i64 (nth S.l.X 0), .int .i64 (nth S.l.X 0), .int .i64 wl, .int .i64 wh] v w' ∧ Below w.heap.size w w' := by
  have HR := Lib.hid (hR.below hb)
  have HQ := Lib.hid hM
  have HF := Lib.hid hF
  have HCL := Lib.hid (fun w1 (h : Below w.heap.size w w1) => (h.cell (p := ⟨c, 0, none⟩) (blk_lt hs)).trans hs)
  have HSP := Lib.hid (fun w1 (h : Ints w1 lx S.l.X) => speeds_c hx hy hv gx gy gv lx ly lv px py pv nx ny nv ax ay av cx cy cv dx dy dv cl bu wl wh tl th el eh nl nh S.l.X w1 h h0)
  clear hR hb hM hF hs
  generalize nth S.l.X (S.l.X.length - 1) = x1 at *
  generalize nth S.l.X 0 = x0 at *
  have HB := Lib.hid (Below.refl w.heap.size w)
  have s1 := HR.out.p.s1
  have s2 := HR.out.p.s2
  have s3 := HR.out.p.s3
  have s4 := HR.out.l.s1
  have s5 := HR.out.l.s2
  have s6 := HR.out.l.s3
  have T1 := Lib.hid (And.intro s1 (And.intro s2 (And.intro s3 (And.intro s4 (And.intro s5 s6)))))
  clear s1 s2 s3 s4 s5 s6
  go_enter Tryz.func46, Tryz.ntmps46
  go_wp2_with (first | (refine wpl_row rfl 51 _ rfl _ rfl _ 34 HQ.out Tryz.rowMach rfl ?_; simp only [Act.put]) | (go_at_call 22; (with_reducible refine (HSP.out _ (HR.out.l.x.below HB.out)).mono ?_); rintro e w1 ⟨rfl, hb1⟩; have nHQ := Lib.hid (HQ.out.below hb1); have nHB := Lib.hid (bthen HB.out hb1); have zz1 := hb1.size; clear HQ HB hb1; have HQ := nHQ; have HB := nHB; clear nHQ nHB))
  refine wp_region_spec 10 (spdR olds [px, py, pv, .int .i64 tl, .int .i64 th, .int .i64 el, .int .i64 eh, lx, ly, lv, .int .i64 x0, .int .i64 x0, .int .i64 wl, .int .i64 wh] (.func (.func g) #[] lb) (.agg #[hx, hy, hv, gx, gy, gv, lx, ly, lv, px, py, pv, nx, ny, nv, ax, ay, av, cx, cy, cv, dx, dy, dv, .int .i64 cl, .int .i64 bu, .int .i64 wl, .int .i64 wh, .int .i64 tl, .int .i64 th, .int .i64 el, .int .i64 eh, .int .i64 nl, .int .i64 nh]) (.agg #[px, py, pv, .int .i64 tl, .int .i64 th, .int .i64 el, .int .i64 eh]) (.agg #[.int .i64 x0, .int .i64 x0]) (.agg #[lx, ly, lv, .int .i64 x0, .int .i64 x0, .int .i64 wl, .int .i64 wh]) x0) (fun i => false) (by kernel_rfl) (by kernel_rfl) spdR_below ?hop1 ?htail1
  case hop1 =>
    simp only [List.take_succ_cons, List.take_zero, allOps]
    refine ⟨?_, ?_, ?_, ?_, ?_, ?_, ?_, ?_, ?_, ?_, trivial⟩
    all_goals intro u A w1 hA hb hd
    all_goals simp only [putAll, dstOf, List.getElem?_toArray, List.getElem?_cons_succ, List.getElem?_cons_zero, Option.bind_some, Option.bind, Act.put, List.setIfInBounds_toArray, List.set_cons_succ, List.set_cons_zero] at hA; subst hA
    all_goals have HB1 := Lib.hid hb
    · clear hb hd
      have c0 := HCL.out _ (bthen HB.out HB1.out)
      go_wp2
      exact ⟨_, rfl, Below.refl _ _, rfl, fun h => absurd h (by decide)⟩
    · have d0 : u 0 = _ := hd 0 (by omega) (by kernel_rfl)
      clear hb hd
      rw [d0]
      clear d0
      have tok := Lib.hid (bthen HB.out HB1.out)
      go_wp2_with (go_at_fn g; go_loud (refine (HF.out _ tok.out).mono ?_; rintro e w3 ⟨v, rfl, hv, hb2⟩))
      exact ⟨_, rfl, hb2, hv, fun h => absurd h (by decide)⟩
    · clear hb hd
      go_wp2_with (refine wpl_row rfl 51 _ rfl _ rfl _ 34 (HQ.out.below HB1.out) Tryz.rowMach rfl ?_; simp only [Act.put])
      exact ⟨_, rfl, Below.refl _ _, rfl, fun h => absurd h (by decide)⟩
    · have d1 := hd 1 (by omega) (by kernel_rfl)
      have d2 : u 2 = _ := hd 2 (by omega) (by kernel_rfl)
      clear hb hd
      rw [d2]
      clear d2
      go_wp2_with (go_at_call 33; (with_reducible refine (power_c _ _ _ _ _ _ _ _ _ _ _ _ _ _ _ _ _ _ _ _ _ _ _ _ _ _ _ _ _ _ _ _ _ _ T1.out.1 T1.out.2.1 T1.out.2.2.1 _).mono ?_); rintro e w2 ⟨rfl, hb2⟩)
      exact ⟨_, rfl, hb2, rfl, fun h => absurd h (by decide)⟩
    · clear hb hd
      go_wp2_with (refine wpl_row rfl 51 _ rfl _ rfl _ 34 (HQ.out.below HB1.out) Tryz.rowMach rfl ?_; simp only [Act.put])
      exact ⟨_, rfl, Below.refl _ _, rfl, fun h => absurd h (by decide)⟩
    · clear hb hd
      go_wp2
      exact ⟨_, rfl, Below.refl _ _, rfl, fun h => absurd h (by decide)⟩
    · have d3 : u 3 = _ := hd 3 (by omega) (by kernel_rfl)
      have d5 : u 5 = _ := hd 5 (by omega) (by kernel_rfl)
      clear hb hd
      rw [d3, d5]
      clear d3 d5
      go_wp2_with (go_at_call 35; (with_reducible refine (one_c _ _).mono ?_); rintro e w2 ⟨rfl, hb2⟩)
      exact ⟨_, rfl, hb2, rfl, fun h => absurd h (by decide)⟩
    · have d4 : u 4 = _ := hd 4 (by omega) (by kernel_rfl)
      have d6 : u 6 = _ := hd 6 (by omega) (by kernel_rfl)
      clear hb hd
      rw [d4, d6]
      clear d4 d6
      go_wp2_with (go_at_call 34; (with_reducible refine (level_c _ _ _ _ _ _ _ _ _ _ _ _ _ _ _ _ _ _ _ _ _ _ _ _ _ _ _ _ _ _ _ _ _ _ T1.out.2.2.2.1 T1.out.2.2.2.2.1 T1.out.2.2.2.2.2 _ _ _).mono ?_); rintro e w2 ⟨rfl, hb2⟩)
      exact ⟨_, rfl, hb2, rfl, fun h => absurd h (by decide)⟩
    · have d3 : u 3 = _ := hd 3 (by omega) (by kernel_rfl)
      have d7 : u 7 = _ := hd 7 (by omega) (by kernel_rfl)
      clear hb hd
      rw [d3, d7]
      clear d3 d7
      obtain ⟨⟨a1, n1, d1, rfl⟩, ⟨a2, n2, d2, rfl⟩, ⟨a3, n3, d3, rfl⟩, ⟨a4, n4, d4, rfl⟩, ⟨a5, n5, d5, rfl⟩, ⟨a6, n6, d6, rfl⟩⟩ := T1.out
      go_wp2
      exact ⟨_, rfl, bal (Below.refl _ _) _, ⟨_, rfl, Blk.new _ _ _⟩, fun h => absurd h (by decide)⟩
    · have d1 := hd 1 (by omega) (by kernel_rfl)
      have d7 : u 7 = _ := hd 7 (by omega) (by kernel_rfl)
      have d8 := hd 8 (by omega) (by kernel_rfl)
      clear hb hd
      rw [d7]
      clear d7
      obtain ⟨⟨a1, n1, q1, rfl⟩, ⟨a2, n2, q2, rfl⟩, ⟨a3, n3, q3, rfl⟩, ⟨a4, n4, q4, rfl⟩, ⟨a5, n5, q5, rfl⟩, ⟨a6, n6, q6, rfl⟩⟩ := T1.out
      refine wpl_append_looked rfl (.tmp 11) (.tmp 18) rfl rfl d1 rfl d8 rfl (List.all_eq_true.1 rfl) (fun v' w' ho hb => ?_)
      exact ⟨v', rfl, hb, ho, fun h => absurd h (by decide)⟩
  case htail1 =>
    intro u A w1 hA hb hd hf
    simp only [putAll, dstOf, List.getElem?_toArray, List.getElem?_cons_succ, List.getElem?_cons_zero, Option.bind_some, Option.bind, Act.put, List.setIfInBounds_toArray, List.set_cons_succ, List.set_cons_zero] at hA; subst hA
    have e0 : u 0 = _ := hd 0 (by omega)
    have p1 := hd 1 (by omega)
    have e2 : u 2 = _ := hd 2 (by omega)
    have e3 : u 3 = _ := hd 3 (by omega)
    have e4 : u 4 = _ := hd 4 (by omega)
    have e5 : u 5 = _ := hd 5 (by omega)
    have e6 : u 6 = _ := hd 6 (by omega)
    have e7 : u 7 = _ := hd 7 (by omega)
    have p8 := hd 8 (by omega)
    have p9 := hd 9 (by omega)
    first | rw [e0, e2, e3, e4, e5, e6, e7] | simp only [e0, e2, e3, e4, e5, e6, e7]
    clear e0 e2 e3 e4 e5 e6 e7
    clear hd hf
    have BR := bthen HB.out hb
    clear hb p1 p8
    go_wp2
    go_ret
    exact ⟨_, rfl, p9, BR⟩

theorem checkSpeeds_c (hx hy hv gx gy gv lx ly lv px py pv nx ny nv ax ay av cx cy cv dx dy dv : Value) (cl bu wl wh tl th el eh nl nh : Int) (S : Tabs) (g : Nat) (lb : Array Value) (olds : List Value) (nL : Nat) (Lk : Nat → Look) (w : World) (hR : RotAt w hx hy hv gx gy gv lx ly lv px py pv nx ny nv ax ay av cx cy cv dx dy dv cl bu S) (hg : ∀ args w, (callFunc g args).run Tryz.prog w = .ok (.enter g args) w)
    (hF : rotB S cl bu = true → ∀ W, Below w.heap.size w W → Calls Tryz.prog g lb W fun e w' => ∃ v, e = .returned v ∧ FurV olds v w' ∧ Below W.heap.size W w')
    (hL : ∀ W v, RotAt W hx hy hv gx gy gv lx ly lv px py pv nx ny nv ax ay av cx cy cv dx dy dv cl bu S → rotB S cl bu = true → Own9 olds [px, py, pv, .int .i64 tl, .int .i64 th, .int .i64 el, .int .i64 eh, lx, ly, lv, .int .i64 (nth S.l.X 0), .int .i64 (nth S.l.X 0), .int .i64 wl, .int .i64 wh] v W → Looks W v nL Lk) :
   Calls Tryz.prog 20 #[.agg #[hx, hy, hv, gx, gy, gv, lx, ly, lv, px, py, pv, nx, ny, nv, ax, ay, av, cx, cy, cv, dx, dy, dv, .int .i64 cl, .int .i64 bu, .int .i64 wl, .int .i64 wh, .int .i64 tl, .int .i64 th, .int .i64 el, .int .i64 eh, .int .i64 nl, .int .i64 nh], .func (.func g) #[] lb] w fun e w' => e = .returned (.int .i64 (chkE (rotB S cl bu) (airB wl wh tl th el eh nl nh) false (offL nL Lk))) ∧ Below w.heap.size w w' := by
  have HR := Lib.hid hR
  have HF := Lib.hid hF
  have HL := Lib.hid hL
  have hc := fun w1 hR hT => check_c hx hy hv gx gy gv lx ly lv px py pv nx ny nv ax ay av cx cy cv dx dy dv cl bu wl wh tl th el eh nl nh S none 0 0 (fun _ => 0) (fun _ => 0) 46 #[.pointer (some ⟨w.heap.size, 0, none⟩), .pointer (some ⟨w.heap.size + 1, 0, none⟩)] nL Lk w1 hR (by omega) (fun h => absurd h (by omega)) (enters_of Tryz.func46 (by kernel_rfl) rfl) hT
  rw [show anyBad 0 (fun _ => 0) (fun _ => 0) = false from rfl] at hc
  have HC := Lib.hid hc
  have HG2 := Lib.hid hg
  clear hR hF hL hc hg
  generalize chkE (rotB S cl bu) (airB wl wh tl th el eh nl nh) false (offL nL Lk) = E at *
  go_enter Tryz.func20, Tryz.ntmps20
  go_wp2_with (first | (refine wpl_mid rfl 27 _ rfl _ 0 rfl 51 #[hx, hy, hv, gx, gy, gv, lx, ly, lv, px, py, pv, nx, ny, nv, ax, ay, av, cx, cy, cv, dx, dy, dv, .int .i64 cl, .int .i64 bu, .int .i64 wl, .int .i64 wh, .int .i64 tl, .int .i64 th, .int .i64 el, .int .i64 eh, .int .i64 nl, .int .i64 nh] #[hx, hy, hv, gx, gy, gv, lx, ly, lv, px, py, pv, nx, ny, nv, ax, ay, av, cx, cy, cv, dx, dy, dv, .int .i64 cl, .int .i64 bu] 26 ?_ Tryz.rowRot [] [.int .i64 wl, .int .i64 wh, .int .i64 tl, .int .i64 th, .int .i64 el, .int .i64 eh, .int .i64 nl, .int .i64 nh] rfl rfl rfl ?_; (focus exact (by repeat (first | (refine Blk.newAt _ _ _ ?_; first | rfl | (simp; done)) | refine Blk.alloc ?_ _))); simp only [Act.put]) | (refine wpl_mid rfl 31 _ rfl _ 26 rfl 51 #[hx, hy, hv, gx, gy, gv, lx, ly, lv, px, py, pv, nx, ny, nv, ax, ay, av, cx, cy, cv, dx, dy, dv, .int .i64 cl, .int .i64 bu, .int .i64 wl, .int .i64 wh, .int .i64 tl, .int .i64 th, .int .i64 el, .int .i64 eh, .int .i64 nl, .int .i64 nh] #[.int .i64 wl, .int .i64 wh, .int .i64 tl, .int .i64 th, .int .i64 el, .int .i64 eh, .int .i64 nl, .int .i64 nh] 8 ?_ Tryz.rowAir [hx, hy, hv, gx, gy, gv, lx, ly, lv, px, py, pv, nx, ny, nv, ax, ay, av, cx, cy, cv, dx, dy, dv, .int .i64 cl, .int .i64 bu] [] rfl rfl rfl ?_; (focus exact (by repeat (first | (refine Blk.newAt _ _ _ ?_; first | rfl | (simp; done)) | refine Blk.alloc ?_ _))); simp only [Act.put]))
  have bHQ : Blk ((w.alloc (.cells #[hx, hy, hv, gx, gy, gv, lx, ly, lv, px, py, pv, nx, ny, nv, ax, ay, av, cx, cy, cv, dx, dy, dv, .int .i64 cl, .int .i64 bu, .int .i64 wl, .int .i64 wh, .int .i64 tl, .int .i64 th, .int .i64 el, .int .i64 eh, .int .i64 nl, .int .i64 nh] 51)).alloc (.cells #[.func (.func g) #[] lb] 54)) (w.heap.size) 51 #[hx, hy, hv, gx, gy, gv, lx, ly, lv, px, py, pv, nx, ny, nv, ax, ay, av, cx, cy, cv, dx, dy, dv, .int .i64 cl, .int .i64 bu, .int .i64 wl, .int .i64 wh, .int .i64 tl, .int .i64 th, .int .i64 el, .int .i64 eh, .int .i64 nl, .int .i64 nh] := (by repeat (first | (refine Blk.newAt _ _ _ ?_; first | rfl | (simp; done)) | refine Blk.alloc ?_ _))
  have bHG : Blk ((w.alloc (.cells #[hx, hy, hv, gx, gy, gv, lx, ly, lv, px, py, pv, nx, ny, nv, ax, ay, av, cx, cy, cv, dx, dy, dv, .int .i64 cl, .int .i64 bu, .int .i64 wl, .int .i64 wh, .int .i64 tl, .int .i64 th, .int .i64 el, .int .i64 eh, .int .i64 nl, .int .i64 nh] 51)).alloc (.cells #[.func (.func g) #[] lb] 54)) (w.heap.size + 1) 54 #[.func (.func g) #[] lb] := (by repeat (first | (refine Blk.newAt _ _ _ ?_; first | rfl | (simp; done)) | refine Blk.alloc ?_ _))
  have bHB : Below w.heap.size w ((w.alloc (.cells #[hx, hy, hv, gx, gy, gv, lx, ly, lv, px, py, pv, nx, ny, nv, ax, ay, av, cx, cy, cv, dx, dy, dv, .int .i64 cl, .int .i64 bu, .int .i64 wl, .int .i64 wh, .int .i64 tl, .int .i64 th, .int .i64 el, .int .i64 eh, .int .i64 nl, .int .i64 nh] 51)).alloc (.cells #[.func (.func g) #[] lb] 54)) := (by repeat' (first | exact Below.refl _ _ | assumption | refine Below.drew ?_ | refine bdn ?_ _ | refine bal ?_ _ | refine Below.setCell ?_ (by first | (simp; done) | omega | (simp; omega)) _))
  generalize ((w.alloc (.cells #[hx, hy, hv, gx, gy, gv, lx, ly, lv, px, py, pv, nx, ny, nv, ax, ay, av, cx, cy, cv, dx, dy, dv, .int .i64 cl, .int .i64 bu, .int .i64 wl, .int .i64 wh, .int .i64 tl, .int .i64 th, .int .i64 el, .int .i64 eh, .int .i64 nl, .int .i64 nh] 51)).alloc (.cells #[.func (.func g) #[] lb] 54)) = W at *
  have zW := bHG.lt
  have HQ := Lib.hid bHQ
  have HG := Lib.hid bHG
  have HB := Lib.hid bHB
  clear bHQ bHG bHB
  go_wp2_with (first | (go_at_call 31; refine (HC.out _ (HR.out.below HB.out) (fun hr W' hW => (spdT_c hx hy hv gx gy gv lx ly lv px py pv nx ny nv ax ay av cx cy cv dx dy dv cl bu wl wh tl th el eh nl nh S w.heap.size (w.heap.size + 1) g lb olds w W' HR.out (bthen HB.out hW) (HQ.out.below hW) ((HG.out.below hW).cell 0) HG2.out (fun W2 h2 => HF.out hr W2 (bthen (bthen HB.out hW) h2)) (lkE_pos (rotB_l hr)).1).mono fun e w' ⟨v, he, ho, hb⟩ => ⟨v, he, HL.out w' v (HR.out.below (bthen (bthen HB.out hW) hb)) hr ho, hb⟩)).mono ?_; rintro e w1 ⟨rfl, hb1⟩; have nHQ := Lib.hid (HQ.out.below hb1); have nHG := Lib.hid (HG.out.below hb1); have nHB := Lib.hid (bthen HB.out hb1); have zz1 := hb1.size; clear HQ HG HB hb1; have HQ := nHQ; have HG := nHG; have HB := nHB; clear nHQ nHG nHB))
  go_ret
  exact ⟨rfl, HB.out⟩

theorem best1_c (w : World) : Calls Tryz.prog 21 #[] w fun e w' => ∃ v, e = .returned v ∧ FurV [] v w' ∧ Below w.heap.size w w' := by
  go_enter Tryz.func21, Tryz.ntmps21
  go_wp2
  go_ret
  exact ⟨_, rfl, .inl ⟨rfl, rfl⟩, Below.refl _ _⟩
theorem fast1_c (hx hy hv gx gy gv lx ly lv px py pv nx ny nv ax ay av cx cy cv dx dy dv : Value) (cl bu wl wh tl th el eh nl nh : Int) (b : Nat) (w : World) (hM : Blk w b 51 #[hx, hy, hv, gx, gy, gv, lx, ly, lv, px, py, pv, nx, ny, nv, ax, ay, av, cx, cy, cv, dx, dy, dv, .int .i64 cl, .int .i64 bu, .int .i64 wl, .int .i64 wh, .int .i64 tl, .int .i64 th, .int .i64 el, .int .i64 eh, .int .i64 nl, .int .i64 nh]) (s1 : IsSl nx) (s2 : IsSl ny) (s3 : IsSl nv) :
   Calls Tryz.prog 26 #[.pointer (some ⟨b, 0, none⟩)] w fun e w' => ∃ v, e = .returned v ∧ FurV [nx, ny, nv, .int .i64 wl, .int .i64 wh, .int .i64 tl, .int .i64 th] v w' ∧ Below w.heap.size w w' := by
  have HQ := Lib.hid hM
  have HV := Lib.hid (fun w => never_c hx hy hv gx gy gv lx ly lv px py pv nx ny nv ax ay av cx cy cv dx dy dv cl bu wl wh tl th el eh nl nh s1 s2 s3 w)
  have HB := Lib.hid (Below.refl w.heap.size w)
  clear hM
  obtain ⟨a1, n1, d1, rfl⟩ := s1
  obtain ⟨a2, n2, d2, rfl⟩ := s2
  obtain ⟨a3, n3, d3, rfl⟩ := s3
  go_enter Tryz.func26, Tryz.ntmps26
  go_wp2_with (first | (refine wpl_row rfl 51 _ rfl _ rfl _ 34 HQ.out Tryz.rowMach rfl ?_; simp only [Act.put]) | (go_at_call 27; (with_reducible refine (HV.out _).mono ?_); rintro e w1 ⟨rfl, hb1⟩; have nHQ := Lib.hid (HQ.out.below hb1); have nHB := Lib.hid (bthen HB.out hb1); have zz1 := hb1.size; clear HQ HB hb1; have HQ := nHQ; have HB := nHB; clear nHQ nHB))
  go_ret
  exact ⟨_, rfl, .inr ⟨rfl, List.all_eq_true.1 rfl, _, rfl, Blk.new _ _ _⟩, bal HB.out _⟩
end Go.Proofs.YtechkkgmdjgddaaGreat
