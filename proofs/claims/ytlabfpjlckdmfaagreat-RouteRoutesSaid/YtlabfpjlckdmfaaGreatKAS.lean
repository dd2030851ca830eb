/- Texts joined: KAS. -/
import Derived.Test.YtlabfpjlckdmfaaGreatKAR
set_option linter.all false
namespace Go.Proofs.YtlabfpjlckdmfaaGreat
open Go Go.RowKit Go.Proofs
set_option maxRecDepth 100000
set_option maxHeartbeats 8000000
theorem owns_row {w : World} {base n : Nat} {T : TypeId} {v : Value} {xs : List Value} (h : w.ownsRow base T 1 v n xs) (hn : 1 ≤ n) : ∃ k c cs, v = .slice (some ⟨k, 0, none⟩) n c ∧ n ≤ c ∧ c ≤ 9223372036854775807 ∧ base ≤ k ∧ Blk w k T cs ∧ ∀ j, j < n → cs[j]? = xs[j]? := by
 rcases h.2 with ⟨-, h⟩ | ⟨k, cap, cur, e, h1, h2, h3, h4, h5, h6⟩
 ·omega
 ·refine ⟨k, cap, cur, e, h3, by unfold maxLen at h4; omega, h1, h2, fun j hj => ?_⟩
  rw [← h6, List.getElem?_take, if_pos (by omega), ← Array.getElem?_toList]
structure SqG (w0 w : World) (v : Value) (i n : Nat) (t : Tab) (r cp : Nat → Nat) : Prop where
 b : Below w0.heap.size w0 w
 o : w.ownsRow w0.heap.size 35 1 v i ((List.range i).map fun k => .slice (some ⟨r k, 0, none⟩) n (cp k))
 rk : ∀ k, k < i → w0.heap.size ≤ r k ∧ (n ≤ cp k ∧ cp k ≤ 9223372036854775807) ∧ ∃ cs, Blk w (r k) 3 cs ∧ ∀ j, j < n → cs[j]? = some (.int .i64 (t k j))
 d : ∀ j, j < i → ∀ k, k < i → r j = r k → j = k
theorem SqG.below {w0 w w' : World} {v : Value} {i n : Nat} {t : Tab} {r cp : Nat → Nat} (h : SqG w0 w v i n t r cp) (hb : Below w.heap.size w w') : SqG w0 w' v i n t r cp :=
 ⟨bthen h.b hb, ownsRow_below h.o hb, fun k hk => ⟨(h.rk k hk).1, (h.rk k hk).2.1, (h.rk k hk).2.2.imp fun cs q => ⟨q.1.below hb, q.2⟩⟩, h.d⟩
theorem SqG.step {w0 w w1 w2 : World} {v v' : Value} {i n g cg : Nat} {t : Tab} {r cp : Nat → Nat} {cs : Array Value} (h : SqG w0 w v i n t r cp) (hb : Below w.heap.size w w1) (hg : w.heap.size ≤ g) (hcg : n ≤ cg ∧ cg ≤ 9223372036854775807) (hB : Blk w1 g 3 cs) (hcs : ∀ j, j < n → cs[j]? = some (.int .i64 (t i j)))
  (ho : w2.ownsRow w0.heap.size 35 1 v' (i + 1) ((List.range i).map (fun k => .slice (some ⟨r k, 0, none⟩) n (cp k)) ++ [.slice (some ⟨g, 0, none⟩) n cg])) (hgr : w1.grownBy w2 v.ownBlock) :
  SqG w0 w2 v' (i + 1) n t (fun k => if k = i then g else r k) (fun k => if k = i then cg else cp k) := by
 have h1 := h.below hb
 have hvo : ∀ b, some b = v.ownBlock → w0.heap.size ≤ b := fun b q => (ownLt h1.o q).1
 have hbs := h.b.size
 have hold : ∀ k, k < i → r k < w.heap.size := fun k hk => by obtain ⟨cs, q, -⟩ := (h.rk k hk).2.2; exact q.lt
 refine ⟨h1.b.trans (belowGrew hgr h1.b.size hvo), ?_, fun k hk => ?_, fun j hj k hk e => ?_⟩
 ·have e : (List.range (i + 1)).map (fun k => Value.slice (some ⟨(if k = i then g else r k), 0, none⟩) n (if k = i then cg else cp k)) = (List.range i).map (fun k => .slice (some ⟨r k, 0, none⟩) n (cp k)) ++ [.slice (some ⟨g, 0, none⟩) n cg] := by
   rw [List.range_succ, List.map_append]
   congr 1
   ·refine List.map_congr_left fun k hk => ?_
    rw [if_neg (by have := List.mem_range.1 hk; omega), if_neg (by have := List.mem_range.1 hk; omega)]
   ·simp
  rw [e]; exact ho
 ·show w0.heap.size ≤ (if k = i then g else r k) ∧ (n ≤ (if k = i then cg else cp k) ∧ (if k = i then cg else cp k) ≤ _) ∧ ∃ cs, Blk w2 (if k = i then g else r k) 3 cs ∧ _
  by_cases e : k = i
  ·rw [if_pos e, if_pos e, e]
   exact ⟨by omega, hcg, cs, hB.grew hgr (own_blk_ne h1.o hB (by decide)), hcs⟩
  ·rw [if_neg e, if_neg e]
   obtain ⟨q1, q2, cs', q3, q4⟩ := h1.rk k (by omega)
   exact ⟨q1, q2, cs', q3.grew hgr (own_blk_ne h1.o q3 (by decide)), q4⟩
 ·by_cases e1 : j = i
  ·by_cases e2 : k = i
   ·omega
   ·rw [if_pos e1, if_neg e2] at e; have := hold k (by omega); omega
  ·by_cases e2 : k = i
   ·rw [if_neg e1, if_pos e2] at e; have := hold j (by omega); omega
   ·rw [if_neg e1, if_neg e2] at e; exact h.d j (by omega) k (by omega) e
theorem SqG.sq {w0 w : World} {v : Value} {n : Nat} {t : Tab} {r cp : Nat → Nat} (h : SqG w0 w v n n t r cp) (hn : 1 ≤ n) : ∃ g c, v = .slice (some ⟨g, 0, none⟩) n c ∧ Sq w 3 w0.heap.size w.heap.size g r n t := by
 have ho := h.o
 obtain ⟨g, c, cs, rfl, h1, h2, h3, h4, -⟩ := owns_row ho hn
 refine ⟨g, c, rfl, ⟨⟨h3, h4.lt, Nat.le_refl _⟩, fun i hi => ?_, h.d, fun i hi => ?_, fun i hi => (h.rk i hi).2.2⟩⟩
 ·obtain ⟨q1, -, cs', q3, -⟩ := h.rk i hi
  exact ⟨q1, q3.lt, fun e => blk_ne q3 h4 (by decide) e⟩
 ·refine ⟨cp i, (h.rk i hi).2.1.1, (h.rk i hi).2.1.2, ?_⟩
  have := ho.cellAt (g := g) i (by omega)
  rw [this]
  simp [hi]
theorem dg_leg {P l : Nat} {S : Tab} (h : NetOk P S l) {a b : Nat} (ha : a < P) : dgK (lgT S l) P a b = if a = b then 0 else legK S a b l := by
 unfold dgK
 by_cases e : a = b
 ·rw [if_pos ⟨e, ha⟩, if_pos e]
 ·rw [if_neg (fun q => e q.1), if_neg e, lgT_leg h a b l (Nat.le_refl _)]
structure TmK (M : MetD) (vF vS : Value) (P : Nat) (t : Tab) (i : Nat) (v : Value) (r cp : Nat → Nat) (w wr : World) : Prop where
 x : Blk wr w.heap.size 29 #[.int .i64 M.places, .int .i64 M.any.a0, .int .i64 M.any.a1, .int .i64 M.any.a2, .int .i64 M.any.a3, .int .i64 M.any.a4, .int .i64 M.any.a5, .bool M.any.i, .bool M.any.s, .int .i64 M.mw, .int .i64 M.ms, .int .i64 M.mc, vF, vS]
 g : SqG w wr v i P t r cp
theorem TmK.below {M : MetD} {vF vS : Value} {P : Nat} {t : Tab} {i : Nat} {v : Value} {r cp : Nat → Nat} {w wr w2 : World} (h : TmK M vF vS P t i v r cp w wr) (hb : RowKit.Below wr.heap.size wr w2) : TmK M vF vS P t i v r cp w w2 := ⟨h.x.below hb, h.g.below hb⟩
structure TiK (M : MetD) (vF vS : Value) (P gT : Nat) (rT : Nat → Nat) (lo hi : Nat) (tt : Tab) (w wr : World) : Prop where
 b : RowKit.Below w.heap.size w wr
 x : Blk wr w.heap.size 29 #[.int .i64 M.places, .int .i64 M.any.a0, .int .i64 M.any.a1, .int .i64 M.any.a2, .int .i64 M.any.a3, .int .i64 M.any.a4, .int .i64 M.any.a5, .bool M.any.i, .bool M.any.s, .int .i64 M.mw, .int .i64 M.ms, .int .i64 M.mc, vF, vS]
 t : Sq wr 3 lo hi gT rT P tt
theorem TiK.below {M : MetD} {vF vS : Value} {P gT lo hi : Nat} {rT : Nat → Nat} {tt : Tab} {w wr w2 : World} (h : TiK M vF vS P gT rT lo hi tt w wr) (hb : RowKit.Below wr.heap.size wr w2) : TiK M vF vS P gT rT lo hi tt w w2 := ⟨bthen h.b hb, h.x.below hb, h.t.below hb⟩
theorem TiK.set_ {M : MetD} {vF vS : Value} {P gT lo hi : Nat} {rT : Nat → Nat} {tt : Tab} {w wr : World} (h : TiK M vF vS P gT rT lo hi tt w wr) (hlo : w.heap.size ≤ lo) {a b : Nat} (ha : a < P) {x : Int} (hx : tt a b < 0 ∨ x < tt a b) : TiK M vF vS P gT rT lo hi (stpT tt a b x) w (wr.setCell ⟨rT a, b, none⟩ (.int .i64 x)) := by
 have q := h.t.rl a ha
 refine ⟨bset h.b (by omega) _, h.x.far' (h.t.ne h.x ha (by decide)) _, ?_⟩
 have := h.t.set_ (b := b) ha x
 rw [show (fun i j => if i = a ∧ j = b then x else tt i j) = stpT tt a b x by funext i j; unfold stpT; rw [if_pos hx]] at this
 exact this
theorem stpT_no {t : Tab} {a b : Nat} {x : Int} (h : ¬ (t a b < 0 ∨ x < t a b)) : stpT t a b x = t := by
 funext i j; unfold stpT; rw [if_neg h]
 by_cases q : i = a ∧ j = b
 ·rw [if_pos q, q.1, q.2]
 ·rw [if_neg q]
theorem r5times_c (M : MetD) (vF vS : Value) (A : Option Addr) (n c : Nat) (S : Tab) (P : Nat) (w : World) (hc1 : n ≤ c) (hc2 : c ≤ 9223372036854775807) (hL : RecsAt w A n 3 (nV S)) (hN : NetOk P S n) (hP : M.places = P) (hp8 : 1 ≤ P ∧ P ≤ 8) :
  Calls Tryz.prog 101 #[.agg #[.int .i64 M.places, .int .i64 M.any.a0, .int .i64 M.any.a1, .int .i64 M.any.a2, .int .i64 M.any.a3, .int .i64 M.any.a4, .int .i64 M.any.a5, .bool M.any.i, .bool M.any.s, .int .i64 M.mw, .int .i64 M.ms, .int .i64 M.mc, vF, vS], .slice A n c] w fun e w' => ∃ v, e = .returned v ∧ RowKit.Below w.heap.size w w' ∧ TabV w' v P (timT S n P) := by
 have HL := hI9 hL
 have HNK := hI9 hN
 have HP := hI9 hP
 clear hL hN hP
 obtain ⟨t0, ht0⟩ : ∃ q, q = dgK (lgT S n) P := ⟨_, rfl⟩
 have HT0 := hI9 ht0
 clear ht0
 go_enter Tryz.func101, Tryz.ntmps101
 go_wp2_with (fail)
 have K0 := hI9 (show TmK M vF vS P t0 0 (.slice none 0 0) (fun _ => 0) (fun _ => 0) w (w.alloc (.cells #[.int .i64 M.places, .int .i64 M.any.a0, .int .i64 M.any.a1, .int .i64 M.any.a2, .int .i64 M.any.a3, .int .i64 M.any.a4, .int .i64 M.any.a5, .bool M.any.i, .bool M.any.s, .int .i64 M.mw, .int .i64 M.ms, .int .i64 M.mc, vF, vS] 29)) from ⟨Blk.new _ _ _, ⟨bal (RowKit.Below.refl _ _) _, World.ownsRow_nil _ _ _ _, fun k hk => by omega, fun j hj => by omega⟩⟩)
 generalize w.alloc (.cells #[.int .i64 M.places, .int .i64 M.any.a0, .int .i64 M.any.a1, .int .i64 M.any.a2, .int .i64 M.any.a3, .int .i64 M.any.a4, .int .i64 M.any.a5, .bool M.any.i, .bool M.any.s, .int .i64 M.mw, .int .i64 M.ms, .int .i64 M.mc, vF, vS] 29) = wX at *
 go_loopg [5, 6] P (fun gy v iv wr => ∃ (i : Nat) (r cp : Nat → Nat), iv = .int .i64 i ∧ i ≤ P ∧ P - i ≤ gy ∧ Hid (TmK M vF vS P t0 i v r cp w wr))
 case atStart => exact ⟨0, _, _, rfl, by omega, by omega, K0⟩
 case round =>
  clear K0
  obtain ⟨i, r, cp, rfl, hi, hgy, K0⟩ := hrel
  have x0 : wr.cell? ⟨w.heap.size, 0, none⟩ = some (.int .i64 (P : Int)) := by rw [← HP.out]; exact K0.out.x.cell 0
  by_cases hlt : i < P
  case pos =>
   have hltz : (i : Int) < (P : Int) := by omega
   go_wp2_with (fail)
   clear x0
   obtain ⟨wo, hwo⟩ : ∃ q : World, q = wr := ⟨_, rfl⟩
   subst hwo
   go_loopg [7, 8] P (fun gy rv iv w2 => ∃ j : Nat, iv = .int .i64 j ∧ j ≤ P ∧ P - j ≤ gy ∧ Hid (RowKit.Below wo.heap.size wo w2) ∧ Hid (w2.ownsRow wo.heap.size 3 1 rv j ((List.range j).map fun b => .int .i64 (t0 i b))))
   case atStart => exact ⟨0, rfl, by omega, by omega, hI9 (RowKit.Below.refl _ _), hI9 (World.ownsRow_nil _ _ _ _)⟩
   case round =>
    obtain ⟨j, rfl, hj, hgz, HB, HO⟩ := hrel
    have x0 : wr.cell? ⟨w.heap.size, 0, none⟩ = some (.int .i64 (P : Int)) := by rw [← HP.out]; exact (K0.out.x.below HB.out).cell 0
    by_cases hjl : j < P
    case pos =>
     have hjlz : (j : Int) < (P : Int) := by omega
     go_wp2_with (fail)
     refine (r5leg_c A n c S i j _ hc1 hc2 ((HL.out.below K0.out.g.b).below HB.out)).mono ?_
     rintro e w3 ⟨rfl, hb3⟩
     have nB := hI9 (bthen HB.out hb3)
     have nO := hI9 (ownsRow_below HO.out hb3)
     clear HB HO x0 hb3
     have HTV := hI9 (show t0 i j = if i = j then 0 else legK S i j n from by rw [HT0.out]; exact dg_leg HNK.out hlt)
     by_cases e : i = j
     ·have HV := hI9 (show t0 i j = 0 from HTV.out.trans (if_pos e))
      subst e
      go_wp2_with (at_builtin; refine wpl_appT rfl _ _ rfl wo.heap.size _ i _ rfl (ownsRow_below nO.out (bal (RowKit.Below.refl _ _) _)) w3.heap.size (.int .i64 0) rfl ?a1 rfl (by omega) ?b1 ?_)
      (try case a1 => exact (Blk.new _ _ _).cell 0)
      case b1 => have := nB.out.size; simp; omega
      intro v' w4 ho hg
      have nB4 := hI9 (show RowKit.Below wo.heap.size wo w4 from (bal nB.out _).trans (belowGrew hg.out (by have := nB.out.size; simp; omega) (fun b q => (ownLt nO.out q).1)))
      have nO4 := hI9 (show w4.ownsRow wo.heap.size 3 1 v' (i + 1) ((List.range (i + 1)).map fun b => .int .i64 (t0 i b)) from by
       rw [List.range_succ, List.map_append]
       have := ho.out
       rw [← HV.out] at this
       exact this)
      clear nB nO ho hg
      go_wp2_with (fail)
      go_roundg (P - (i + 1))
      case measure => omega
      case rel => exact ⟨i + 1, by first | rfl | go_num | (congr 1; omega), by omega, Nat.le_refl _, nB4, nO4⟩
     ·have HV := hI9 (HTV.out.trans (if_neg e))
      have hez : ((i : Int) == (j : Int)) = false := by simp; omega
      generalize legK S i j n = LV at *
      clear e
      go_wp2_with (at_builtin; refine wpl_appT rfl _ _ rfl wo.heap.size _ j _ rfl (ownsRow_below nO.out (bal (RowKit.Below.refl _ _) _)) w3.heap.size (.int .i64 LV) rfl ?a2 rfl (by omega) ?b2 ?_)
      (try case a2 => exact (Blk.new _ _ _).cell 0)
      case b2 => have := nB.out.size; simp; omega
      intro v' w4 ho hg
      have nB4 := hI9 (show RowKit.Below wo.heap.size wo w4 from (bal nB.out _).trans (belowGrew hg.out (by have := nB.out.size; simp; omega) (fun b q => (ownLt nO.out q).1)))
      have nO4 := hI9 (show w4.ownsRow wo.heap.size 3 1 v' (j + 1) ((List.range (j + 1)).map fun b => .int .i64 (t0 i b)) from by
       rw [List.range_succ, List.map_append]
       have := ho.out
       rw [← HV.out] at this
       exact this)
      clear nB nO ho hg
      go_wp2_with (fail)
      go_roundg (P - (j + 1))
      case measure => omega
      case rel => exact ⟨j + 1, by first | rfl | go_num | (congr 1; omega), by omega, Nat.le_refl _, nB4, nO4⟩
    obtain rfl : P = j := by omega
    obtain ⟨k, cg, cs, rfl, g1, g2, g3, g4, g5⟩ := owns_row HO.out hp8.1
    have HCS := hI9 (show ∀ j, j < P → cs[j]? = some (.int .i64 (t0 i j)) from fun j hj => by rw [g5 j hj]; simp [hj])
    have HGB := hI9 g4
    clear HO g4 g5
    go_wp2_with (at_builtin; refine wpl_appS rfl _ _ rfl w.heap.size _ i _ rfl (ownsRow_below (ownsRow_below K0.out.g.o HB.out) (bal (RowKit.Below.refl _ _) _)) wr.heap.size (.slice (some ⟨k, 0, none⟩) P cg) rfl ?c1 rfl (by omega) ?c2 ?_)
    (try case c1 => exact (Blk.new _ _ _).cell 0)
    case c2 => have := K0.out.g.b.size; have := HB.out.size; simp; omega
    intro v' w4 ho hgr hv
    have nK := hI9 (show TmK M vF vS P t0 (i + 1) v' _ _ w w4 from ⟨((K0.out.x.below HB.out).alloc _).grew hgr.out (own_blk_ne K0.out.g.o K0.out.x (by decide)), SqG.step K0.out.g (bal HB.out _) g3 ⟨g1, g2⟩ (HGB.out.alloc _) HCS.out ho.out hgr.out⟩)
    clear K0 HB HGB ho hgr hv x0
    go_wp2_with (fail)
    go_roundg (P - (i + 1))
    case measure => omega
    case rel => exact ⟨i + 1, _, _, by first | rfl | go_num | (congr 1; omega), by omega, Nat.le_refl _, nK⟩
  obtain rfl : P = i := by omega
  obtain ⟨gT, cT, rfl, hsq⟩ := K0.out.g.sq hp8.1
  have K1 := hI9 (show TiK M vF vS P gT r w.heap.size wr.heap.size t0 w wr from ⟨K0.out.g.b, K0.out.x, hsq⟩)
  clear K0 hsq
  go_wp2_with (fail)
  clear x0
  generalize wr.heap.size = hiT at *
  obtain ⟨loT, hlo⟩ : ∃ q, q = w.heap.size := ⟨_, rfl⟩
  rw [show TiK M vF vS P gT r w.heap.size hiT t0 w wr = TiK M vF vS P gT r loT hiT t0 w wr by rw [hlo]] at K1
  have HLO := hI9 (show w.heap.size ≤ loT by omega)
  clear hlo
  go_loopg [10] P (fun gy iv wr => ∃ y : Nat, iv = .int .i64 y ∧ y ≤ P ∧ P - y ≤ gy ∧ Hid (TiK M vF vS P gT r loT hiT (flO P y t0) w wr))
  case atStart => exact ⟨0, rfl, Nat.zero_le _, Nat.le_refl _, K1⟩
  case round =>
   clear K1
   obtain ⟨y, rfl, hy, hgx, K0⟩ := hrel
   have x0 : wr.cell? ⟨w.heap.size, 0, none⟩ = some (.int .i64 (P : Int)) := by rw [← HP.out]; exact K0.out.x.cell 0
   by_cases hyl : y < P
   case neg =>
    obtain rfl : P = y := by omega
    go_wp2_with (fail)
    go_ret
    exact ⟨_, rfl, K0.out.b, ⟨gT, cT, loT, hiT, r, rfl, by have := K0.out.t; rw [HT0.out] at this; exact this⟩⟩
   have hylz : (y : Int) < (P : Int) := by omega
   go_wp2_with (fail)
   go_loopg [11] P (fun gy iv wr => ∃ a : Nat, iv = .int .i64 a ∧ a ≤ P ∧ P - a ≤ gy ∧ Hid (TiK M vF vS P gT r loT hiT (flA P y a (flO P y t0)) w wr))
   case atStart => exact ⟨0, rfl, Nat.zero_le _, Nat.le_refl _, K0⟩
   case round =>
    clear K0 x0
    obtain ⟨a, rfl, ha, hgw, K0⟩ := hrel
    have x0 : wr.cell? ⟨w.heap.size, 0, none⟩ = some (.int .i64 (P : Int)) := by rw [← HP.out]; exact K0.out.x.cell 0
    by_cases hal : a < P
    case neg =>
     obtain rfl : P = a := by omega
     go_wp2_with (fail)
     go_roundg (P - (y + 1))
     case measure => omega
     case rel => exact ⟨y + 1, by first | rfl | go_num | (congr 1; omega), by omega, Nat.le_refl _, K0⟩
    have halz : (a : Int) < (P : Int) := by omega
    go_wp2_with (fail)
    go_loopg [12] P (fun gy iv wr => ∃ b : Nat, iv = .int .i64 b ∧ b ≤ P ∧ P - b ≤ gy ∧ Hid (TiK M vF vS P gT r loT hiT (flB y a b (flA P y a (flO P y t0))) w wr))
    case atStart => exact ⟨0, rfl, Nat.zero_le _, Nat.le_refl _, K0⟩
    case round =>
     clear K0 x0
     obtain ⟨b, rfl, hb, hgv, K0⟩ := hrel
     have x0 : wr.cell? ⟨w.heap.size, 0, none⟩ = some (.int .i64 (P : Int)) := by rw [← HP.out]; exact K0.out.x.cell 0
     by_cases hbl : b < P
     case neg =>
      obtain rfl : P = b := by omega
      go_wp2_with (fail)
      go_roundg (P - (a + 1))
      case measure => omega
      case rel => exact ⟨a + 1, by first | rfl | go_num | (congr 1; omega), by omega, Nat.le_refl _, K0⟩
     have hblz : (b : Int) < (P : Int) := by omega
     have hst := flO_step (n := P) (t := t0) (HT0.out ▸ dgK_in HNK.out) hp8.2 hyl hal hbl
     obtain ⟨T0, hT⟩ : ∃ q, q = flB y a b (flA P y a (flO P y t0)) := ⟨_, rfl⟩
     have HTS := hI9 (show flB y a (b + 1) (flA P y a (flO P y t0)) = flS T0 y a b by rw [hT]; rfl)
     rw [← hT] at K0 hst
     clear hT
     obtain ⟨⟨s1, s2⟩, s3, s4⟩ := hst
     obtain ⟨ca, -, -, co⟩ := K0.out.t.o a hal
     obtain ⟨cy, -, -, co2⟩ := K0.out.t.o y hyl
     have cc := K0.out.t.cell hal hyl
     have cc2 := K0.out.t.cell hyl hbl
     have cc3 := K0.out.t.cell hal hbl
     have fr := K0.out.t.fr hal b
     have HSE := hI9 (show flS T0 y a b = if 0 ≤ T0 a y ∧ 0 ≤ T0 y b then stpT T0 a b (T0 a y + T0 y b) else T0 from rfl)
     generalize hu1 : T0 a y = u1 at *
     generalize hu2 : T0 y b = u2 at *
     generalize hu3 : T0 a b = u3 at *
     have HU3 := hI9 hu3
     clear hu1 hu2 hu3
     by_cases h1 : u1 < 0
     ·have z1 : decide (u1 < 0) = true := decide_eq_true h1
      go_wp2_with (fail)
      go_roundg (P - (b + 1))
      case measure => omega
      case rel => exact ⟨b + 1, by first | rfl | go_num | (congr 1; omega), by omega, Nat.le_refl _, hI9 (by rw [HTS.out, HSE.out, if_neg (by omega)]; exact K0.out)⟩
     by_cases h2 : u2 < 0
     ·have z2 : decide (u2 < 0) = true := decide_eq_true h2
      go_wp2_with (fail)
      go_roundg (P - (b + 1))
      case measure => omega
      case rel => exact ⟨b + 1, by first | rfl | go_num | (congr 1; omega), by omega, Nat.le_refl _, hI9 (by rw [HTS.out, HSE.out, if_neg (by omega)]; exact K0.out)⟩
     have hws : IntKind.i64.wrap (u1 + u2) = u1 + u2 := by rw [IntKind.wrap_i64]; omega
     go_wp2_with (fail)
     (refine wp_region_drawnt 15 (by kernel_rfl) (by kernel_rfl) ?_; simp only [List.take_succ_cons, List.take_zero, List.drop_succ_cons, List.drop_zero]; (repeat (go_big_quiet_step ( fail))); refine wpQuiet_nil ?_; rintro _ ⟨nq, rfl⟩)
     have nK := hI9 (K0.out.below (bdn (RowKit.Below.refl _ _) nq))
     clear K0 co co2 cc cc2 cc3 fr x0 hws
     have K0 := nK
     clear nK
     generalize wr.drewN nq = wr at *
     obtain ⟨ca2, -, -, co⟩ := K0.out.t.o a hal
     have cc3 : wr.cell? ⟨r a, b, none⟩ = some (.int .i64 u3) := by rw [← HU3.out]; exact K0.out.t.cell hal hbl
     have fr := K0.out.t.fr hal b
     have HQ := hI9 (show flB y a (b + 1) (flA P y a (flO P y t0)) = stpT T0 a b (u1 + u2) from by rw [HTS.out, HSE.out, if_pos (by omega)])
     by_cases h3 : u3 < 0
     ·have nK := hI9 (K0.out.set_ HLO.out hal (b := b) (x := u1 + u2) (Or.inl (by rw [HU3.out]; exact h3)))
      clear K0
      go_wp2_with (fail)
      go_roundg (P - (b + 1))
      case measure => omega
      case rel => exact ⟨b + 1, by first | rfl | go_num | (congr 1; omega), by omega, Nat.le_refl _, hI9 (by rw [HQ.out]; exact nK.out)⟩
     by_cases h4 : u1 + u2 < u3
     ·have nK := hI9 (K0.out.set_ HLO.out hal (b := b) (x := u1 + u2) (Or.inr (by rw [HU3.out]; exact h4)))
      clear K0
      go_wp2_with (fail)
      go_roundg (P - (b + 1))
      case measure => omega
      case rel => exact ⟨b + 1, by first | rfl | go_num | (congr 1; omega), by omega, Nat.le_refl _, hI9 (by rw [HQ.out]; exact nK.out)⟩
     have HQ2 := hI9 (show stpT T0 a b (u1 + u2) = T0 from stpT_no (by rw [HU3.out]; omega))
     go_wp2_with (fail)
     go_roundg (P - (b + 1))
     case measure => omega
     case rel => exact ⟨b + 1, by first | rfl | go_num | (congr 1; omega), by omega, Nat.le_refl _, hI9 (by rw [HQ.out, HQ2.out]; exact K0.out)⟩
end Go.Proofs.YtlabfpjlckdmfaaGreat

namespace Go.Proofs.YtlabfpjlckdmfaaGreat
open Go Go.RowKit Go.Proofs
set_option maxRecDepth 100000
set_option maxHeartbeats 8000000
theorem l5same_c (v1 v2 : Value) (n : Nat) (R Q : Nat → Int) (w : World) (h1 : SlI w v1 n R) (h2 : SlI w v2 n Q) (hpq : ∀ j, j < n → R j = Q j) :
  Calls Tryz.prog 15 #[v1, v2] w fun e w' => e = .returned (.bool true) ∧ RowKit.Below w.heap.size w w' := by
 obtain ⟨A1, c1, rfl, o1, o2, hr1⟩ := h1
 obtain ⟨A2, c2, rfl, o3, o4, hr2⟩ := h2
 have H1 := hI9 hr1
 have H2 := hI9 hr2
 have HP := hI9 hpq
 clear hr1 hr2 hpq
 go_enter Tryz.func15, Tryz.ntmps15
 go_wp2_with (fail)
 go_loopg [5] n (fun gx v wr => ∃ k : Nat, v = .int .i64 k ∧ k ≤ n ∧ n - k ≤ gx ∧ Hid (RowKit.Below w.heap.size w wr))
 case atStart => exact ⟨0, rfl, Nat.zero_le _, Nat.le_refl _, hI9 (RowKit.Below.refl _ _)⟩
 case round =>
  obtain ⟨k, rfl, hk, hgx, HB⟩ := hrel
  by_cases hlt : k < n
  ·have hltz : (k : Int) < (n : Int) := by omega
   obtain ⟨b1, o1', rfl, hb1, hc1⟩ := H1.out (by omega)
   obtain ⟨b2, o2', rfl, hb2, hc2⟩ := H2.out (by omega)
   have d1 : wr.cell? ⟨b1, o1' + k, none⟩ = some (.int .i64 (R k)) := (HB.out.cell (p := ⟨b1, o1' + k, none⟩) hb1).trans (by have := hc1 k hlt 0 (by omega); rw [Nat.mul_one, Nat.add_zero] at this; exact this)
   have d2 : wr.cell? ⟨b2, o2' + k, none⟩ = some (.int .i64 (R k)) := (HB.out.cell (p := ⟨b2, o2' + k, none⟩) hb2).trans (by have := hc2 k hlt 0 (by omega); rw [Nat.mul_one, Nat.add_zero] at this; rw [HP.out k hlt]; exact this)
   clear hc1 hc2
   generalize R k = p at *
   go_wp2
   go_quiet (fail)
   have HB2 := hI9 (bdn HB.out nq)
   clear HB d1 d2
   generalize wr.drewN nq = wq at *
   go_wp2
   go_roundg (n - (k + 1))
   case measure => omega
   case rel => exact ⟨k + 1, by first | rfl | go_num | (congr 1; omega), by omega, Nat.le_refl _, HB2⟩
  ·obtain rfl : n = k := by omega
   go_wp2
   go_ret
   exact ⟨rfl, HB.out⟩
end Go.Proofs.YtlabfpjlckdmfaaGreat

namespace Go.Proofs.YtlabfpjlckdmfaaGreat
open Go Go.RowKit Go.Proofs
set_option maxRecDepth 100000
set_option maxHeartbeats 8000000
def FliD.lasts (F : FliD) (t : Int) : Bool := decide (F.res ≤ F.fuel - F.burn * (t - F.dep))
theorem arrival_c (M : MetD) (vF vS v vN : Value) (P : Nat) (lt tt : Tab) (F : FliD) (vR : Value) (lw ls lc : Int) (li lb : Bool) (w : World) (h : FliAt w v vN M vF vS P lt tt F vR lw ls lc li lb) (hm : 1 ≤ F.m) :
  Calls Tryz.prog 31 #[v] w fun e w' => e = .returned (.int .i64 (F.at_ lt (F.m - 1))) ∧ RowKit.Below w.heap.size w w' := by
 obtain ⟨gx, vA, rfl, h1, -, -, ⟨A2, c2, rfl, e2, e3, e4⟩, -⟩ := h
 obtain ⟨b2, o2, rfl, hb2, hc2⟩ := e4 (by omega)
 obtain ⟨m, hme⟩ : ∃ m, m = F.m - 1 := ⟨_, rfl⟩
 rw [← hme]
 have cl : w.cell? ⟨b2, o2 + m, none⟩ = some (.int .i64 (F.at_ lt m)) := by have := hc2 m (by omega) 0 (by omega); rw [Nat.mul_one, Nat.add_zero] at this; exact this
 have x11 := h1.cell 11
 simp only [gtA, gtS, gtZ] at x11
 have hmz : IntKind.i64.wrap ((F.m : Int) - 1) = (m : Int) := by rw [IntKind.wrap_i64]; omega
 have hmz2 : (m : Int) < (F.m : Int) := by omega
 clear hc2 e4 h1 hme
 generalize F.at_ lt m = D at *
 go_enter Tryz.func31, Tryz.ntmps31
 go_wp2_with (fail)
 (refine wp_region_drawnt 12 (by kernel_rfl) (by kernel_rfl) ?_; simp only [List.take_succ_cons, List.take_zero, List.drop_succ_cons, List.drop_zero]; (repeat (go_big_quiet_step ( fail))); refine wpQuiet_nil ?_; rintro _ ⟨nq, rfl⟩)
 go_wp2_with (fail)
 go_ret
 exact ⟨rfl, bdn (RowKit.Below.refl _ _) _⟩
theorem lasts_c (M : MetD) (vF vS v vN : Value) (P : Nat) (lt tt : Tab) (F : FliD) (vR : Value) (lw ls lc : Int) (li lb : Bool) (t : Int) (w : World) (h : FliAt w v vN M vF vS P lt tt F vR lw ls lc li lb) (hn : F.nums = true) (ht : -1000000 ≤ t ∧ t ≤ 1000000) :
  Calls Tryz.prog 67 #[v, .int .i64 t] w fun e w' => e = .returned (.bool (F.lasts t)) ∧ RowKit.Below w.heap.size w w' := by
 obtain ⟨gx, vA, rfl, h1, -, -, -, -⟩ := h
 obtain ⟨hm, hd, hf, hr, hb⟩ := FliD.nums_iff.1 hn
 have x2 := h1.cell 2
 have x3 := h1.cell 3
 have x4 := h1.cell 4
 have x5 := h1.cell 5
 simp only [gtA, gtS, gtZ] at x2 x3 x4 x5
 unfold FliD.lasts
 generalize F.dep = dp at *
 generalize F.fuel = fu at *
 generalize F.burn = bu at *
 generalize F.res = re at *
 have hw1 : IntKind.i64.wrap (t - dp) = t - dp := by rw [IntKind.wrap_i64]; omega
 have hD : -1002000 ≤ t - dp ∧ t - dp ≤ 1002000 := by omega
 have hbd := mul_bd (A := 100000) (B := 1002000) (a := bu) (b := t - dp) (by omega) (by omega) hD.1 hD.2
 have hw2 : IntKind.i64.wrap (bu * (t - dp)) = bu * (t - dp) := by rw [IntKind.wrap_i64]; omega
 have hw3 : IntKind.i64.wrap (fu - bu * (t - dp)) = fu - bu * (t - dp) := by rw [IntKind.wrap_i64]; omega
 clear hbd hD hm hd hf hr hb ht hn h1
 go_enter Tryz.func67, Tryz.ntmps67
 go_wp2_with (fail)
 (refine wp_region_drawnt 25 (by kernel_rfl) (by kernel_rfl) ?_; simp only [List.take_succ_cons, List.take_zero, List.drop_succ_cons, List.drop_zero]; (repeat (go_big_quiet_step ( fail))); refine wpQuiet_nil ?_; rintro _ ⟨nq, rfl⟩)
 go_wp2_with (fail)
 go_ret
 exact ⟨ret_bool (by simp), bdn (RowKit.Below.refl _ _) _⟩
end Go.Proofs.YtlabfpjlckdmfaaGreat

namespace Go.Proofs.YtlabfpjlckdmfaaGreat
open Go Go.RowKit Go.Proofs
def rlxV (u v x : Int) : Int := if 0 ≤ u ∧ 0 ≤ v then (if x < 0 ∨ u + v < x then u + v else x) else x
theorem rlxV_r (x : Int) : rlxV x 0 x = x := by unfold rlxV; split <;> (try split) <;> omega
theorem rlxV_l (x : Int) : rlxV 0 x x = x := by unfold rlxV; split <;> (try split) <;> omega
theorem flB_at {t : Tab} {y a : Nat} (h0 : t y y = 0) : ∀ b i j, flB y a b t i j = if i = a ∧ j < b then rlxV (t a y) (t y j) (t a j) else t i j
 | 0, i, j => by rw [if_neg (by omega)]; rfl
 | b + 1, i, j => by
  have e1 : flB y a b t a y = t a y := by
   rw [flB_at h0 b a y]
   split
   ·rw [h0]; exact rlxV_r _
   ·rfl
  have e2 : flB y a b t y b = t y b := by rw [flB_at h0 b y b, if_neg (by omega)]
  have e3 : flB y a b t a b = t a b := by rw [flB_at h0 b a b, if_neg (by omega)]
  have hs : flS (flB y a b t) y a b i j = if i = a ∧ j = b then rlxV (t a y) (t y b) (t a b) else flB y a b t i j := by
   unfold flS stpT rlxV
   rw [e1, e2]
   by_cases q : i = a ∧ j = b
   ·obtain ⟨rfl, rfl⟩ := q
    rw [if_pos (show i = i ∧ j = j from ⟨rfl, rfl⟩)]
    split
    ·show (if i = i ∧ j = j then _ else _) = _
     rw [if_pos (show i = i ∧ j = j from ⟨rfl, rfl⟩), e3]
    ·exact e3
   ·rw [if_neg q]
    split
    ·show (if i = a ∧ j = b then _ else _) = _
     rw [if_neg q]
    ·rfl
  refine hs.trans ?_
  by_cases q : i = a ∧ j = b
  ·rw [if_pos q, if_pos (show i = a ∧ j < b + 1 by omega), q.2]
  ·rw [if_neg q, flB_at h0 b i j]
   by_cases q2 : i = a ∧ j < b
   ·rw [if_pos q2, if_pos (show i = a ∧ j < b + 1 by omega)]
   ·rw [if_neg q2, if_neg (show ¬ (i = a ∧ j < b + 1) by omega)]
theorem flA_at {t : Tab} {y n : Nat} (hy : y < n) (h0 : t y y = 0) : ∀ a i j, j < n → flA n y a t i j = if i < a then rlxV (t i y) (t y j) (t i j) else t i j
 | 0, i, j, _ => by rw [if_neg (by omega)]; rfl
 | a + 1, i, j, hj => by
  have row : ∀ j, j < n → flA n y a t y j = t y j := fun j hj => by
   rw [flA_at hy h0 a y j hj]
   split
   ·rw [h0]; exact rlxV_l _
   ·rfl
  have e1 : flA n y a t a y = t a y := by rw [flA_at hy h0 a a y hy, if_neg (by omega)]
  show flB y a n (flA n y a t) i j = _
  rw [flB_at (by rw [row y hy]; exact h0) n i j, e1, row j hj]
  by_cases q : i = a
  ·subst q
   rw [if_pos ⟨rfl, hj⟩, if_pos (by omega), flA_at hy h0 i i j hj, if_neg (by omega)]
  ·rw [if_neg (fun h => q h.1), flA_at hy h0 a i j hj]
   by_cases q2 : i < a
   ·rw [if_pos q2, if_pos (by omega)]
   ·rw [if_neg q2, if_neg (by omega)]
structure TriT (n k : Nat) (t0 t : Tab) : Prop where
 lo : ∀ i j, i < n → j < n → -1 ≤ t i j
 dg : ∀ i, i < n → t i i = 0
 off : ∀ i j, i < n → j < n → i ≠ j → t i j ≠ 0
 sym : ∀ i j, i < n → j < n → t i j = t j i
 tri : ∀ i j c, i < n → j < n → c < k → c < n → 0 ≤ t i c → 0 ≤ t c j → 0 ≤ t i j ∧ t i j ≤ t i c + t c j
 leg : ∀ i j, i < n → j < n → 0 ≤ t0 i j → 0 ≤ t i j ∧ t i j ≤ t0 i j
theorem rlxV_cases (u v x : Int) (hx : -1 ≤ x) : (0 ≤ u ∧ 0 ≤ v ∧ (x < 0 ∨ u + v < x) ∧ rlxV u v x = u + v) ∨ ((u < 0 ∨ v < 0 ∨ 0 ≤ x ∧ x ≤ u + v) ∧ rlxV u v x = x) := by
 unfold rlxV
 split
 ·split
  ·left; omega
  ·right; omega
 ·right; omega
theorem TriT.step {n k : Nat} {t0 t : Tab} (h : TriT n k t0 t) (hk : k < n) : TriT n (k + 1) t0 (flA n k n t) := by
 have hA : ∀ i j, i < n → j < n → flA n k n t i j = rlxV (t i k) (t k j) (t i j) := fun i j hi hj => by
  rw [flA_at hk (h.dg k hk) n i j hj, if_pos hi]
 have hC := fun i j (hi : i < n) (hj : j < n) => rlxV_cases (t i k) (t k j) (t i j) (h.lo i j hi hj)
 refine ⟨fun i j hi hj => ?_, fun i hi => ?_, fun i j hi hj hne => ?_, fun i j hi hj => ?_, fun i j c hi hj hc hcn => ?_, fun i j hi hj h0 => ?_⟩
 ·rw [hA i j hi hj]
  have := h.lo i j hi hj
  rcases hC i j hi hj with q | q <;> omega
 ·rw [hA i i hi hi]
  have := h.dg i hi
  have := h.lo i k hi hk
  have := h.lo k i hk hi
  rcases hC i i hi hi with q | q <;> omega
 ·rw [hA i j hi hj]
  have h1 := h.off i j hi hj hne
  by_cases q1 : i = k
  ·subst q1
   have := h.dg i hi
   rcases hC i j hi hj with q | q <;> omega
  ·have h2 := h.off i k hi hk q1
   rcases hC i j hi hj with q | q <;> omega
 ·rw [hA i j hi hj, hA j i hj hi, h.sym i k hi hk, h.sym k j hk hj, h.sym i j hi hj]
  have d1 := h.lo j i hj hi
  rcases rlxV_cases (t k i) (t j k) (t j i) d1 with q | q <;> rcases rlxV_cases (t j k) (t k i) (t j i) d1 with p | p <;> omega
 ·rw [hA i j hi hj, hA i c hi hcn, hA c j hcn hj]
  have d1 := h.lo i j hi hj
  have d2 := h.dg k hk
  have l1 := h.lo i c hi hcn
  have l2 := h.lo c j hcn hj
  by_cases q1 : c = k
  ·subst q1
   have e1 : rlxV (t i c) (t c c) (t i c) = t i c := by rw [d2]; exact rlxV_r _
   have e2 : rlxV (t c c) (t c j) (t c j) = t c j := by rw [d2]; exact rlxV_l _
   rw [e1, e2]
   rcases hC i j hi hj with q | q <;> omega
  ·have k1 := h.tri i j c hi hj (by omega) hcn
   have k2 := h.tri i k c hi hk (by omega) hcn
   have k3 := h.tri k j c hk hj (by omega) hcn
   rcases hC i j hi hj with q | q <;> rcases hC i c hi hcn with p | p <;> rcases hC c j hcn hj with r | r <;> omega
 ·rw [hA i j hi hj]
  have h1 := h.leg i j hi hj h0
  rcases hC i j hi hj with q | q <;> omega
theorem TriT.all {n : Nat} {t0 : Tab} (h : TriT n 0 t0 t0) : ∀ k, k ≤ n → TriT n k t0 (flO n k t0)
 | 0, _ => h
 | k + 1, hk => TriT.step (TriT.all h k (by omega)) (by omega)
theorem lgT_sym {P l : Nat} {S : Tab} (h : NetOk P S l) : ∀ k, k ≤ l → ∀ a b, lgT S k a b = lgT S k b a := by
 intro k hk a b
 rw [lgT_leg h a b k hk, lgT_leg h b a k hk]
 clear hk
 induction k with
 | zero => rfl
 | succ k ih =>
  show (if lgJ (S k 0) (S k 1) a b = true ∧ (legK S a b k < 0 ∨ S k 2 < legK S a b k) then S k 2 else legK S a b k) = (if lgJ (S k 0) (S k 1) b a = true ∧ (legK S b a k < 0 ∨ S k 2 < legK S b a k) then S k 2 else legK S b a k)
  have e : lgJ (S k 0) (S k 1) a b = lgJ (S k 0) (S k 1) b a := by
   unfold lgJ
   rw [Bool.or_comm]
  rw [ih, e]
theorem timT_tri {P l : Nat} {S : Tab} (h : NetOk P S l) : TriT P P (dgK (lgT S l) P) (timT S l P) := by
 refine TriT.all ⟨fun i j hi hj => ((dgK_in h).1 i hi j hj).1, fun i hi => (dgK_in h).2 i hi, fun i j hi hj hne => ?_, fun i j hi hj => ?_, fun i j c hi hj hc => absurd hc (Nat.not_lt_zero _), fun i j hi hj h0 => ⟨h0, Int.le_refl _⟩⟩ P (Nat.le_refl _)
 ·unfold dgK
  rw [if_neg (fun q => hne q.1)]
  have := lgT_in h l (Nat.le_refl _) i j
  omega
 ·unfold dgK
  by_cases q : i = j
  ·subst q; rfl
  ·rw [if_neg (fun p => q p.1), if_neg (fun p => q p.1.symm)]
   exact lgT_sym h l (Nat.le_refl _) i j
end Go.Proofs.YtlabfpjlckdmfaaGreat
