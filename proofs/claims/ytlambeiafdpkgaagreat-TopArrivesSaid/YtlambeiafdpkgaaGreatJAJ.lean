/- Texts joined: JAJ. -/
import Derived.Test.YtlambeiafdpkgaaGreatJAI
import Derived.Laws.CopyRow
import Derived.OwnWalk
import Derived.Test.YtlambeiafdpkgaaGreatJAA
import Derived.Maps.AppendAt
set_option linter.all false
namespace Go.Proofs.YtlambeiafdpkgaaGreat
open Go Go.RowKit Go.Proofs
set_option maxRecDepth 100000
set_option maxHeartbeats 8000000
theorem mul64_c (n : Nat) (h1 : 1 ≤ n) (h2 : n ≤ 8) (w : World) :
  Calls Tryz.prog 200 #[.int .u64 1, .int .u64 n] w fun e w' => e = .returned (.tuple #[.int .u64 0, .int .u64 n]) ∧ w' = w := by
 obtain rfl | rfl | rfl | rfl | rfl | rfl | rfl | rfl : n = 1 ∨ n = 2 ∨ n = 3 ∨ n = 4 ∨ n = 5 ∨ n = 6 ∨ n = 7 ∨ n = 8 := by omega
 all_goals
  go_enter Tryz.func200, Tryz.ntmps200
  go_wp2_with (fail)
  go_ret2
  exact ⟨by kernel_rfl, rfl⟩
theorem mul_c (n : Nat) (h1 : 1 ≤ n) (h2 : n ≤ 8) (w : World) :
  Calls Tryz.prog 190 #[.int .u64 1, .int .u64 n] w fun e w' => e = .returned (.tuple #[.int .u64 0, .int .u64 n]) ∧ w' = w := by
 go_enter Tryz.func190, Tryz.ntmps190
 go_wp2_with (first | (refine (mul64_c n h1 h2 _).mono ?_; rintro e w1 ⟨rfl, rfl⟩))
 go_ret2
 exact ⟨rfl, rfl⟩
theorem Tryz.inUx : Tryz.prog.underlying 35 = some (.slice 3) := by kernel_rfl
theorem Tryz.inIx : (Tryz.prog.info? 3).map (fun i => (i.zero, i.size, i.bytes)) = some (some (.int .i64 0), 1, 8) := by kernel_rfl
theorem blk_of_owns {w : World} {base g n : Nat} {T : TypeId} {xs : List Value} (h : w.ownsRow base T 1 (.slice (some ⟨g, 0, none⟩) n n) n xs) : Blk w g T xs.toArray := by
 obtain ⟨h0, h⟩ := h
 rcases h with ⟨h, -⟩ | ⟨g', cap, cur, hv, h1, h2, h3, h4, h5, h6⟩
 ·cases h
 ·simp only [Value.slice.injEq, Option.some.injEq, Addr.mk.injEq, and_true] at hv
  obtain ⟨rfl, -, rfl⟩ := hv
  have : cur = xs.toArray := by
   rw [← h6, List.take_of_length_le (by simp [h5])]
  rw [← this]
  exact h2
theorem wpl_mki {ops : Array Oper} {rest : List Oper} {o : Oper} {a : Act} {w : World} {Q : Exit → Act → World → Prop} (hgd : o.guard = none) (l c : Operand) (n : Nat) (hn : n ≤ 1000) (ho : o.op = .makeSlice 35 l c) (hl : a.eval l = .int .i64 n) (hc : a.eval c = .int .i64 n)
  (h : ∀ w', Below w.heap.size w w' → w.heap.size < w'.heap.size → Blk w' w.heap.size 3 (List.replicate n (Value.int .i64 0)).toArray → wpList Tryz.prog ops Q rest (a.put o.dst (.slice (some ⟨w.heap.size, 0, none⟩) n n)) w') : wpList Tryz.prog ops Q (o :: rest) a w := by
 have hI := Tryz.inIx
 cases hi : Tryz.prog.info? 3 with
 | none => rw [hi] at hI; cases hI
 | some i =>
  rw [hi] at hI
  simp only [Option.map_some, Option.some.injEq, Prod.mk.injEq] at hI
  obtain ⟨i1, i2, i3⟩ := hI
  refine wpList_make_full w hgd l c 35 ho w.heap.size 3 i (.int .i64 0) 1 Tryz.inUx hi i1 i2 .i64 .i64 n n n hl hc rfl rfl (by rw [i3]; omega) (by unfold maxLen; omega) (Nat.le_refl _) (fun w' h1 h2 => ?_)
  have e : (madeCells (Value.cells (.int .i64 0)) (n * 1)).toList = List.replicate n (Value.int .i64 0) := by
   unfold madeCells
   rw [Array.toList_map, Array.toList_range, Nat.mul_one]
   apply List.ext_getElem?
   intro t
   rw [List.getElem?_map, List.getElem?_replicate]
   by_cases ht : t < n
   ·rw [List.getElem?_range ht, if_pos ht]
    show some ((#[Value.int .i64 0])[t % 1]!) = _
    rw [Nat.mod_one]
    rfl
   ·rw [if_neg ht, List.getElem?_eq_none (by simpa using ht)]; rfl
  rw [e] at h1
  have hb := blk_of_owns h1
  exact h w' (below_of_none h2) hb.lt hb
theorem wpl_copyI {ops : Array Oper} {rest : List Oper} {o : Oper} {a : Act} {w : World} {Q : Exit → Act → World → Prop} (hgd : o.guard = none) (d s : Operand) (ho : o.op = .call { callee := .builtin .copy, args := #[d, s], argTypes := #[35, 35] })
  (g off dl dc : Nat) (hd : a.eval d = .slice (some ⟨g, off, none⟩) dl dc) (p q0 sl sc : Nat) (hs : a.eval s = .slice (some ⟨p, q0, none⟩) sl sc) (cur : Array Value) (hg : Blk w g 3 cur)
  (cs : List Value) (hn : cs.length = Nat.min sl dl) (hsrc : ∀ j v, cs[j]? = some v → w.cell? ⟨p, q0 + j, none⟩ = some v) (hfit : off + cs.length ≤ cur.size) (h1 : ∀ v ∈ cs, v.oneCell' = true)
  (h : ∀ w', Hid (w' = w.setRow g (cur.toList.take off ++ cs ++ cur.toList.drop (off + cs.length)).toArray) → wpList Tryz.prog ops Q rest (a.put o.dst (goInt cs.length)) w') : wpList Tryz.prog ops Q (o :: rest) a w := by
 refine wpList_plain hgd fun K' hK' => ?_
 have hI := Tryz.inIx
 have hrun := run_copy_row (P := Tryz.prog) w 35 35 o.type 3 g off dl dc ⟨p, q0, none⟩ sl sc cur 3 cs Tryz.inUx (by
  cases hi : Tryz.prog.info? 3 with
  | none => rw [hi] at hI; cases hI
  | some i => rw [hi] at hI; simp only [Option.map_some, Option.some.injEq, Prod.mk.injEq] at hI ⊢; exact hI.2.1) hg hn (fun j v q => by
   have hadd : (⟨p, q0, none⟩ : Addr).add j = ⟨p, q0 + j, none⟩ := by unfold Addr.add; split <;> simp_all
   rw [hadd]; exact hsrc j v q) hfit h1
 unfold Oper.wp
 simp [execOp, ho, resolve, invoke, builtin, hd, hs, hrun, Result.andThen]
 refine hK' _ _ (h _ ?_)
 rw [List.append_assoc]
 exact hI9 rfl
def repL (n k : Nat) (x : Int) : List Value := List.replicate k (.int .i64 x) ++ List.replicate (n - k) (.int .i64 0)
theorem repL_copy (n k m : Nat) (x : Int) (h : k + m ≤ n) (hk : m ≤ k) : (repL n k x).take k ++ List.replicate m (.int .i64 x) ++ (repL n k x).drop (k + m) = repL n (k + m) x := by
 unfold repL
 rw [List.take_left' (by simp), List.append_assoc]
 rw [← List.replicate_append_replicate, List.append_assoc]
 congr 2
 rw [List.drop_append, List.length_replicate, show k + m - k = m by omega, List.drop_eq_nil_of_le (by simp), List.nil_append, List.drop_replicate]
 congr 1
 omega
theorem mulZ_c (n : Nat) (h1 : 1 ≤ n) (h2 : n ≤ 8) (w : World) :
  Calls Tryz.prog 190 #[.int .u64 1, .int .u64 (n : Int)] w fun e w' => e = .returned (.tuple #[.int .u64 0, .int .u64 (n : Int)]) ∧ w' = w := mul_c n h1 h2 w
theorem below_row' {B g : Nat} {w0 w : World} (hb : Below B w0 w) (hBg : B ≤ g) (cs : Array Value) : Below B w0 (w.setRow g cs) :=
 ⟨hb.os, hb.tape, hb.output, by rw [show (w.setRow g cs).heap.size = w.heap.size by simp [World.setRow]]; exact hb.size, fun k hk => (setRow_other w g k cs (by omega)).trans (hb.block k hk)⟩
theorem yields_mv {P : Program} {ops : Array Oper} {o : Oper} {a : Act} (hg : o.guard = none) (x : Operand) (ho : o.op = .move x) (v : Value) (hx : a.eval x = v) : Yields P ops o v a := by
 refine .inl ⟨by simp [Region.wanted, hg], fun w => ?_⟩
 simp only [execOp, ho, hx]
 simp [Sem.run_pure]
def rpR (g n m : Nat) : Nat → Value → World → Prop
 | 0, v, _ => v = .int .i64 (m : Int)
 | 1, v, _ => v = .slice (some ⟨g, 0, none⟩) n n
 | 2, v, _ => v = .int .i64 (m : Int)
 | 3, v, _ => v = .slice (some ⟨g, m, none⟩) (n - m) (n - m)
 | 4, v, _ => v = .slice (some ⟨g, 0, none⟩) n n
 | 5, v, _ => v = .int .i64 (m : Int)
 | 6, v, _ => v = .slice (some ⟨g, 0, none⟩) m n
 | _, _, _ => True
theorem rpR_below {g n m : Nat} (k : Nat) (v : Value) (w w' : World) (hb : Below w.heap.size w w') (h : rpR g n m k v w) : rpR g n m k v w' := by
 unfold rpR at *
 split at h <;> first | exact h
theorem rep_c (x : Int) (n gx : Nat) (w : World) (h : Blk w gx 3 #[.int .i64 x]) (h1 : 1 ≤ n) (h2 : n ≤ 8) :
  Calls Tryz.prog 165 #[.slice (some ⟨gx, 0, none⟩) 1 1, .int .i64 n] w fun e w' => ∃ g, e = .returned (.slice (some ⟨g, 0, none⟩) n n) ∧ Below w.heap.size w w' ∧ w.heap.size ≤ g ∧ Blk w' g 3 (List.replicate n (.int .i64 x)).toArray := by
 have hn0 : ¬ (n : Int) < 0 := by omega
 have hw1 : IntKind.u64.wrap (n : Int) = (n : Int) := by unfold IntKind.wrap; simp [IntKind.bits, IntKind.signed]; omega
 have HX := hI9 h
 clear h
 go_enter Tryz.func165, Tryz.ntmps165
 go_wp2_with (first | (refine (mulZ_c n h1 h2 _).mono ?_; rintro e w_0 ⟨rfl, rfl⟩) | (refine wpl_mki rfl _ _ n (by omega) rfl rfl rfl ?_))
 intro w2 hb2 hs2 hB2
 have HX2 := hI9 (HX.out.below hb2)
 have HB := hI9 hb2
 obtain ⟨gN, hg⟩ : ∃ q, w_0.heap.size = q := ⟨_, rfl⟩
 have HLE := hI9 hg
 rw [hg] at hs2 hB2 ⊢
 have HBN := hI9 (show Below gN w_0 w2 from hg ▸ hb2)
 have hgx : gx < gN := by have := HX.out.lt; omega
 have HG := hI9 (show Blk w2 gN 3 (repL n 0 x).toArray from by simpa [repL] using hB2)
 clear hB2 hb2 hw1 hn0 hg
 go_wp2_with (refine wpl_copyI rfl _ _ rfl gN 0 n n rfl gx 0 1 1 rfl _ HG.out [.int .i64 x] ?c1 ?c2 ?c3 ?c4 ?_)
 case c1 => show 1 = min 1 n; omega
 case c2 =>
  intro j v hj
  rcases j with _ | j
  ·simp only [List.getElem?_cons_zero, Option.some.injEq] at hj
   subst hj
   exact HX2.out.cell 0
  ·simp at hj
 case c3 => simp [repL]; omega
 case c4 =>
  intro v hv
  rw [List.mem_singleton.1 hv]; rfl
 intro w3 hw3
 have HG1 := hI9 (show Blk w3 gN 3 (repL n 1 x).toArray from by
  rw [hw3.out]
  refine Eq.trans (setRow_heap w2 gN _ _ _ _ HG.out) ?_
  congr 2
  simp [repL])
 have HB1 := hI9 (show Below gN w_0 w3 from by rw [hw3.out]; exact below_row' HBN.out (Nat.le_refl _) _)
 clear hw3
 clear HX2 HB HBN HG hs2
 go_wp2_with (fail)
 go_loopg [8] n (fun gy v wr => ∃ k : Nat, v = .int .i64 k ∧ 1 ≤ k ∧ k ≤ n ∧ n - k ≤ gy ∧ Hid (Below gN w_0 wr) ∧ Hid (Blk wr gN 3 (repL n k x).toArray))
 case atStart => exact ⟨1, rfl, by omega, by omega, by omega, HB1, HG1⟩
 case round =>
  clear HB1 HG1
  obtain ⟨k, rfl, k1, k2, hgy, HB1, HG1⟩ := hrel
  by_cases hlt : k < n
  ·have hltz : (k : Int) < (n : Int) := by omega
   go_wp2_with (fail)
   refine wp_region_specL 7 [0] (rpR gN n k) (fun i => false) (by kernel_rfl) (by kernel_rfl) (by decide) rpR_below ?hop1 ?htail1
   case hop1 =>
    simp only [List.take_succ_cons, List.take_zero, allOps]
    refine ⟨?_, ?_, ?_, ?_, ?_, ?_, ?_, trivial⟩
    all_goals intro u A w1 hA hb hd
    all_goals simp only [putAll, dstOf, gtA, gtS, gtZ, Option.bind_some, Option.bind, Act.put, List.setIfInBounds_toArray, List.set_cons_succ, List.set_cons_zero] at hA; subst hA
    all_goals have HB1 := hI9 hb
    ·clear hb hd
     refine OpOk.late rfl ?_
     (refine ⟨_, yields_mv rfl _ rfl _ rfl, ?_⟩; rfl)
    ·refine OpOk.now rfl ?_
     clear hb hd
     go_wp2
     exact ⟨_, rfl, Below.refl _ _, rfl, fun h => absurd h (by decide)⟩
    ·refine OpOk.now rfl ?_
     clear hb hd
     go_wp2
     exact ⟨_, rfl, Below.refl _ _, rfl, fun h => absurd h (by decide)⟩
    ·refine OpOk.now rfl ?_
     have d1 : u 1 = _ := hd 1 (by omega) (by kernel_rfl)
     have d2 : u 2 = _ := hd 2 (by omega) (by kernel_rfl)
     clear hb hd
     rw [d1, d2]
     clear d1 d2
     go_wp2
     exact ⟨_, rfl, Below.refl _ _, rfl, fun h => absurd h (by decide)⟩
    ·refine OpOk.now rfl ?_
     clear hb hd
     go_wp2
     exact ⟨_, rfl, Below.refl _ _, rfl, fun h => absurd h (by decide)⟩
    ·refine OpOk.now rfl ?_
     clear hb hd
     go_wp2
     exact ⟨_, rfl, Below.refl _ _, rfl, fun h => absurd h (by decide)⟩
    ·refine OpOk.now rfl ?_
     have d4 : u 4 = _ := hd 4 (by omega) (by kernel_rfl)
     have d5 : u 5 = _ := hd 5 (by omega) (by kernel_rfl)
     clear hb hd
     rw [d4, d5]
     clear d4 d5
     go_wp2
     exact ⟨_, rfl, Below.refl _ _, rfl, fun h => absurd h (by decide)⟩
   case htail1 =>
    intro u A w1 hA hb hd hf
    simp only [putAll, dstOf, gtA, gtS, gtZ, Option.bind_some, Option.bind, Act.put, List.setIfInBounds_toArray, List.set_cons_succ, List.set_cons_zero] at hA; subst hA
    have e0 : u 0 = _ := hd 0 (by omega)
    have e1 : u 1 = _ := hd 1 (by omega)
    have e2 : u 2 = _ := hd 2 (by omega)
    have e3 : u 3 = _ := hd 3 (by omega)
    have e4 : u 4 = _ := hd 4 (by omega)
    have e5 : u 5 = _ := hd 5 (by omega)
    have e6 : u 6 = _ := hd 6 (by omega)
    first | rw [e0, e1, e2, e3, e4, e5, e6] | simp only [e0, e1, e2, e3, e4, e5, e6]
    clear e0 e1 e2 e3 e4 e5 e6
    clear hd hf
    have HG2 := hI9 (HG1.out.below hb)
    have hlt2 := HG1.out.lt
    have HB2 := hI9 (HB1.out.trans (hb.mono (Nat.le_of_lt hlt2)))
    clear HB1 HG1
    refine wpl_copyI rfl _ _ rfl gN k (n - k) (n - k) rfl gN 0 k n rfl _ HG2.out (List.replicate (min k (n - k)) (.int .i64 x)) ?d1 ?d2 ?d3 ?d4 ?_
    case d1 => simp
    case d2 =>
     intro j v hj
     rw [List.getElem?_replicate] at hj
     split at hj
     ·rename_i hjk
      simp only [Option.some.injEq] at hj
      subst hj
      have := HG2.out.cell (0 + j)
      rw [this]
      simp only [repL, List.getElem?_toArray, Nat.zero_add]
      rw [List.getElem?_append_left (by simp; omega), List.getElem?_replicate, if_pos (by omega)]
     ·cases hj
    case d3 => simp [repL]; omega
    case d4 =>
     intro v hv
     rw [List.eq_of_mem_replicate hv]; rfl
    intro w3 hw3
    have HG3 := hI9 (show Blk w3 gN 3 (repL n (k + min k (n - k)) x).toArray from by
     rw [hw3.out]
     refine Eq.trans (setRow_heap w1 gN _ _ _ _ HG2.out) ?_
     rw [List.length_replicate, repL_copy n k _ x (by omega) (by omega)])
    have HB3 := hI9 (show Below gN w_0 w3 from by rw [hw3.out]; exact below_row' HB2.out (Nat.le_refl _) _)
    clear hw3 HG2 HB2
    have hk3 : (k : Int) + ((List.replicate (min k (n - k)) (Value.int .i64 x)).length : Int) = ((k + min k (n - k) : Nat) : Int) := by simp
    go_wp2_with (fail)
    dsimp only [NoPanic]
    go_wp2_with (fail)
    go_roundg (n - (k + min k (n - k)))
    case measure => omega
    case rel => exact ⟨k + min k (n - k), by first | rfl | go_num | (congr 1; simp; omega), by omega, by omega, Nat.le_refl _, HB3, HG3⟩
  ·obtain rfl : n = k := by omega
   go_wp2_with (fail)
   go_ret
   exact ⟨_, rfl, by rw [HLE.out]; exact HB1.out, by rw [HLE.out]; exact Nat.le_refl _, by simpa [repL] using HG1.out⟩
end Go.Proofs.YtlambeiafdpkgaaGreat

namespace Go.Proofs.YtlambeiafdpkgaaGreat
open Go Go.RowKit Go.Proofs
set_option maxRecDepth 100000
set_option maxHeartbeats 8000000
theorem short_c {lo hi g n c : Nat} {r : Nat → Nat} {t : Tab} {a b : Nat} {x : Int} {w : World} (h : Sq w 3 lo hi g r n t) (ha : a < n) (hb : b < n) :
  Calls Tryz.prog 127 #[.slice (some ⟨g, 0, none⟩) n c, .int .i64 a, .int .i64 b, .int .i64 x] w fun e w' => e = .returned (.tuple #[]) ∧ w' = shW w (r a) b (t a b) x := by
 obtain ⟨cr, -, -, co⟩ := h.o a ha
 have cc := h.cell ha hb
 have fr := h.fr ha b
 have haz : (a : Int) < (n : Int) := by omega
 have hbz : (b : Int) < (n : Int) := by omega
 unfold shW
 generalize t a b = y at *
 clear h
 by_cases h1 : y < 0
 ·rw [if_pos (Or.inl h1)]
  go_enter Tryz.func127, Tryz.ntmps127
  go_wp2_with (fail)
  go_end0
  exact ⟨rfl, rfl⟩
 ·by_cases h2 : x < y
  ·rw [if_pos (Or.inr h2)]
   go_enter Tryz.func127, Tryz.ntmps127
   go_wp2_with (fail)
   go_end0
   exact ⟨rfl, rfl⟩
  ·rw [if_neg (fun q => q.elim h1 h2)]
   go_enter Tryz.func127, Tryz.ntmps127
   go_wp2_with (fail)
   go_end0
   exact ⟨rfl, rfl⟩
theorem ownLt {w : World} {base : Nat} {e : TypeId} {size : Nat} {v : Value} {n : Nat} {xs : List Value} (h : w.ownsRow base e size v n xs) {b : Nat} (hb : some b = v.ownBlock) : base ≤ b ∧ b < w.heap.size := by
 rcases h.2 with ⟨rfl, -⟩ | ⟨g, cap, cur, rfl, h2, h3, -⟩
 ·cases hb
 ·have : b = g := by simpa [Value.ownBlock] using hb
  subst this
  exact ⟨h2, (Array.getElem?_eq_some_iff.1 h3).1⟩
theorem Blk.grew {W W' : World} {n : Nat} {t : TypeId} {cs : Array Value} {o : Option Nat} (h : Blk W n t cs) (hg : W.grownBy W' o) (hne : some n ≠ o) : Blk W' n t cs :=
 (hg.block n h.lt hne).trans h
theorem belowGrew {w w' : World} {base : Nat} {o : Option Nat} (h : w.grownBy w' o) (hb : base ≤ w.heap.size) (ho : ∀ b, some b = o → base ≤ b) : Below base w w' :=
 ⟨h.os, h.tape, h.output, h.size, fun k hk => h.block k (by omega) (fun e => by have := ho k e; omega)⟩
theorem Tryz.sqU : Tryz.prog.underlying 92 = some (.slice 35) := by kernel_rfl
theorem Tryz.sqI : (Tryz.prog.info? 35).map (fun i => (i.zero, i.size, i.bytes)) = some (some (.slice none 0 0), 1, 24) := by kernel_rfl
theorem wpl_appS {ops : Array Oper} {rest : List Oper} {o : Oper} {a : Act} {w : World} {Q : Exit → Act → World → Prop} (hgd : o.guard = none) (s x : Operand)
  (ho : o.op = .call { callee := .builtin .append, args := #[s, x], argTypes := #[92, 92] }) (base : Nat) (v : Value) (n : Nat) (xs : List Value) (hs : a.eval s = v) (hown : w.ownsRow base 35 1 v n xs)
  (g : Nat) (y : Value) (hx : a.eval x = .slice (some ⟨g, 0, none⟩) 1 1) (hc : w.cell? ⟨g, 0, none⟩ = some y) (hy : y.oneCell' = true) (h40 : n ≤ 1000) (hbase : base ≤ w.heap.size)
  (h : ∀ v' w', Hid (w'.ownsRow base 35 1 v' (n + 1) (xs ++ [y])) → Hid (w.grownBy w' v.ownBlock) → Hid (v'.ownBlock = v.ownBlock ∨ v'.ownBlock = some w.heap.size) → wpList Tryz.prog ops Q rest (a.put o.dst v') w') : wpList Tryz.prog ops Q (o :: rest) a w := by
 have hI := Tryz.sqI
 cases hi : Tryz.prog.info? 35 with
 | none => rw [hi] at hI; cases hI
 | some i =>
  rw [hi] at hI
  simp only [Option.map_some, Option.some.injEq, Prod.mk.injEq] at hI
  refine wpList_append_own_at w hgd s x 92 ho base 35 i (.slice none 0 0) 1 24 Tryz.sqU hi hI.1 hI.2.1 hI.2.2 rfl (by decide) v n xs hs hown ⟨g, 0, none⟩ 1 1 [y] hx rfl ?_ ?_ (by unfold maxLen; omega) (by omega) hbase ?_
  ·intro j u hj
   match j, hj with
   | 0, hj =>
    have : u = y := by simpa using hj.symm
    subst this
    exact hc
  ·intro u hu
   have : u = y := by simpa using hu
   subst this
   exact hy
  ·intro v' w' h1 h2 h3 h4
   exact h v' w' (hI9 h1) (hI9 h2) (hI9 h4)
structure SqB (w0 w : World) (v : Value) (i n : Nat) (x : Int) (r : Nat → Nat) : Prop where
 b : Below w0.heap.size w0 w
 o : w.ownsRow w0.heap.size 35 1 v i ((List.range i).map fun k => .slice (some ⟨r k, 0, none⟩) n n)
 rk : ∀ k, k < i → w0.heap.size ≤ r k ∧ Blk w (r k) 3 (List.replicate n (.int .i64 x)).toArray ∧ some (r k) ≠ v.ownBlock
 d : ∀ j, j < i → ∀ k, k < i → r j = r k → j = k
theorem SqB.below {w0 w w' : World} {v : Value} {i n : Nat} {x : Int} {r : Nat → Nat} (h : SqB w0 w v i n x r) (hb : Below w.heap.size w w') : SqB w0 w' v i n x r :=
 ⟨bthen h.b hb, ownsRow_below h.o hb, fun k hk => ⟨(h.rk k hk).1, (h.rk k hk).2.1.below hb, (h.rk k hk).2.2⟩, h.d⟩
theorem SqB.step {w0 w w1 w2 : World} {v v' : Value} {i n g : Nat} {x : Int} {r : Nat → Nat} (h : SqB w0 w v i n x r) (hb : Below w.heap.size w w1) (hg : w.heap.size ≤ g) (hB : Blk w1 g 3 (List.replicate n (.int .i64 x)).toArray)
  (ho : w2.ownsRow w0.heap.size 35 1 v' (i + 1) ((List.range i).map (fun k => .slice (some ⟨r k, 0, none⟩) n n) ++ [.slice (some ⟨g, 0, none⟩) n n])) (hgr : w1.grownBy w2 v.ownBlock) (hv : v'.ownBlock = v.ownBlock ∨ v'.ownBlock = some w1.heap.size) :
  SqB w0 w2 v' (i + 1) n x (fun k => if k = i then g else r k) := by
 have hlt := hB.lt
 have h1 := h.below hb
 have hvo : ∀ b, some b = v.ownBlock → w0.heap.size ≤ b ∧ b < w.heap.size := fun b q => ownLt h.o q
 have hbs := h.b.size
 refine ⟨h1.b.trans (belowGrew hgr h1.b.size (fun b q => (hvo b q).1)), ?_, fun k hk => ?_, fun j hj k hk e => ?_⟩
 ·have e : (List.range (i + 1)).map (fun k => Value.slice (some ⟨(if k = i then g else r k), 0, none⟩) n n) = (List.range i).map (fun k => .slice (some ⟨r k, 0, none⟩) n n) ++ [.slice (some ⟨g, 0, none⟩) n n] := by
   rw [List.range_succ, List.map_append]
   congr 1
   ·refine List.map_congr_left fun k hk => ?_
    rw [if_neg (by have := List.mem_range.1 hk; omega)]
   ·simp
  rw [e]; exact ho
 ·show w0.heap.size ≤ (if k = i then g else r k) ∧ Blk w2 (if k = i then g else r k) 3 _ ∧ some (if k = i then g else r k) ≠ v'.ownBlock
  by_cases e : k = i
  ·rw [if_pos e]
   have hne : some g ≠ v.ownBlock := fun q => by have := (hvo g q).2; omega
   refine ⟨by omega, hB.grew hgr hne, fun q => ?_⟩
   rcases hv with hv | hv
   ·exact hne (q.trans hv)
   ·rw [hv] at q; have := Option.some.inj q; omega
  ·rw [if_neg e]
   obtain ⟨q1, q2, q3⟩ := h1.rk k (by omega)
   refine ⟨q1, q2.grew hgr q3, fun q => ?_⟩
   rcases hv with hv | hv
   ·exact q3 (q.trans hv)
   ·rw [hv] at q; have := Option.some.inj q; have := q2.lt; omega
 ·have hold : ∀ k, k < i → r k < w.heap.size := fun k hk => (h.rk k hk).2.1.lt
  by_cases e1 : j = i
  ·by_cases e2 : k = i
   ·omega
   ·rw [if_pos e1, if_neg e2] at e; have := hold k (by omega); omega
  ·by_cases e2 : k = i
   ·rw [if_neg e1, if_pos e2] at e; have := hold j (by omega); omega
   ·rw [if_neg e1, if_neg e2] at e; exact h.d j (by omega) k (by omega) e
theorem SqB.sq {w0 w : World} {v : Value} {n : Nat} {x : Int} {r : Nat → Nat} (h : SqB w0 w v n n x r) (hn : 1 ≤ n) : ∃ g c, v = .slice (some ⟨g, 0, none⟩) n c ∧ n ≤ c ∧ c ≤ 9223372036854775807 ∧ Sq w 3 w0.heap.size w.heap.size g r n (fun _ _ => x) := by
 have ho := h.o
 rcases ho.2 with ⟨rfl, hz⟩ | ⟨g, cap, cur, rfl, h1, h2, h3, h4, h5, h6⟩
 ·omega
 ·refine ⟨g, cap, rfl, h3, by unfold maxLen at h4; omega, ⟨⟨h1, (Array.getElem?_eq_some_iff.1 h2).1, Nat.le_refl _⟩, fun i hi => ⟨(h.rk i hi).1, (h.rk i hi).2.1.lt, fun e => (h.rk i hi).2.2 (by rw [e]; rfl)⟩, h.d, fun i hi => ?_, fun i hi => ?_⟩⟩
  ·refine ⟨n, Nat.le_refl _, by unfold maxLen at h4; omega, ?_⟩
   have := ho.cellAt (g := g) i (by omega)
   rw [this]
   simp [hi]
  ·refine ⟨_, (h.rk i hi).2.1, fun j hj => ?_⟩
   simp [hj]
theorem square_c (n : Nat) (x : Int) (h1 : 1 ≤ n) (h2 : n ≤ 8) (w : World) :
  Calls Tryz.prog 126 #[.int .i64 n, .int .i64 x] w fun e w' => ∃ g r c, e = .returned (.slice (some ⟨g, 0, none⟩) n c) ∧ Below w.heap.size w w' ∧ n ≤ c ∧ c ≤ 9223372036854775807 ∧ Sq w' 3 w.heap.size w'.heap.size g r n (fun _ _ => x) := by
 go_enter Tryz.func126, Tryz.ntmps126
 go_wp2_with (fail)
 go_loopg [4, 6] n (fun gy v k wr => ∃ (i : Nat) (r : Nat → Nat), k = .int .i64 i ∧ i ≤ n ∧ n - i ≤ gy ∧ Hid (SqB w wr v i n x r))
 case atStart => exact ⟨0, fun _ => 0, rfl, by omega, by omega, hI9 ⟨Below.refl _ _, World.ownsRow_nil _ _ _ _, fun k hk => by omega, fun j hj => by omega⟩⟩
 case round =>
  obtain ⟨i, r, rfl, hi, hgy, HS⟩ := hrel
  by_cases hlt : i < n
  ·have hltz : (i : Int) < (n : Int) := by omega
   go_wp2_with (fail)
   refine (rep_c x n wr.heap.size _ (Blk.new _ _ _) h1 h2).mono ?_
   rintro e w2 ⟨g, rfl, hb2, hg2, hB2⟩
   have hgw : wr.heap.size ≤ g := by have := World.size_alloc wr (.cells #[.int .i64 x] 3); omega
   have HB := hI9 (bthen (bal (Below.refl wr.heap.size wr) (.cells #[.int .i64 x] 3)) hb2)
   have HG := hI9 hB2
   clear hb2 hg2 hB2
   go_wp2_with (at_builtin; refine wpl_appS rfl _ _ rfl w.heap.size _ i _ rfl (ownsRow_below (HS.out.below HB.out).o (bal (Below.refl _ _) _)) w2.heap.size (.slice (some ⟨g, 0, none⟩) n n) rfl ?c1 rfl (by omega) ?c2 ?_)
   case c1 => exact (Blk.new _ _ _).cell 0
   case c2 => have := (HS.out.below HB.out).b.size; simp; omega
   intro v' w3 ho hgr hv
   have HS3 := hI9 (HS.out.step (bthen HB.out (bal (Below.refl _ _) _)) hgw (HG.out.alloc _) ho.out hgr.out (by rw [World.size_alloc]; exact hv.out))
   clear HS ho hgr hv HB HG
   go_wp2_with (fail)
   go_roundg (n - (i + 1))
   case measure => omega
   case rel => exact ⟨i + 1, _, by first | rfl | go_num | (congr 1; omega), by omega, Nat.le_refl _, HS3⟩
  ·obtain rfl : n = i := by omega
   obtain ⟨g, c, rfl, e2, e3, e4⟩ := HS.out.sq h1
   have HE := hI9 e4
   clear e4
   go_wp2_with (fail)
   go_ret
   exact ⟨g, r, c, rfl, HS.out.b, e2, e3, HE.out⟩
end Go.Proofs.YtlambeiafdpkgaaGreat

namespace Go.Proofs.YtlambeiafdpkgaaGreat
open Go Go.RowKit Go.Proofs
set_option maxRecDepth 100000
def LgsAt (w : World) (A : Option Addr) (n : Nat) (S : Nat → Nat → Int) : Prop :=
 0 < n → ∃ b off, A = some ⟨b, off, none⟩ ∧ b < w.heap.size ∧ ∀ k, k < n → w.cell? ⟨b, off + k * 3, none⟩ = some (.int .i64 (S k 0)) ∧ w.cell? ⟨b, off + k * 3 + 1, none⟩ = some (.int .i64 (S k 1)) ∧ w.cell? ⟨b, off + k * 3 + 2, none⟩ = some (.int .i64 (S k 2))
set_option maxHeartbeats 400000 in
theorem ixLg_c (A : Option Addr) (n c : Nat) (S : Nat → Nat → Int) (g : Nat) (lb : Array Value) (p : Nat → Bool) (w : World) (hn : n ≤ 9223372036854775807)
  (eg : ∀ args w, (callFunc g args).run Tryz.prog w = .ok (.enter g args) w)
  (hA : LgsAt w A n S) (hp : PredB Tryz.prog g lb n (fun i => .agg #[.int .i64 (S i 0), .int .i64 (S i 1), .int .i64 (S i 2)]) p w) :
  Calls Tryz.prog 164 #[.slice A n c, .func (.func g) #[] lb] w fun e w' => e = .returned (.int .i64 (firstIx p n)) ∧ Below w.heap.size w w' := by
 go_enter Tryz.func164, Tryz.ntmps164
 go_wp2
 go_loopw [5, 8] (fun _ s8 wr => ∃ k : Nat, k ≤ n ∧ s8 = .int .i64 k ∧ Hid (Below w.heap.size w wr) ∧ Hid (∀ j, j < k → p j = false)) (fun _ i _ => n - (intOf i).toNat)
 case atStart => exact ⟨0, by omega, rfl, Below.refl _ _, fun j hj => absurd hj (by omega)⟩
 case round =>
  obtain ⟨k, hk, rfl, hB, hF⟩ := hrel
  by_cases hlt : k < n
  ·obtain ⟨b, off, rfl, hb, hc⟩ := hA (by omega)
   have h0 := (hB.out.cell (p := ⟨b, off + k * 3, none⟩) hb).trans (hc k hlt).1
   have h1 := (hB.out.cell (p := ⟨b, off + k * 3 + 1, none⟩) hb).trans (hc k hlt).2.1
   have h2 := (hB.out.cell (p := ⟨b, off + k * 3 + 2, none⟩) hb).trans (hc k hlt).2.2
   have hcall := hp wr k hlt hB.out
   clear hc hA hp
   cases hq : p k with
   | true =>
    rw [hq] at hcall
    have HQ := hI9 hq
    clear hq
    go_wp2_with (go_at_fn g; refine hcall.mono ?_; rintro e w1 ⟨rfl, hb1⟩)
    go_ret
    exact ⟨ret_int (firstIx_hit p n k hlt HQ.out hF.out).symm, hB.out.trans (hb1.mono hB.out.size)⟩
   | false =>
    rw [hq] at hcall
    have HQ := hI9 hq
    clear hq
    go_wp2_with (go_at_fn g; refine hcall.mono ?_; rintro e w1 ⟨rfl, hb1⟩)
    go_roundw
    case rel => exact ⟨k + 1, by omega, by go_num, hB.out.trans (hb1.mono hB.out.size), fun j hj => by
     by_cases e : j = k
     ·subst e; exact HQ.out
     ·exact hF.out j (by omega)⟩
    case measure => simp [intOf]; omega
  ·obtain rfl : k = n := by omega
   clear hA hp
   go_wp2
   go_ret
   exact ⟨ret_int (firstIx_miss p k hF.out).symm, hB.out⟩
theorem cfLg_c (A : Option Addr) (n c : Nat) (S : Nat → Nat → Int) (g : Nat) (lb : Array Value) (p : Nat → Bool) (w : World) (hn : n ≤ 9223372036854775807)
  (eg : ∀ args w, (callFunc g args).run Tryz.prog w = .ok (.enter g args) w)
  (hA : LgsAt w A n S) (hp : PredB Tryz.prog g lb n (fun i => .agg #[.int .i64 (S i 0), .int .i64 (S i 1), .int .i64 (S i 2)]) p w) :
  Calls Tryz.prog 124 #[.slice A n c, .func (.func g) #[] lb] w fun e w' => e = .returned (.bool ((List.range n).any p)) ∧ Below w.heap.size w w' := by
 rw [← firstIx_nonneg p n]
 go_enter Tryz.func124, Tryz.ntmps124
 go_wp2_with (go_at_call 164; refine (ixLg_c _ _ _ _ _ _ _ _ hn eg hA hp).mono ?_; rintro e w1 ⟨rfl, hb1⟩)
 go_ret
 exact ⟨rfl, hb1⟩
def nV (S : Nat → Nat → Int) (i j : Nat) : Value := .int .i64 (S i j)
theorem LgsAt.of {w : World} {A : Option Addr} {n : Nat} {S : Nat → Nat → Int} (h : RecsAt w A n 3 (nV S)) : LgsAt w A n S := by
 intro hn
 obtain ⟨b, off, hA, hb, hc⟩ := h hn
 exact ⟨b, off, hA, hb, fun k hk => ⟨hc k hk 0 (by omega), hc k hk 1 (by omega), hc k hk 2 (by omega)⟩⟩
set_option maxHeartbeats 4000000
theorem rwithin_c (n lo hi : Int) (w : World) :
  Calls Tryz.prog 84 #[.int .i64 n, .int .i64 lo, .int .i64 hi] w fun e w' => e = .returned (.bool (inB n lo hi)) ∧ w = w' := by
 by_cases h : lo ≤ n
 ·go_enter Tryz.func84, Tryz.ntmps84
  go_wp2
  go_ret
  exact ⟨ret_bool (by simp [inB, h]), rfl⟩
 ·have h2 : n < lo := by omega
  go_enter Tryz.func84, Tryz.ntmps84
  go_wp2
  go_ret
  exact ⟨ret_bool (by simp [inB]; omega), rfl⟩
theorem Tryz.entRP : ∀ args w, (callFunc 123 args).run Tryz.prog w = .ok (.enter 123 args) w := enters_of Tryz.func123 (by kernel_rfl) rfl
theorem Tryz.entRL : ∀ args w, (callFunc 125 args).run Tryz.prog w = .ok (.enter 125 args) w := enters_of Tryz.func125 (by kernel_rfl) rfl
theorem Tryz.entRS : ∀ args w, (callFunc 127 args).run Tryz.prog w = .ok (.enter 127 args) w := enters_of Tryz.func127 (by kernel_rfl) rfl
theorem rplace_c (gm : Nat) (n pl : Int) (w : World) (h : w.cell? ⟨gm, 0, none⟩ = some (.int .i64 pl)) (h1 : 1 ≤ pl) (h2 : pl ≤ 8) :
  Calls Tryz.prog 123 #[.int .i64 n, .pointer (some ⟨gm, 0, none⟩)] w fun e w' => e = .returned (.bool (inB n 0 (pl - 1))) ∧ w = w' := by
 go_enter Tryz.func123, Tryz.ntmps123
 go_wp2_with (first | (go_at_call 84; (with_reducible refine (rwithin_c _ _ _ _).mono ?_); rintro e w1 ⟨rfl, rfl⟩))
 go_ret
 exact ⟨rfl, rfl⟩
def lgBad (pl a b t : Int) : Bool := !inB a 0 (pl - 1) || (!inB b 0 (pl - 1) || (decide (a = b) || !inB t 1 200))
theorem rleg_c (c1 gc : Nat) (pl a b t : Int) (w : World) (h0 : w.cell? ⟨c1, 0, none⟩ = some (.func (.func 123) #[] #[.pointer (some ⟨gc, 0, none⟩)]))
  (h2 : w.cell? ⟨gc, 0, none⟩ = some (.int .i64 pl)) (hp1 : 1 ≤ pl) (hp2 : pl ≤ 8) :
  Calls Tryz.prog 125 #[.agg #[.int .i64 a, .int .i64 b, .int .i64 t], .pointer (some ⟨c1, 0, none⟩)] w
  fun e w' => e = .returned (.bool (lgBad pl a b t)) ∧ Below w.heap.size w w' := by
 have HC := hI9 (And.intro (fun w1 (h : Below w.heap.size w w1) => (h.cell (p := ⟨c1, 0, none⟩) (blk_lt h0)).trans h0) (fun w1 (h : Below w.heap.size w w1) => (h.cell (p := ⟨gc, 0, none⟩) (blk_lt h2)).trans h2))
 have eP := Tryz.entRP
 clear h0 h2
 unfold lgBad
 cases b0 : inB a 0 (pl - 1)
 ·skip
  have k0 := HC.out.1 (w.alloc (.cells #[.int .i64 a, .int .i64 b, .int .i64 t] 166)) (bal (Below.refl _ _) _)
  have k1 := HC.out.2 (w.alloc (.cells #[.int .i64 a, .int .i64 b, .int .i64 t] 166)) (bal (Below.refl _ _) _)
  go_enter Tryz.func125, Tryz.ntmps125
  go_wp2_with (first | (go_at_fn 123; refine (rplace_c gc _ pl _ k1 hp1 hp2).mono ?_; rintro e w' ⟨rfl, rfl⟩) | (go_at_call 84; (with_reducible refine (rwithin_c _ _ _ _).mono ?_); rintro e w1 ⟨rfl, rfl⟩))
  go_ret
  exact ⟨ret_bool (by simp [b0]), (by repeat' (first | exact Below.refl _ _ | assumption | refine Below.drew ?_ | refine bdn ?_ _ | refine bal ?_ _ | refine Below.setCell ?_ (by first | (simp; done) | omega | (simp; omega)) _))⟩
 ·skip
  cases b1 : inB b 0 (pl - 1)
  ·skip
   have k0 := HC.out.1 (w.alloc (.cells #[.int .i64 a, .int .i64 b, .int .i64 t] 166)) (bal (Below.refl _ _) _)
   have k1 := HC.out.2 (w.alloc (.cells #[.int .i64 a, .int .i64 b, .int .i64 t] 166)) (bal (Below.refl _ _) _)
   go_enter Tryz.func125, Tryz.ntmps125
   go_wp2_with (first | (go_at_fn 123; refine (rplace_c gc _ pl _ k1 hp1 hp2).mono ?_; rintro e w' ⟨rfl, rfl⟩) | (go_at_call 84; (with_reducible refine (rwithin_c _ _ _ _).mono ?_); rintro e w1 ⟨rfl, rfl⟩))
   go_ret
   exact ⟨ret_bool (by simp [b0, b1]), (by repeat' (first | exact Below.refl _ _ | assumption | refine Below.drew ?_ | refine bdn ?_ _ | refine bal ?_ _ | refine Below.setCell ?_ (by first | (simp; done) | omega | (simp; omega)) _))⟩
  ·skip
   by_cases b2 : a = b
   ·subst b2
    have b2d : decide (a = a) = true := decide_eq_true rfl
    clear b1
    have k0 := HC.out.1 (w.alloc (.cells #[.int .i64 a, .int .i64 a, .int .i64 t] 166)) (bal (Below.refl _ _) _)
    have k1 := HC.out.2 (w.alloc (.cells #[.int .i64 a, .int .i64 a, .int .i64 t] 166)) (bal (Below.refl _ _) _)
    go_enter Tryz.func125, Tryz.ntmps125
    go_wp2_with (first | (go_at_fn 123; refine (rplace_c gc _ pl _ k1 hp1 hp2).mono ?_; rintro e w' ⟨rfl, rfl⟩) | (go_at_call 84; (with_reducible refine (rwithin_c _ _ _ _).mono ?_); rintro e w1 ⟨rfl, rfl⟩))
    go_ret
    exact ⟨ret_bool (by simp [b0, b2d]), (by repeat' (first | exact Below.refl _ _ | assumption | refine Below.drew ?_ | refine bdn ?_ _ | refine bal ?_ _ | refine Below.setCell ?_ (by first | (simp; done) | omega | (simp; omega)) _))⟩
   ·have b2d : decide (a = b) = false := decide_eq_false b2
    have b2z : (a == b) = false := by simpa using b2
    cases b3 : inB t 1 200
    ·skip
     have k0 := HC.out.1 (w.alloc (.cells #[.int .i64 a, .int .i64 b, .int .i64 t] 166)) (bal (Below.refl _ _) _)
     have k1 := HC.out.2 (w.alloc (.cells #[.int .i64 a, .int .i64 b, .int .i64 t] 166)) (bal (Below.refl _ _) _)
     go_enter Tryz.func125, Tryz.ntmps125
     go_wp2_with (first | (go_at_fn 123; refine (rplace_c gc _ pl _ k1 hp1 hp2).mono ?_; rintro e w' ⟨rfl, rfl⟩) | (go_at_call 84; (with_reducible refine (rwithin_c _ _ _ _).mono ?_); rintro e w1 ⟨rfl, rfl⟩))
     go_ret
     exact ⟨ret_bool (by simp [b0, b1, b2d, b3]), (by repeat' (first | exact Below.refl _ _ | assumption | refine Below.drew ?_ | refine bdn ?_ _ | refine bal ?_ _ | refine Below.setCell ?_ (by first | (simp; done) | omega | (simp; omega)) _))⟩
    ·skip
     have k0 := HC.out.1 (w.alloc (.cells #[.int .i64 a, .int .i64 b, .int .i64 t] 166)) (bal (Below.refl _ _) _)
     have k1 := HC.out.2 (w.alloc (.cells #[.int .i64 a, .int .i64 b, .int .i64 t] 166)) (bal (Below.refl _ _) _)
     go_enter Tryz.func125, Tryz.ntmps125
     go_wp2_with (first | (go_at_fn 123; refine (rplace_c gc _ pl _ k1 hp1 hp2).mono ?_; rintro e w' ⟨rfl, rfl⟩) | (go_at_call 84; (with_reducible refine (rwithin_c _ _ _ _).mono ?_); rintro e w1 ⟨rfl, rfl⟩))
     go_ret
     exact ⟨ret_bool (by simp [b0, b1, b2d, b3]), (by repeat' (first | exact Below.refl _ _ | assumption | refine Below.drew ?_ | refine bdn ?_ _ | refine bal ?_ _ | refine Below.setCell ?_ (by first | (simp; done) | omega | (simp; omega)) _))⟩
end Go.Proofs.YtlambeiafdpkgaaGreat
