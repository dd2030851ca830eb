/- Texts joined: KAI. -/
import Derived.Test.YtlabfpjlckdmfaaGreatKAH
import Derived.Maps.AppendAt
set_option linter.all false
namespace Go.Proofs.YtlabfpjlckdmfaaGreat
open Go Go.RowKit Go.Proofs
set_option maxRecDepth 100000
set_option maxHeartbeats 8000000
theorem short_c {lo hi g n c : Nat} {r : Nat → Nat} {t : Tab} {a b : Nat} {x : Int} {w : World} (h : Sq w 3 lo hi g r n t) (ha : a < n) (hb : b < n) :
  Calls Tryz.prog 52 #[.slice (some ⟨g, 0, none⟩) n c, .int .i64 a, .int .i64 b, .int .i64 x] w fun e w' => e = .returned (.tuple #[]) ∧ w' = shW w (r a) b (t a b) x := by
 obtain ⟨cr, -, -, co⟩ := h.o a ha
 have cc := h.cell ha hb
 have fr := h.fr ha b
 have haz : (a : Int) < (n : Int) := by omega
 have hbz : (b : Int) < (n : Int) := by omega
 unfold shW
 generalize t a b = y at *
 clear h
 by_cases h1 : y < 0
 ·rw [if_pos (Or.inl h1)]
  go_enter Tryz.func52, Tryz.ntmps52
  go_wp2_with (fail)
  go_end0
  exact ⟨rfl, rfl⟩
 ·by_cases h2 : x < y
  ·rw [if_pos (Or.inr h2)]
   go_enter Tryz.func52, Tryz.ntmps52
   go_wp2_with (fail)
   go_end0
   exact ⟨rfl, rfl⟩
  ·rw [if_neg (fun q => q.elim h1 h2)]
   go_enter Tryz.func52, Tryz.ntmps52
   go_wp2_with (fail)
   go_end0
   exact ⟨rfl, rfl⟩
theorem ownLt {w : World} {base : Nat} {e : TypeId} {size : Nat} {v : Value} {n : Nat} {xs : List Value} (h : w.ownsRow base e size v n xs) {b : Nat} (hb : some b = v.ownBlock) : base ≤ b ∧ b < w.heap.size := by
 rcases h.2 with ⟨rfl, -⟩ | ⟨g, cap, cur, rfl, h2, h3, -⟩
 ·cases hb
 ·have : b = g := by simpa [Value.ownBlock] using hb
  subst this
  exact ⟨h2, (Array.getElem?_eq_some_iff.1 h3).1⟩
theorem Blk.grew {W W' : World} {n : Nat} {t : TypeId} {cs : Array Value} {o : Option Nat} (h : Blk W n t cs) (hg : W.grownBy W' o) (hne : some n ≠ o) : Blk W' n t cs :=
 (hg.block n h.lt hne).trans h
theorem belowGrew {w w' : World} {base : Nat} {o : Option Nat} (h : w.grownBy w' o) (hb : base ≤ w.heap.size) (ho : ∀ b, some b = o → base ≤ b) : Below base w w' :=
 ⟨h.os, h.tape, h.output, h.size, fun k hk => h.block k (by omega) (fun e => by have := ho k e; omega)⟩
theorem Tryz.sqU : Tryz.prog.underlying 41 = some (.slice 35) := by kernel_rfl
theorem Tryz.sqI : (Tryz.prog.info? 35).map (fun i => (i.zero, i.size, i.bytes)) = some (some (.slice none 0 0), 1, 24) := by kernel_rfl
theorem wpl_appS {ops : Array Oper} {rest : List Oper} {o : Oper} {a : Act} {w : World} {Q : Exit → Act → World → Prop} (hgd : o.guard = none) (s x : Operand)
  (ho : o.op = .call { callee := .builtin .append, args := #[s, x], argTypes := #[41, 41] }) (base : Nat) (v : Value) (n : Nat) (xs : List Value) (hs : a.eval s = v) (hown : w.ownsRow base 35 1 v n xs)
  (g : Nat) (y : Value) (hx : a.eval x = .slice (some ⟨g, 0, none⟩) 1 1) (hc : w.cell? ⟨g, 0, none⟩ = some y) (hy : y.oneCell' = true) (h40 : n ≤ 1000) (hbase : base ≤ w.heap.size)
  (h : ∀ v' w', Hid (w'.ownsRow base 35 1 v' (n + 1) (xs ++ [y])) → Hid (w.grownBy w' v.ownBlock) → Hid (v'.ownBlock = v.ownBlock ∨ v'.ownBlock = some w.heap.size) → wpList Tryz.prog ops Q rest (a.put o.dst v') w') : wpList Tryz.prog ops Q (o :: rest) a w := by
 have hI := Tryz.sqI
 cases hi : Tryz.prog.info? 35 with
 | none => rw [hi] at hI; cases hI
 | some i =>
  rw [hi] at hI
  simp only [Option.map_some, Option.some.injEq, Prod.mk.injEq] at hI
  refine wpList_append_own_at w hgd s x 41 ho base 35 i (.slice none 0 0) 1 24 Tryz.sqU hi hI.1 hI.2.1 hI.2.2 rfl (by decide) v n xs hs hown ⟨g, 0, none⟩ 1 1 [y] hx rfl ?_ ?_ (by unfold maxLen; omega) (by omega) hbase ?_
  ·intro j u hj
   match j, hj with
   | 0, hj =>
    have : u = y := by simpa using hj.symm
    subst this
    exact hc
  ·intro u hu
   have : u = y := by simpa using hu
   subst this
   exact hy
  ·intro v' w' h1 h2 h3 h4
   exact h v' w' (hI9 h1) (hI9 h2) (hI9 h4)
structure SqB (w0 w : World) (v : Value) (i n : Nat) (x : Int) (r : Nat → Nat) : Prop where
 b : Below w0.heap.size w0 w
 o : w.ownsRow w0.heap.size 35 1 v i ((List.range i).map fun k => .slice (some ⟨r k, 0, none⟩) n n)
 rk : ∀ k, k < i → w0.heap.size ≤ r k ∧ Blk w (r k) 3 (List.replicate n (.int .i64 x)).toArray ∧ some (r k) ≠ v.ownBlock
 d : ∀ j, j < i → ∀ k, k < i → r j = r k → j = k
theorem SqB.below {w0 w w' : World} {v : Value} {i n : Nat} {x : Int} {r : Nat → Nat} (h : SqB w0 w v i n x r) (hb : Below w.heap.size w w') : SqB w0 w' v i n x r :=
 ⟨bthen h.b hb, ownsRow_below h.o hb, fun k hk => ⟨(h.rk k hk).1, (h.rk k hk).2.1.below hb, (h.rk k hk).2.2⟩, h.d⟩
theorem SqB.step {w0 w w1 w2 : World} {v v' : Value} {i n g : Nat} {x : Int} {r : Nat → Nat} (h : SqB w0 w v i n x r) (hb : Below w.heap.size w w1) (hg : w.heap.size ≤ g) (hB : Blk w1 g 3 (List.replicate n (.int .i64 x)).toArray)
  (ho : w2.ownsRow w0.heap.size 35 1 v' (i + 1) ((List.range i).map (fun k => .slice (some ⟨r k, 0, none⟩) n n) ++ [.slice (some ⟨g, 0, none⟩) n n])) (hgr : w1.grownBy w2 v.ownBlock) (hv : v'.ownBlock = v.ownBlock ∨ v'.ownBlock = some w1.heap.size) :
  SqB w0 w2 v' (i + 1) n x (fun k => if k = i then g else r k) := by
 have hlt := hB.lt
 have h1 := h.below hb
 have hvo : ∀ b, some b = v.ownBlock → w0.heap.size ≤ b ∧ b < w.heap.size := fun b q => ownLt h.o q
 have hbs := h.b.size
 refine ⟨h1.b.trans (belowGrew hgr h1.b.size (fun b q => (hvo b q).1)), ?_, fun k hk => ?_, fun j hj k hk e => ?_⟩
 ·have e : (List.range (i + 1)).map (fun k => Value.slice (some ⟨(if k = i then g else r k), 0, none⟩) n n) = (List.range i).map (fun k => .slice (some ⟨r k, 0, none⟩) n n) ++ [.slice (some ⟨g, 0, none⟩) n n] := by
   rw [List.range_succ, List.map_append]
   congr 1
   ·refine List.map_congr_left fun k hk => ?_
    rw [if_neg (by have := List.mem_range.1 hk; omega)]
   ·simp
  rw [e]; exact ho
 ·show w0.heap.size ≤ (if k = i then g else r k) ∧ Blk w2 (if k = i then g else r k) 3 _ ∧ some (if k = i then g else r k) ≠ v'.ownBlock
  by_cases e : k = i
  ·rw [if_pos e]
   have hne : some g ≠ v.ownBlock := fun q => by have := (hvo g q).2; omega
   refine ⟨by omega, hB.grew hgr hne, fun q => ?_⟩
   rcases hv with hv | hv
   ·exact hne (q.trans hv)
   ·rw [hv] at q; have := Option.some.inj q; omega
  ·rw [if_neg e]
   obtain ⟨q1, q2, q3⟩ := h1.rk k (by omega)
   refine ⟨q1, q2.grew hgr q3, fun q => ?_⟩
   rcases hv with hv | hv
   ·exact q3 (q.trans hv)
   ·rw [hv] at q; have := Option.some.inj q; have := q2.lt; omega
 ·have hold : ∀ k, k < i → r k < w.heap.size := fun k hk => (h.rk k hk).2.1.lt
  by_cases e1 : j = i
  ·by_cases e2 : k = i
   ·omega
   ·rw [if_pos e1, if_neg e2] at e; have := hold k (by omega); omega
  ·by_cases e2 : k = i
   ·rw [if_neg e1, if_pos e2] at e; have := hold j (by omega); omega
   ·rw [if_neg e1, if_neg e2] at e; exact h.d j (by omega) k (by omega) e
theorem SqB.sq {w0 w : World} {v : Value} {n : Nat} {x : Int} {r : Nat → Nat} (h : SqB w0 w v n n x r) (hn : 1 ≤ n) : ∃ g c, v = .slice (some ⟨g, 0, none⟩) n c ∧ n ≤ c ∧ c ≤ 9223372036854775807 ∧ Sq w 3 w0.heap.size w.heap.size g r n (fun _ _ => x) := by
 have ho := h.o
 rcases ho.2 with ⟨rfl, hz⟩ | ⟨g, cap, cur, rfl, h1, h2, h3, h4, h5, h6⟩
 ·omega
 ·refine ⟨g, cap, rfl, h3, by unfold maxLen at h4; omega, ⟨⟨h1, (Array.getElem?_eq_some_iff.1 h2).1, Nat.le_refl _⟩, fun i hi => ⟨(h.rk i hi).1, (h.rk i hi).2.1.lt, fun e => (h.rk i hi).2.2 (by rw [e]; rfl)⟩, h.d, fun i hi => ?_, fun i hi => ?_⟩⟩
  ·refine ⟨n, Nat.le_refl _, by unfold maxLen at h4; omega, ?_⟩
   have := ho.cellAt (g := g) i (by omega)
   rw [this]
   simp [hi]
  ·refine ⟨_, (h.rk i hi).2.1, fun j hj => ?_⟩
   simp [hj]
theorem square_c (n : Nat) (x : Int) (h1 : 1 ≤ n) (h2 : n ≤ 8) (w : World) :
  Calls Tryz.prog 51 #[.int .i64 n, .int .i64 x] w fun e w' => ∃ g r c, e = .returned (.slice (some ⟨g, 0, none⟩) n c) ∧ Below w.heap.size w w' ∧ n ≤ c ∧ c ≤ 9223372036854775807 ∧ Sq w' 3 w.heap.size w'.heap.size g r n (fun _ _ => x) := by
 go_enter Tryz.func51, Tryz.ntmps51
 go_wp2_with (fail)
 go_loopg [4, 6] n (fun gy v k wr => ∃ (i : Nat) (r : Nat → Nat), k = .int .i64 i ∧ i ≤ n ∧ n - i ≤ gy ∧ Hid (SqB w wr v i n x r))
 case atStart => exact ⟨0, fun _ => 0, rfl, by omega, by omega, hI9 ⟨Below.refl _ _, World.ownsRow_nil _ _ _ _, fun k hk => by omega, fun j hj => by omega⟩⟩
 case round =>
  obtain ⟨i, r, rfl, hi, hgy, HS⟩ := hrel
  by_cases hlt : i < n
  ·have hltz : (i : Int) < (n : Int) := by omega
   go_wp2_with (fail)
   refine (rep_c x n wr.heap.size _ (Blk.new _ _ _) h1 h2).mono ?_
   rintro e w2 ⟨g, rfl, hb2, hg2, hB2⟩
   have hgw : wr.heap.size ≤ g := by have := World.size_alloc wr (.cells #[.int .i64 x] 3); omega
   have HB := hI9 (bthen (bal (Below.refl wr.heap.size wr) (.cells #[.int .i64 x] 3)) hb2)
   have HG := hI9 hB2
   clear hb2 hg2 hB2
   go_wp2_with (at_builtin; refine wpl_appS rfl _ _ rfl w.heap.size _ i _ rfl (ownsRow_below (HS.out.below HB.out).o (bal (Below.refl _ _) _)) w2.heap.size (.slice (some ⟨g, 0, none⟩) n n) rfl ?c1 rfl (by omega) ?c2 ?_)
   case c1 => exact (Blk.new _ _ _).cell 0
   case c2 => have := (HS.out.below HB.out).b.size; simp; omega
   intro v' w3 ho hgr hv
   have HS3 := hI9 (HS.out.step (bthen HB.out (bal (Below.refl _ _) _)) hgw (HG.out.alloc _) ho.out hgr.out (by rw [World.size_alloc]; exact hv.out))
   clear HS ho hgr hv HB HG
   go_wp2_with (fail)
   go_roundg (n - (i + 1))
   case measure => omega
   case rel => exact ⟨i + 1, _, by first | rfl | go_num | (congr 1; omega), by omega, Nat.le_refl _, HS3⟩
  ·obtain rfl : n = i := by omega
   obtain ⟨g, c, rfl, e2, e3, e4⟩ := HS.out.sq h1
   have HE := hI9 e4
   clear e4
   go_wp2_with (fail)
   go_ret
   exact ⟨g, r, c, rfl, HS.out.b, e2, e3, HE.out⟩
end Go.Proofs.YtlabfpjlckdmfaaGreat

namespace Go.Proofs.YtlabfpjlckdmfaaGreat
open Go Go.RowKit Go.Proofs
set_option maxRecDepth 100000
def LgsAt (w : World) (A : Option Addr) (n : Nat) (S : Nat → Nat → Int) : Prop :=
 0 < n → ∃ b off, A = some ⟨b, off, none⟩ ∧ b < w.heap.size ∧ ∀ k, k < n → w.cell? ⟨b, off + k * 3, none⟩ = some (.int .i64 (S k 0)) ∧ w.cell? ⟨b, off + k * 3 + 1, none⟩ = some (.int .i64 (S k 1)) ∧ w.cell? ⟨b, off + k * 3 + 2, none⟩ = some (.int .i64 (S k 2))
set_option maxHeartbeats 400000 in
theorem ixLg_c (A : Option Addr) (n c : Nat) (S : Nat → Nat → Int) (g : Nat) (lb : Array Value) (p : Nat → Bool) (w : World) (hn : n ≤ 9223372036854775807)
  (eg : ∀ args w, (callFunc g args).run Tryz.prog w = .ok (.enter g args) w)
  (hA : LgsAt w A n S) (hp : PredB Tryz.prog g lb n (fun i => .agg #[.int .i64 (S i 0), .int .i64 (S i 1), .int .i64 (S i 2)]) p w) :
  Calls Tryz.prog 81 #[.slice A n c, .func (.func g) #[] lb] w fun e w' => e = .returned (.int .i64 (firstIx p n)) ∧ Below w.heap.size w w' := by
 go_enter Tryz.func81, Tryz.ntmps81
 go_wp2
 go_loopw [5, 8] (fun _ s8 wr => ∃ k : Nat, k ≤ n ∧ s8 = .int .i64 k ∧ Hid (Below w.heap.size w wr) ∧ Hid (∀ j, j < k → p j = false)) (fun _ i _ => n - (intOf i).toNat)
 case atStart => exact ⟨0, by omega, rfl, Below.refl _ _, fun j hj => absurd hj (by omega)⟩
 case round =>
  obtain ⟨k, hk, rfl, hB, hF⟩ := hrel
  by_cases hlt : k < n
  ·obtain ⟨b, off, rfl, hb, hc⟩ := hA (by omega)
   have h0 := (hB.out.cell (p := ⟨b, off + k * 3, none⟩) hb).trans (hc k hlt).1
   have h1 := (hB.out.cell (p := ⟨b, off + k * 3 + 1, none⟩) hb).trans (hc k hlt).2.1
   have h2 := (hB.out.cell (p := ⟨b, off + k * 3 + 2, none⟩) hb).trans (hc k hlt).2.2
   have hcall := hp wr k hlt hB.out
   clear hc hA hp
   cases hq : p k with
   | true =>
    rw [hq] at hcall
    have HQ := hI9 hq
    clear hq
    go_wp2_with (go_at_fn g; refine hcall.mono ?_; rintro e w1 ⟨rfl, hb1⟩)
    go_ret
    exact ⟨ret_int (firstIx_hit p n k hlt HQ.out hF.out).symm, hB.out.trans (hb1.mono hB.out.size)⟩
   | false =>
    rw [hq] at hcall
    have HQ := hI9 hq
    clear hq
    go_wp2_with (go_at_fn g; refine hcall.mono ?_; rintro e w1 ⟨rfl, hb1⟩)
    go_roundw
    case rel => exact ⟨k + 1, by omega, by go_num, hB.out.trans (hb1.mono hB.out.size), fun j hj => by
     by_cases e : j = k
     ·subst e; exact HQ.out
     ·exact hF.out j (by omega)⟩
    case measure => simp [intOf]; omega
  ·obtain rfl : k = n := by omega
   clear hA hp
   go_wp2
   go_ret
   exact ⟨ret_int (firstIx_miss p k hF.out).symm, hB.out⟩
theorem cfLg_c (A : Option Addr) (n c : Nat) (S : Nat → Nat → Int) (g : Nat) (lb : Array Value) (p : Nat → Bool) (w : World) (hn : n ≤ 9223372036854775807)
  (eg : ∀ args w, (callFunc g args).run Tryz.prog w = .ok (.enter g args) w)
  (hA : LgsAt w A n S) (hp : PredB Tryz.prog g lb n (fun i => .agg #[.int .i64 (S i 0), .int .i64 (S i 1), .int .i64 (S i 2)]) p w) :
  Calls Tryz.prog 49 #[.slice A n c, .func (.func g) #[] lb] w fun e w' => e = .returned (.bool ((List.range n).any p)) ∧ Below w.heap.size w w' := by
 rw [← firstIx_nonneg p n]
 go_enter Tryz.func49, Tryz.ntmps49
 go_wp2_with (go_at_call 81; refine (ixLg_c _ _ _ _ _ _ _ _ hn eg hA hp).mono ?_; rintro e w1 ⟨rfl, hb1⟩)
 go_ret
 exact ⟨rfl, hb1⟩
def nV (S : Nat → Nat → Int) (i j : Nat) : Value := .int .i64 (S i j)
theorem LgsAt.of {w : World} {A : Option Addr} {n : Nat} {S : Nat → Nat → Int} (h : RecsAt w A n 3 (nV S)) : LgsAt w A n S := by
 intro hn
 obtain ⟨b, off, hA, hb, hc⟩ := h hn
 exact ⟨b, off, hA, hb, fun k hk => ⟨hc k hk 0 (by omega), hc k hk 1 (by omega), hc k hk 2 (by omega)⟩⟩
set_option maxHeartbeats 4000000
theorem rwithin_c (n lo hi : Int) (w : World) :
  Calls Tryz.prog 28 #[.int .i64 n, .int .i64 lo, .int .i64 hi] w fun e w' => e = .returned (.bool (inB n lo hi)) ∧ w = w' := by
 by_cases h : lo ≤ n
 ·go_enter Tryz.func28, Tryz.ntmps28
  go_wp2
  go_ret
  exact ⟨ret_bool (by simp [inB, h]), rfl⟩
 ·have h2 : n < lo := by omega
  go_enter Tryz.func28, Tryz.ntmps28
  go_wp2
  go_ret
  exact ⟨ret_bool (by simp [inB]; omega), rfl⟩
theorem Tryz.entRP : ∀ args w, (callFunc 48 args).run Tryz.prog w = .ok (.enter 48 args) w := enters_of Tryz.func48 (by kernel_rfl) rfl
theorem Tryz.entRL : ∀ args w, (callFunc 50 args).run Tryz.prog w = .ok (.enter 50 args) w := enters_of Tryz.func50 (by kernel_rfl) rfl
theorem Tryz.entRS : ∀ args w, (callFunc 52 args).run Tryz.prog w = .ok (.enter 52 args) w := enters_of Tryz.func52 (by kernel_rfl) rfl
theorem rplace_c (gm : Nat) (n pl : Int) (w : World) (h : w.cell? ⟨gm, 0, none⟩ = some (.int .i64 pl)) (h1 : 1 ≤ pl) (h2 : pl ≤ 8) :
  Calls Tryz.prog 48 #[.int .i64 n, .pointer (some ⟨gm, 0, none⟩)] w fun e w' => e = .returned (.bool (inB n 0 (pl - 1))) ∧ w = w' := by
 go_enter Tryz.func48, Tryz.ntmps48
 go_wp2_with (first | (go_at_call 28; (with_reducible refine (rwithin_c _ _ _ _).mono ?_); rintro e w1 ⟨rfl, rfl⟩))
 go_ret
 exact ⟨rfl, rfl⟩
def lgBad (pl a b t : Int) : Bool := !inB a 0 (pl - 1) || (!inB b 0 (pl - 1) || (decide (a = b) || !inB t 1 200))
theorem rleg_c (c1 gc : Nat) (pl a b t : Int) (w : World) (h0 : w.cell? ⟨c1, 0, none⟩ = some (.func (.func 48) #[] #[.pointer (some ⟨gc, 0, none⟩)]))
  (h2 : w.cell? ⟨gc, 0, none⟩ = some (.int .i64 pl)) (hp1 : 1 ≤ pl) (hp2 : pl ≤ 8) :
  Calls Tryz.prog 50 #[.agg #[.int .i64 a, .int .i64 b, .int .i64 t], .pointer (some ⟨c1, 0, none⟩)] w
  fun e w' => e = .returned (.bool (lgBad pl a b t)) ∧ Below w.heap.size w w' := by
 have HC := hI9 (And.intro (fun w1 (h : Below w.heap.size w w1) => (h.cell (p := ⟨c1, 0, none⟩) (blk_lt h0)).trans h0) (fun w1 (h : Below w.heap.size w w1) => (h.cell (p := ⟨gc, 0, none⟩) (blk_lt h2)).trans h2))
 have eP := Tryz.entRP
 clear h0 h2
 unfold lgBad
 cases b0 : inB a 0 (pl - 1)
 ·skip
  have k0 := HC.out.1 (w.alloc (.cells #[.int .i64 a, .int .i64 b, .int .i64 t] 45)) (bal (Below.refl _ _) _)
  have k1 := HC.out.2 (w.alloc (.cells #[.int .i64 a, .int .i64 b, .int .i64 t] 45)) (bal (Below.refl _ _) _)
  go_enter Tryz.func50, Tryz.ntmps50
  go_wp2_with (first | (go_at_fn 48; refine (rplace_c gc _ pl _ k1 hp1 hp2).mono ?_; rintro e w' ⟨rfl, rfl⟩) | (go_at_call 28; (with_reducible refine (rwithin_c _ _ _ _).mono ?_); rintro e w1 ⟨rfl, rfl⟩))
  go_ret
  exact ⟨ret_bool (by simp [b0]), (by repeat' (first | exact Below.refl _ _ | assumption | refine Below.drew ?_ | refine bdn ?_ _ | refine bal ?_ _ | refine Below.setCell ?_ (by first | (simp; done) | omega | (simp; omega)) _))⟩
 ·skip
  cases b1 : inB b 0 (pl - 1)
  ·skip
   have k0 := HC.out.1 (w.alloc (.cells #[.int .i64 a, .int .i64 b, .int .i64 t] 45)) (bal (Below.refl _ _) _)
   have k1 := HC.out.2 (w.alloc (.cells #[.int .i64 a, .int .i64 b, .int .i64 t] 45)) (bal (Below.refl _ _) _)
   go_enter Tryz.func50, Tryz.ntmps50
   go_wp2_with (first | (go_at_fn 48; refine (rplace_c gc _ pl _ k1 hp1 hp2).mono ?_; rintro e w' ⟨rfl, rfl⟩) | (go_at_call 28; (with_reducible refine (rwithin_c _ _ _ _).mono ?_); rintro e w1 ⟨rfl, rfl⟩))
   go_ret
   exact ⟨ret_bool (by simp [b0, b1]), (by repeat' (first | exact Below.refl _ _ | assumption | refine Below.drew ?_ | refine bdn ?_ _ | refine bal ?_ _ | refine Below.setCell ?_ (by first | (simp; done) | omega | (simp; omega)) _))⟩
  ·skip
   by_cases b2 : a = b
   ·subst b2
    have b2d : decide (a = a) = true := decide_eq_true rfl
    clear b1
    have k0 := HC.out.1 (w.alloc (.cells #[.int .i64 a, .int .i64 a, .int .i64 t] 45)) (bal (Below.refl _ _) _)
    have k1 := HC.out.2 (w.alloc (.cells #[.int .i64 a, .int .i64 a, .int .i64 t] 45)) (bal (Below.refl _ _) _)
    go_enter Tryz.func50, Tryz.ntmps50
    go_wp2_with (first | (go_at_fn 48; refine (rplace_c gc _ pl _ k1 hp1 hp2).mono ?_; rintro e w' ⟨rfl, rfl⟩) | (go_at_call 28; (with_reducible refine (rwithin_c _ _ _ _).mono ?_); rintro e w1 ⟨rfl, rfl⟩))
    go_ret
    exact ⟨ret_bool (by simp [b0, b2d]), (by repeat' (first | exact Below.refl _ _ | assumption | refine Below.drew ?_ | refine bdn ?_ _ | refine bal ?_ _ | refine Below.setCell ?_ (by first | (simp; done) | omega | (simp; omega)) _))⟩
   ·have b2d : decide (a = b) = false := decide_eq_false b2
    have b2z : (a == b) = false := by simpa using b2
    cases b3 : inB t 1 200
    ·skip
     have k0 := HC.out.1 (w.alloc (.cells #[.int .i64 a, .int .i64 b, .int .i64 t] 45)) (bal (Below.refl _ _) _)
     have k1 := HC.out.2 (w.alloc (.cells #[.int .i64 a, .int .i64 b, .int .i64 t] 45)) (bal (Below.refl _ _) _)
     go_enter Tryz.func50, Tryz.ntmps50
     go_wp2_with (first | (go_at_fn 48; refine (rplace_c gc _ pl _ k1 hp1 hp2).mono ?_; rintro e w' ⟨rfl, rfl⟩) | (go_at_call 28; (with_reducible refine (rwithin_c _ _ _ _).mono ?_); rintro e w1 ⟨rfl, rfl⟩))
     go_ret
     exact ⟨ret_bool (by simp [b0, b1, b2d, b3]), (by repeat' (first | exact Below.refl _ _ | assumption | refine Below.drew ?_ | refine bdn ?_ _ | refine bal ?_ _ | refine Below.setCell ?_ (by first | (simp; done) | omega | (simp; omega)) _))⟩
    ·skip
     have k0 := HC.out.1 (w.alloc (.cells #[.int .i64 a, .int .i64 b, .int .i64 t] 45)) (bal (Below.refl _ _) _)
     have k1 := HC.out.2 (w.alloc (.cells #[.int .i64 a, .int .i64 b, .int .i64 t] 45)) (bal (Below.refl _ _) _)
     go_enter Tryz.func50, Tryz.ntmps50
     go_wp2_with (first | (go_at_fn 48; refine (rplace_c gc _ pl _ k1 hp1 hp2).mono ?_; rintro e w' ⟨rfl, rfl⟩) | (go_at_call 28; (with_reducible refine (rwithin_c _ _ _ _).mono ?_); rintro e w1 ⟨rfl, rfl⟩))
     go_ret
     exact ⟨ret_bool (by simp [b0, b1, b2d, b3]), (by repeat' (first | exact Below.refl _ _ | assumption | refine Below.drew ?_ | refine bdn ?_ _ | refine bal ?_ _ | refine Below.setCell ?_ (by first | (simp; done) | omega | (simp; omega)) _))⟩
end Go.Proofs.YtlabfpjlckdmfaaGreat

namespace Go.Proofs.YtlabfpjlckdmfaaGreat
open Go Go.RowKit Go.Proofs
set_option maxRecDepth 100000
def FcsAt (w : World) (A : Option Addr) (n : Nat) (D : Nat → Nat → Int) (B : Nat → Nat → Bool) : Prop :=
 0 < n → ∃ b off, A = some ⟨b, off, none⟩ ∧ b < w.heap.size ∧ ∀ k, k < n → w.cell? ⟨b, off + k * 12, none⟩ = some (.int .i64 (D k 0)) ∧ w.cell? ⟨b, off + k * 12 + 1, none⟩ = some (.int .i64 (D k 1)) ∧ w.cell? ⟨b, off + k * 12 + 2, none⟩ = some (.int .i64 (D k 2)) ∧ w.cell? ⟨b, off + k * 12 + 3, none⟩ = some (.int .i64 (D k 3)) ∧ w.cell? ⟨b, off + k * 12 + 4, none⟩ = some (.int .i64 (D k 4)) ∧ w.cell? ⟨b, off + k * 12 + 5, none⟩ = some (.int .i64 (D k 5)) ∧ w.cell? ⟨b, off + k * 12 + 6, none⟩ = some (.int .i64 (D k 6)) ∧ w.cell? ⟨b, off + k * 12 + 7, none⟩ = some (.int .i64 (D k 7)) ∧ w.cell? ⟨b, off + k * 12 + 8, none⟩ = some (.int .i64 (D k 8)) ∧ w.cell? ⟨b, off + k * 12 + 9, none⟩ = some (.int .i64 (D k 9)) ∧ w.cell? ⟨b, off + k * 12 + 10, none⟩ = some (.bool (B k 10)) ∧ w.cell? ⟨b, off + k * 12 + 11, none⟩ = some (.bool (B k 11))
set_option maxHeartbeats 400000 in
theorem ixFc_c (A : Option Addr) (n c : Nat) (D : Nat → Nat → Int) (B : Nat → Nat → Bool) (g : Nat) (lb : Array Value) (p : Nat → Bool) (w : World) (hn : n ≤ 9223372036854775807)
  (eg : ∀ args w, (callFunc g args).run Tryz.prog w = .ok (.enter g args) w)
  (hA : FcsAt w A n D B) (hp : PredB Tryz.prog g lb n (fun i => .agg #[.int .i64 (D i 0), .int .i64 (D i 1), .int .i64 (D i 2), .int .i64 (D i 3), .int .i64 (D i 4), .int .i64 (D i 5), .int .i64 (D i 6), .int .i64 (D i 7), .int .i64 (D i 8), .int .i64 (D i 9), .bool (B i 10), .bool (B i 11)]) p w) :
  Calls Tryz.prog 92 #[.slice A n c, .func (.func g) #[] lb] w fun e w' => e = .returned (.int .i64 (firstIx p n)) ∧ Below w.heap.size w w' := by
 go_enter Tryz.func92, Tryz.ntmps92
 go_wp2
 go_loopw [5, 8] (fun _ s8 wr => ∃ k : Nat, k ≤ n ∧ s8 = .int .i64 k ∧ Hid (Below w.heap.size w wr) ∧ Hid (∀ j, j < k → p j = false)) (fun _ i _ => n - (intOf i).toNat)
 case atStart => exact ⟨0, by omega, rfl, Below.refl _ _, fun j hj => absurd hj (by omega)⟩
 case round =>
  obtain ⟨k, hk, rfl, hB, hF⟩ := hrel
  by_cases hlt : k < n
  ·obtain ⟨b, off, rfl, hb, hc⟩ := hA (by omega)
   have h0 := (hB.out.cell (p := ⟨b, off + k * 12, none⟩) hb).trans (hc k hlt).1
   have h1 := (hB.out.cell (p := ⟨b, off + k * 12 + 1, none⟩) hb).trans (hc k hlt).2.1
   have h2 := (hB.out.cell (p := ⟨b, off + k * 12 + 2, none⟩) hb).trans (hc k hlt).2.2.1
   have h3 := (hB.out.cell (p := ⟨b, off + k * 12 + 3, none⟩) hb).trans (hc k hlt).2.2.2.1
   have h4 := (hB.out.cell (p := ⟨b, off + k * 12 + 4, none⟩) hb).trans (hc k hlt).2.2.2.2.1
   have h5 := (hB.out.cell (p := ⟨b, off + k * 12 + 5, none⟩) hb).trans (hc k hlt).2.2.2.2.2.1
   have h6 := (hB.out.cell (p := ⟨b, off + k * 12 + 6, none⟩) hb).trans (hc k hlt).2.2.2.2.2.2.1
   have h7 := (hB.out.cell (p := ⟨b, off + k * 12 + 7, none⟩) hb).trans (hc k hlt).2.2.2.2.2.2.2.1
   have h8 := (hB.out.cell (p := ⟨b, off + k * 12 + 8, none⟩) hb).trans (hc k hlt).2.2.2.2.2.2.2.2.1
   have h9 := (hB.out.cell (p := ⟨b, off + k * 12 + 9, none⟩) hb).trans (hc k hlt).2.2.2.2.2.2.2.2.2.1
   have h10 := (hB.out.cell (p := ⟨b, off + k * 12 + 10, none⟩) hb).trans (hc k hlt).2.2.2.2.2.2.2.2.2.2.1
   have h11 := (hB.out.cell (p := ⟨b, off + k * 12 + 11, none⟩) hb).trans (hc k hlt).2.2.2.2.2.2.2.2.2.2.2
   have hcall := hp wr k hlt hB.out
   clear hc hA hp
   cases hq : p k with
   | true =>
    rw [hq] at hcall
    have HQ := hI9 hq
    clear hq
    go_wp2_with (go_at_fn g; refine hcall.mono ?_; rintro e w1 ⟨rfl, hb1⟩)
    go_ret
    exact ⟨ret_int (firstIx_hit p n k hlt HQ.out hF.out).symm, hB.out.trans (hb1.mono hB.out.size)⟩
   | false =>
    rw [hq] at hcall
    have HQ := hI9 hq
    clear hq
    go_wp2_with (go_at_fn g; refine hcall.mono ?_; rintro e w1 ⟨rfl, hb1⟩)
    go_roundw
    case rel => exact ⟨k + 1, by omega, by go_num, hB.out.trans (hb1.mono hB.out.size), fun j hj => by
     by_cases e : j = k
     ·subst e; exact HQ.out
     ·exact hF.out j (by omega)⟩
    case measure => simp [intOf]; omega
  ·obtain rfl : k = n := by omega
   clear hA hp
   go_wp2
   go_ret
   exact ⟨ret_int (firstIx_miss p k hF.out).symm, hB.out⟩
theorem cfFc_c (A : Option Addr) (n c : Nat) (D : Nat → Nat → Int) (B : Nat → Nat → Bool) (g : Nat) (lb : Array Value) (p : Nat → Bool) (w : World) (hn : n ≤ 9223372036854775807)
  (eg : ∀ args w, (callFunc g args).run Tryz.prog w = .ok (.enter g args) w)
  (hA : FcsAt w A n D B) (hp : PredB Tryz.prog g lb n (fun i => .agg #[.int .i64 (D i 0), .int .i64 (D i 1), .int .i64 (D i 2), .int .i64 (D i 3), .int .i64 (D i 4), .int .i64 (D i 5), .int .i64 (D i 6), .int .i64 (D i 7), .int .i64 (D i 8), .int .i64 (D i 9), .bool (B i 10), .bool (B i 11)]) p w) :
  Calls Tryz.prog 77 #[.slice A n c, .func (.func g) #[] lb] w fun e w' => e = .returned (.bool ((List.range n).any p)) ∧ Below w.heap.size w w' := by
 rw [← firstIx_nonneg p n]
 go_enter Tryz.func77, Tryz.ntmps77
 go_wp2_with (go_at_call 92; refine (ixFc_c _ _ _ _ _ _ _ _ _ hn eg hA hp).mono ?_; rintro e w1 ⟨rfl, hb1⟩)
 go_ret
 exact ⟨rfl, hb1⟩
def SisAt (w : World) (A : Option Addr) (n : Nat) (E : Nat → Nat → Int) (C : Nat → Nat → Bool) : Prop :=
 0 < n → ∃ b off, A = some ⟨b, off, none⟩ ∧ b < w.heap.size ∧ ∀ k, k < n → w.cell? ⟨b, off + k * 7, none⟩ = some (.int .i64 (E k 0)) ∧ w.cell? ⟨b, off + k * 7 + 1, none⟩ = some (.int .i64 (E k 1)) ∧ w.cell? ⟨b, off + k * 7 + 2, none⟩ = some (.int .i64 (E k 2)) ∧ w.cell? ⟨b, off + k * 7 + 3, none⟩ = some (.int .i64 (E k 3)) ∧ w.cell? ⟨b, off + k * 7 + 4, none⟩ = some (.int .i64 (E k 4)) ∧ w.cell? ⟨b, off + k * 7 + 5, none⟩ = some (.bool (C k 5)) ∧ w.cell? ⟨b, off + k * 7 + 6, none⟩ = some (.bool (C k 6))
set_option maxHeartbeats 400000 in
theorem ixSi_c (A : Option Addr) (n c : Nat) (E : Nat → Nat → Int) (C : Nat → Nat → Bool) (g : Nat) (lb : Array Value) (p : Nat → Bool) (w : World) (hn : n ≤ 9223372036854775807)
  (eg : ∀ args w, (callFunc g args).run Tryz.prog w = .ok (.enter g args) w)
  (hA : SisAt w A n E C) (hp : PredB Tryz.prog g lb n (fun i => .agg #[.int .i64 (E i 0), .int .i64 (E i 1), .int .i64 (E i 2), .int .i64 (E i 3), .int .i64 (E i 4), .bool (C i 5), .bool (C i 6)]) p w) :
  Calls Tryz.prog 93 #[.slice A n c, .func (.func g) #[] lb] w fun e w' => e = .returned (.int .i64 (firstIx p n)) ∧ Below w.heap.size w w' := by
 go_enter Tryz.func93, Tryz.ntmps93
 go_wp2
 go_loopw [5, 8] (fun _ s8 wr => ∃ k : Nat, k ≤ n ∧ s8 = .int .i64 k ∧ Hid (Below w.heap.size w wr) ∧ Hid (∀ j, j < k → p j = false)) (fun _ i _ => n - (intOf i).toNat)
 case atStart => exact ⟨0, by omega, rfl, Below.refl _ _, fun j hj => absurd hj (by omega)⟩
 case round =>
  obtain ⟨k, hk, rfl, hB, hF⟩ := hrel
  by_cases hlt : k < n
  ·obtain ⟨b, off, rfl, hb, hc⟩ := hA (by omega)
   have h0 := (hB.out.cell (p := ⟨b, off + k * 7, none⟩) hb).trans (hc k hlt).1
   have h1 := (hB.out.cell (p := ⟨b, off + k * 7 + 1, none⟩) hb).trans (hc k hlt).2.1
   have h2 := (hB.out.cell (p := ⟨b, off + k * 7 + 2, none⟩) hb).trans (hc k hlt).2.2.1
   have h3 := (hB.out.cell (p := ⟨b, off + k * 7 + 3, none⟩) hb).trans (hc k hlt).2.2.2.1
   have h4 := (hB.out.cell (p := ⟨b, off + k * 7 + 4, none⟩) hb).trans (hc k hlt).2.2.2.2.1
   have h5 := (hB.out.cell (p := ⟨b, off + k * 7 + 5, none⟩) hb).trans (hc k hlt).2.2.2.2.2.1
   have h6 := (hB.out.cell (p := ⟨b, off + k * 7 + 6, none⟩) hb).trans (hc k hlt).2.2.2.2.2.2
   have hcall := hp wr k hlt hB.out
   clear hc hA hp
   cases hq : p k with
   | true =>
    rw [hq] at hcall
    have HQ := hI9 hq
    clear hq
    go_wp2_with (go_at_fn g; refine hcall.mono ?_; rintro e w1 ⟨rfl, hb1⟩)
    go_ret
    exact ⟨ret_int (firstIx_hit p n k hlt HQ.out hF.out).symm, hB.out.trans (hb1.mono hB.out.size)⟩
   | false =>
    rw [hq] at hcall
    have HQ := hI9 hq
    clear hq
    go_wp2_with (go_at_fn g; refine hcall.mono ?_; rintro e w1 ⟨rfl, hb1⟩)
    go_roundw
    case rel => exact ⟨k + 1, by omega, by go_num, hB.out.trans (hb1.mono hB.out.size), fun j hj => by
     by_cases e : j = k
     ·subst e; exact HQ.out
     ·exact hF.out j (by omega)⟩
    case measure => simp [intOf]; omega
  ·obtain rfl : k = n := by omega
   clear hA hp
   go_wp2
   go_ret
   exact ⟨ret_int (firstIx_miss p k hF.out).symm, hB.out⟩
theorem cfSi_c (A : Option Addr) (n c : Nat) (E : Nat → Nat → Int) (C : Nat → Nat → Bool) (g : Nat) (lb : Array Value) (p : Nat → Bool) (w : World) (hn : n ≤ 9223372036854775807)
  (eg : ∀ args w, (callFunc g args).run Tryz.prog w = .ok (.enter g args) w)
  (hA : SisAt w A n E C) (hp : PredB Tryz.prog g lb n (fun i => .agg #[.int .i64 (E i 0), .int .i64 (E i 1), .int .i64 (E i 2), .int .i64 (E i 3), .int .i64 (E i 4), .bool (C i 5), .bool (C i 6)]) p w) :
  Calls Tryz.prog 78 #[.slice A n c, .func (.func g) #[] lb] w fun e w' => e = .returned (.bool ((List.range n).any p)) ∧ Below w.heap.size w w' := by
 rw [← firstIx_nonneg p n]
 go_enter Tryz.func78, Tryz.ntmps78
 go_wp2_with (go_at_call 93; refine (ixSi_c _ _ _ _ _ _ _ _ _ hn eg hA hp).mono ?_; rintro e w1 ⟨rfl, hb1⟩)
 go_ret
 exact ⟨rfl, hb1⟩
theorem FcsAt.of {w : World} {A : Option Addr} {n : Nat} {D : Nat → Nat → Int} {B : Nat → Nat → Bool} (h : RecsAt w A n 12 (fcV D B)) : FcsAt w A n D B := by
 intro hn
 obtain ⟨b, off, hA, hb, hc⟩ := h hn
 exact ⟨b, off, hA, hb, fun k hk => ⟨hc k hk 0 (by omega), hc k hk 1 (by omega), hc k hk 2 (by omega), hc k hk 3 (by omega), hc k hk 4 (by omega), hc k hk 5 (by omega), hc k hk 6 (by omega), hc k hk 7 (by omega), hc k hk 8 (by omega), hc k hk 9 (by omega), hc k hk 10 (by omega), hc k hk 11 (by omega)⟩⟩
theorem SisAt.of {w : World} {A : Option Addr} {n : Nat} {E : Nat → Nat → Int} {C : Nat → Nat → Bool} (h : RecsAt w A n 7 (siV E C)) : SisAt w A n E C := by
 intro hn
 obtain ⟨b, off, hA, hb, hc⟩ := h hn
 exact ⟨b, off, hA, hb, fun k hk => ⟨hc k hk 0 (by omega), hc k hk 1 (by omega), hc k hk 2 (by omega), hc k hk 3 (by omega), hc k hk 4 (by omega), hc k hk 5 (by omega), hc k hk 6 (by omega)⟩⟩
end Go.Proofs.YtlabfpjlckdmfaaGreat
