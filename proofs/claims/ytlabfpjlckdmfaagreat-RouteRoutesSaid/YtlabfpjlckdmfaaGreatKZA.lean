/- Texts joined: KZA. -/
import Derived.WalkKit
import Derived.Below
import Derived.Laws.OwnMore
import Derived.Lib.Hide
import Derived.Deep.Draws
import Derived.IntWalk
import Derived.ProofKit
import Derived.BigCall
import Derived.BigQuiet
import Derived.Deep.QuietTactic
import Derived.Deep.RegionHeld3
import Derived.Deep.DeepCutAuto
import Derived.Outline
import Derived.Shelf.Abstract
import Derived.StillTailTactics
import Derived.Laws.EntriesVeiled
import Derived.WalkLawsBesides
import Derived.WalkSpells
import Derived.StillTail
import Derived.Deep.Quiet
import Derived.Laws.Rows
import Derived.Laws.AppendOwn
import Derived.ArgAppend
import Derived.OwnWalk
import Derived.Great.BuildSlice
set_option linter.all false
namespace Go.Proofs.YtlabfpjlckdmfaaGreat
open Go Go.RowKit
theorem hI9 {p : Prop} (h : p) : Hid p := h
theorem gtA {α : Type _} {l : List α} {i : Nat} : l.toArray[i]? = l[i]? := List.getElem?_toArray
theorem gtS {α : Type _} {a : α} {l : List α} {i : Nat} : (a :: l)[i + 1]? = l[i]? := List.getElem?_cons_succ
theorem gtZ {α : Type _} {a : α} {l : List α} : (a :: l)[0]? = some a := List.getElem?_cons_zero
def I64 (x : Int) : Prop := -9223372036854775808 ≤ x ∧ x ≤ 9223372036854775807
theorem I64.lo {x : Int} (h : I64 x) : -9223372036854775808 ≤ x := h.1
theorem I64.hi {x : Int} (h : I64 x) : x ≤ 9223372036854775807 := h.2
def nth (l : List Int) (k : Nat) : Int := l.getD k 0
def nthR (l : List (List Int)) (k : Nat) : List Int := l.getD k []
theorem nth_getElem (l : List Int) (k : Nat) (h : k < l.length) : nth l k = l[k] := by simp [nth, h]
theorem nth_mem (l : List Int) (k : Nat) (h : k < l.length) : nth l k ∈ l := by rw [nth_getElem l k h]; exact List.getElem_mem h
def CellsAt (w : World) (A : Option Addr) (n : Nat) (f : Nat → Value) : Prop :=
 0 < n → ∃ b off, A = some ⟨b, off, none⟩ ∧ b < w.heap.size ∧ ∀ k, k < n → w.cell? ⟨b, off + k, none⟩ = some (f k)
theorem CellsAt.below {w w' : World} {A : Option Addr} {n : Nat} {f : Nat → Value} (h : CellsAt w A n f) (hb : Below w.heap.size w w') : CellsAt w' A n f := by
 intro hn
 obtain ⟨b, off, hA, hlt, hc⟩ := h hn
 exact ⟨b, off, hA, Nat.lt_of_lt_of_le hlt hb.size, fun k hk => (hb.cell (p := ⟨b, off + k, none⟩) hlt).trans (hc k hk)⟩
def Ints (w : World) (v : Value) (xs : List Int) : Prop :=
 ∃ A c, v = .slice A xs.length c ∧ xs.length ≤ c ∧ c ≤ 9223372036854775807 ∧ (∀ x ∈ xs, I64 x) ∧ CellsAt w A xs.length (fun k => .int .i64 (nth xs k))
def Rows (w : World) (v : Value) (xss : List (List Int)) : Prop :=
 ∃ A c vs, v = .slice A xss.length c ∧ xss.length ≤ c ∧ c ≤ 9223372036854775807 ∧ CellsAt w A xss.length vs ∧ ∀ k, k < xss.length → Ints w (vs k) (nthR xss k)
theorem Ints.below {w w' : World} {v : Value} {xs : List Int} (h : Ints w v xs) (hb : Below w.heap.size w w') : Ints w' v xs := by
 obtain ⟨A, c, rfl, h1, h2, h3, h4⟩ := h
 exact ⟨A, c, rfl, h1, h2, h3, h4.below hb⟩
theorem Rows.below {w w' : World} {v : Value} {xss : List (List Int)} (h : Rows w v xss) (hb : Below w.heap.size w w') : Rows w' v xss := by
 obtain ⟨A, c, vs, rfl, h1, h2, h3, h4⟩ := h
 exact ⟨A, c, vs, rfl, h1, h2, h3.below hb, fun k hk => (h4 k hk).below hb⟩
theorem Ints.len {w : World} {v : Value} {xs : List Int} (h : Ints w v xs) : xs.length ≤ 9223372036854775807 := by
 obtain ⟨A, c, _, h1, h2, _⟩ := h; omega
theorem Rows.len {w : World} {v : Value} {xss : List (List Int)} (h : Rows w v xss) : xss.length ≤ 9223372036854775807 := by
 obtain ⟨A, c, _, _, h1, h2, _⟩ := h; omega
theorem Ints.i64 {w : World} {v : Value} {xs : List Int} (h : Ints w v xs) {k : Nat} (hk : k < xs.length) : I64 (nth xs k) := by
 obtain ⟨A, c, _, _, _, h3, _⟩ := h; exact h3 _ (nth_mem xs k hk)
structure Tbl where
 X : List Int
 Y : List Int
 V : List (List Int)
structure TblAt (w : World) (x y v : Value) (T : Tbl) : Prop where
 x : Ints w x T.X
 y : Ints w y T.Y
 v : Rows w v T.V
theorem TblAt.below {w w' : World} {x y v : Value} {T : Tbl} (h : TblAt w x y v T) (hb : Below w.heap.size w w') : TblAt w' x y v T :=
 ⟨h.x.below hb, h.y.below hb, h.v.below hb⟩
theorem bal {w W : World} (h : Below w.heap.size w W) (o : Obj) : Below w.heap.size w (W.alloc o) := h.alloc h.size o
theorem bdn {w W : World} (h : Below w.heap.size w W) (n : Nat) : Below w.heap.size w (W.drewN n) := ⟨h.os, h.tape, h.output, h.size, h.block⟩
theorem bthen {w W w1 : World} (h : Below w.heap.size w W) (h2 : Below W.heap.size W w1) : Below w.heap.size w w1 := h.trans (h2.mono h.size)
theorem bthen2 {w wp W w1 : World} (hE : Below w.heap.size w wp) (h : Below wp.heap.size wp W) (h2 : Below W.heap.size W w1) : Below w.heap.size w w1 := bthen hE (bthen h h2)
theorem bcell {W w1 : World} (hb : Below W.heap.size W w1) :
  (∀ b o, b < W.heap.size → w1.cell? ⟨b, o, none⟩ = W.cell? ⟨b, o, none⟩) ∧ (∀ b o, b < W.heap.size → w1.frozen? ⟨b, o, none⟩ = W.frozen? ⟨b, o, none⟩) :=
 ⟨fun b o h => hb.cell (p := ⟨b, o, none⟩) h, fun b o h => hb.frozen (p := ⟨b, o, none⟩) h⟩
theorem cell_new_at (w : World) (c : Array Value) (t : TypeId) (n i : Nat) (h : n = w.heap.size) : (w.alloc (.cells c t)).cell? ⟨n, i, none⟩ = c[i]? := by subst h; simp
end Go.Proofs.YtlabfpjlckdmfaaGreat
namespace Go.Proofs.YtlabfpjlckdmfaaGreat
open Go Go.RowKit
theorem wrap64_in {x : Int} (h0 : -9223372036854775808 ≤ x) (h1 : x ≤ 9223372036854775807) : wrap64 x = x := by
 unfold wrap64; omega
theorem mul_bd {a b A B : Int} (ha0 : -A ≤ a) (ha1 : a ≤ A) (hb0 : -B ≤ b) (hb1 : b ≤ B) : -(A * B) ≤ a * b ∧ a * b ≤ A * B := by
 have hA : 0 ≤ A := by omega
 have hB : 0 ≤ B := by omega
 have h1 : a * b ≤ A * B ∧ -(A * B) ≤ a * b := by
  have e1 : (A - a) * (B - b) ≥ 0 := Int.mul_nonneg (by omega) (by omega)
  have e2 : (A + a) * (B + b) ≥ 0 := Int.mul_nonneg (by omega) (by omega)
  have e3 : (A - a) * (B + b) ≥ 0 := Int.mul_nonneg (by omega) (by omega)
  have e4 : (A + a) * (B - b) ≥ 0 := Int.mul_nonneg (by omega) (by omega)
  simp only [Int.sub_mul, Int.mul_sub, Int.add_mul, Int.mul_add] at e1 e2 e3 e4
  constructor <;> omega
 exact ⟨h1.2, h1.1⟩
end Go.Proofs.YtlabfpjlckdmfaaGreat
namespace Go.Proofs.YtlabfpjlckdmfaaGreat
open Go Go.RowKit Go.Proofs
def PredB (P : Program) (g : Nat) (lb : Array Value) (n : Nat) (enc : Nat → Value) (p : Nat → Bool) (w : World) : Prop :=
 ∀ (W : World) (i : Nat), i < n → Below w.heap.size w W → Calls P g (#[enc i] ++ lb) W fun e w' => e = .returned (.bool (p i)) ∧ Below W.heap.size W w'
def firstIx (p : Nat → Bool) (n : Nat) : Int := match (List.range n).find? p with | some i => i | none => -1
theorem firstIx_hit (p : Nat → Bool) (n k : Nat) (hk : k < n) (hp : p k = true) (hF : ∀ j, j < k → p j = false) : firstIx p n = k := by
 unfold firstIx
 have : (List.range n).find? p = some k := by
  rw [List.find?_range_eq_some]
  exact ⟨hp, List.mem_range.2 hk, fun j hj => by simp [hF j hj]⟩
 rw [this]
theorem firstIx_miss (p : Nat → Bool) (n : Nat) (hF : ∀ j, j < n → p j = false) : firstIx p n = -1 := by
 unfold firstIx
 have : (List.range n).find? p = none := by
  rw [List.find?_eq_none]
  intro j hj; simp [hF j (by simpa using hj)]
 rw [this]
theorem firstIx_nonneg (p : Nat → Bool) (n : Nat) : decide (0 ≤ firstIx p n) = (List.range n).any p := by
 cases h : (List.range n).any p with
 | false =>
  have : firstIx p n = -1 := firstIx_miss p n (fun j hj => by
   have := List.any_eq_false.1 h j (by simpa using hj); simpa using this)
  simp [this]
 | true =>
  unfold firstIx
  cases hf : (List.range n).find? p with
  | some i => simp
  | none =>
   rw [List.find?_eq_none] at hf
   obtain ⟨j, hj, hp⟩ := List.any_eq_true.1 h
   exact absurd hp (hf j hj)
theorem blk_lt {w : World} {a : Addr} {v : Value} (h : w.cell? a = some v) : a.block < w.heap.size := World.block_lt_of_cell? w a h
theorem qsame {P : Program} {f : FuncId} {args : Array Value} {w : World} {n : Nat} {v : Value}
  (h : Calls P f args (w.drewN n) fun e w' => e = .returned v ∧ w.drewN n = w') : Calls P f args (w.drewN n) fun e w'' => e = .returned v ∧ ∃ m, w'' = w.drewN m :=
 h.mono fun _ _ ⟨he, hm⟩ => ⟨he, n, hm.symm⟩
theorem ret_bool {a b : Bool} (h : a = b) : Ending.returned (.bool a) = .returned (.bool b) := by rw [h]
theorem ret_int {k : IntKind} {a b : Int} (h : a = b) : Ending.returned (.int k a) = .returned (.int k b) := by rw [h]
end Go.Proofs.YtlabfpjlckdmfaaGreat
namespace Go.Proofs.YtlabfpjlckdmfaaGreat
open Go Go.RowKit
structure Pt where
 x : Int
 y : Int
 n : Int
 d : Int
 hn : -400000000000000 ≤ n ∧ n ≤ 400000000000000
 hd : 1 ≤ d ∧ d ≤ 400000000
def leP (p q : Pt) : Prop := p.n * q.d ≤ q.n * p.d
theorem leP.refl (p : Pt) : leP p p := Int.le_refl _
theorem leP.trans {p q r : Pt} (h : leP p q) (k : leP q r) : leP p r := by
 unfold leP at *
 have hp := p.hd.1
 have hq := q.hd.1
 have hr := r.hd.1
 have h1 : p.n * q.d * r.d ≤ q.n * p.d * r.d := Int.mul_le_mul_of_nonneg_right h (by omega)
 have h2 : q.n * r.d * p.d ≤ r.n * q.d * p.d := Int.mul_le_mul_of_nonneg_right k (by omega)
 have e1 : q.n * p.d * r.d = q.n * r.d * p.d := by rw [Int.mul_assoc, Int.mul_comm p.d, ← Int.mul_assoc]
 have e2 : p.n * q.d * r.d = q.d * (p.n * r.d) := by rw [Int.mul_comm p.n, Int.mul_assoc]
 have e3 : r.n * q.d * p.d = q.d * (r.n * p.d) := by rw [Int.mul_comm r.n, Int.mul_assoc]
 have h3 : q.d * (p.n * r.d) ≤ q.d * (r.n * p.d) := by omega
 exact Int.le_of_mul_le_mul_left h3 (by omega)
end Go.Proofs.YtlabfpjlckdmfaaGreat
namespace Go.Proofs.YtlabfpjlckdmfaaGreat
open Go Go.RowKit Go.Proofs
section
variable {P : Program} {ops : Array Oper} {md : Region.Mode} {C : World → Prop}
def headQ (P : Program) (md : Region.Mode) (ops : Array Oper) (C : World → Prop) (n : Nat) (L : Array Bool → Act → Prop) : Nat → Array Bool → Act → Prop
 | 0, listed, a => L listed a
 | f + 1, listed, a => Region.ready md ops listed ≠ [] ∧ ∀ i ∈ Region.ready md ops listed, i < n ∧ qOp P ops C i (headQ P md ops C n L f (listed.setIfInBounds i true)) a
theorem headQ_any {n g : Nat} {L : Array Bool → Act → Prop} {Q : Exit → Act → World → Prop} (hL : ∀ listed a w, C w → L listed a → wpAny P md ops Q g listed a w) (f : Nat) :
  ∀ (listed : Array Bool) (a : Act) (w : World), C w → headQ P md ops C n L f listed a → wpAny P md ops Q (f + g) listed a w := by
 induction f with
 | zero => intro listed a w hw h; rw [Nat.zero_add]; exact hL _ _ _ hw h
 | succ f ih =>
  intro listed a w hw h
  rw [show f + 1 + g = (f + g) + 1 by omega]
  exact ⟨fun h0 => absurd h0 h.1, fun i hi => wpOp_of_qOp hw (fun a' w' hw' h' => ih _ a' w' hw' h') (h.2 i hi).2⟩
theorem headQ_take {n i : Nat} {oi : Oper} {v : Value} {L : Array Bool → Act → Prop} (hi : ops[i]? = some oi) (hsel : ∀ (j : Nat) (o : Oper) cs b, ops[j]? = some o → o.op ≠ .select cs b)
  (hs : Region.sinkB md ops n = true) (hc : Region.chainB md ops n = true) (hn : n < ops.size) (hin : i < n)
  (hdone : ∀ listed a, L listed a → ∀ j ∈ Region.ready md ops listed, n ≤ j) (f : Nat) :
  ∀ (listed : Array Bool) (a : Act), HeadInv md ops n listed →
   (∀ j oj, ops[j]? = some oj → j ≠ i → listed.getD j true = false → (∀ e ∈ oj.after, Region.binds md e = true → e.on ≠ i) → oi.apart ops oj = true) →
   i ∈ Region.ready md ops listed → YieldsIn P ops C oi v a →
   headQ P md ops C n L f (listed.setIfInBounds i true) (a.put oi.dst v) → headQ P md ops C n L (f + 1) listed a := by
 induction f with
 | zero =>
  intro listed a inv _ hr hy H
  have hun := (mem_ready.1 hr).1
  refine ⟨fun h => (by rw [h] at hr; cases hr), fun j hj => ⟨?_, ?_⟩⟩
  ·exact Nat.lt_of_not_le fun h => tail_waits hs hc hn inv _ i rfl hin hun j h hj
  ·by_cases hji : j = i
   ·subst hji; exact hy.qOp hi H
   ·have h1 := hdone _ _ H j (ready_mono hj hji)
    exact absurd hj (tail_waits hs hc hn inv _ i rfl hin hun j h1)
 | succ f ih =>
  intro listed a inv hfree hr hy H
  have hun := (mem_ready.1 hr).1
  refine ⟨fun h => (by rw [h] at hr; cases hr), fun j hj => ?_⟩
  have hjn : j < n := Nat.lt_of_not_le fun h => tail_waits hs hc hn inv _ i rfl hin hun j h hj
  refine ⟨hjn, ?_⟩
  by_cases hji : j = i
  ·subst hji; exact hy.qOp hi H
  ·obtain ⟨hjun, oj, hoj, hall⟩ := mem_ready.1 hj
   have hnot : ∀ e ∈ oj.after, Region.binds md e = true → e.on ≠ i := by
    intro e he hb heq
    have h1 := hall e he hb
    rw [heq, getD_both hun] at h1
    cases h1
   have h2 := qOp_put hoj (hfree j oj hoj hji hjun hnot) (fun cs b => hsel i oi cs b hi) (fun cs b => hsel j oj cs b hoj) hy (H.2 j (ready_mono hj hji)).2
   refine qOp_mono (fun a' h3 => ih (listed.setIfInBounds j true) a' (inv.set hj hjn) ?_ (ready_mono hr (Ne.symm hji)) h3.1 ?_) h2
   ·intro k ok hk hki hkun hno
    refine hfree k ok hk hki ?_ hno
    by_cases hjk : j = k
    ·subst hjk; exact hjun
    ·rwa [getD_set_ne true hjk] at hkun
   ·rw [Array.setIfInBounds_comm _ _ hji]
    exact h3.2
theorem headQ_text {n g : Nat} {Lq : Act → Prop} (hsel : Region.noSelect ops = true) (hs : Region.sinkB md ops n = true) (hc : Region.chainB md ops n = true) (hn : n < ops.size) (l : List Oper) :
  ∀ (k : Nat) (listed : Array Bool) (a : Act), (∀ j, j < l.length → l[j]? = ops[k + j]?) → k + l.length = n → HeadInv md ops n listed →
  Region.lexHead md ops g l.length k listed = true → wpQuiet P ops C Lq l a →
  headQ P md ops C n (fun listed' a' => Region.seqB md ops g n listed' = true ∧ Lq a') l.length listed a := by
 induction l with
 | nil =>
  intro k listed a _ hk _ hB h
  obtain rfl : k = n := by simpa using hk
  exact ⟨by simpa [Region.lexHead] using hB, h⟩
 | cons o l ih =>
  intro k listed a hl hk inv hB h
  have h0 : ops[k]? = some o := by simpa using (hl 0 (by simp)).symm
  simp only [List.length_cons, Region.lexHead, Bool.and_eq_true] at hB hk
  obtain ⟨⟨hr, hf⟩, hB'⟩ := hB
  have hkn : k < n := by omega
  have hr' : k ∈ Region.ready md ops listed := by simpa using hr
  have hq : qOp P ops C k (wpQuiet P ops C Lq l) a := by unfold qOp; simp only [h0]; exact h
  obtain ⟨v, hy, hK⟩ := yieldsIn_of_qOp h0 hq
  refine headQ_take h0 (Region.noSelect_spec hsel) hs hc hn hkn (fun listed' a' hL => seqB_ready hL.1) l.length listed a inv (Region.free_spec h0 hf) hr' hy ?_
  refine ih (k + 1) _ _ (fun j hj => ?_) (by omega) (inv.set hr' hkn) hB' hK
  have := hl (j + 1) (by simp; omega)
  simpa [Nat.add_assoc, Nat.add_comm 1 j] using this
theorem wp_region_qtail {id : Nat} {Q : Exit → Act → World → Prop} {a : Act} {w : World} {l : List Oper} (n : Nat) (hm : P.follows .mixedOrders = true) (hB : Region.lexTailB .any l.toArray n = true)
  (hC : C w.drew) (h : wpQuiet P l.toArray C (fun a' => ∀ w', C w' → wpList P l.toArray Q (l.drop n) a' w') (l.take n) a) : (Code.region id l.toArray true).wp P Q a w := by
 simp only [Region.lexTailB, Bool.and_eq_true, decide_eq_true_eq] at hB
 obtain ⟨⟨⟨⟨hsel, hn⟩, hs⟩, hc⟩, hlex⟩ := hB
 have hn' : n < l.length := by simpa using hn
 have htl : (l.take n).length = n := by simp; omega
 have hdl : (l.drop n).length = l.toArray.size - n := by simp
 have inv0 : HeadInv .any l.toArray n (Array.replicate l.toArray.size false) :=
  ⟨by simp, fun j oj _ hl => (by rw [getD_replicate_false] at hl; cases hl), fun t _ ht => getD_in (by simpa using ht) (getD_replicate_false _ _)⟩
 have H := headQ_text (md := .any) (g := l.toArray.size - n) hsel hs hc hn (l.take n) 0 _ a (fun j hj => by
  have hj' : j < n := by rw [htl] at hj; exact hj
  simp [hj']) (by simpa using htl) inv0 (by rw [htl]; exact hlex) h
 refine wp_region_any hm ?_
 have := headQ_any (Q := Q) (g := l.toArray.size - n) (fun listed a' w' hw' hL => by
  have := wpAny_of_seq (md := .any) (Q' := Q) (l.drop n) n listed a' w' (fun j => by simp [List.getElem?_drop]) (by rw [hdl]; exact hL.1) (hL.2 w' hw')
  rwa [hdl] at this) _ _ _ _ hC H
 rw [htl, show n + (l.toArray.size - n) = l.toArray.size by omega] at this
 exact this
structure After (W : World) where
 w : World
 below : Below W.heap.size W w
instance (W : World) : Inhabited (After W) := ⟨⟨W, Below.refl _ _⟩⟩
theorem wp_region_after {id : Nat} {Q : Exit → Act → World → Prop} {a : Act} {w : World} {l : List Oper} (hm : P.follows .mixedOrders = true) (hB : Region.lexB .any l.toArray = true)
  (h : wpQuiet P l.toArray (fun w' => ∃ p : After w, w' = p.w) (fun a' => ∀ w', (∃ p : After w, w' = p.w) → Q .normal a' w') l a) : (Code.region id l.toArray true).wp P Q a w :=
 wp_region_quiet (C := fun w' => ∃ p : After w, w' = p.w) hm hB ⟨⟨w.drew, (Below.refl _ _).drew⟩, rfl⟩ (by simpa using h)
theorem wp_region_aftert {id : Nat} {Q : Exit → Act → World → Prop} {a : Act} {w : World} {l : List Oper} (n : Nat) (hm : P.follows .mixedOrders = true) (hB : Region.lexTailB .any l.toArray n = true)
  (h : wpQuiet P l.toArray (fun w' => ∃ p : After w, w' = p.w) (fun a' => ∀ w', (∃ p : After w, w' = p.w) → wpList P l.toArray Q (l.drop n) a' w') (l.take n) a) : (Code.region id l.toArray true).wp P Q a w :=
 wp_region_qtail n hm hB ⟨⟨w.drew, (Below.refl _ _).drew⟩, rfl⟩ h
theorem wp_region_drawnt {id : Nat} {Q : Exit → Act → World → Prop} {a : Act} {w : World} {l : List Oper} (n : Nat) (hm : P.follows .mixedOrders = true) (hB : Region.lexTailB .any l.toArray n = true)
  (h : wpQuiet P l.toArray (fun w' => ∃ n, w' = w.drewN n) (fun a' => ∀ w', (∃ n, w' = w.drewN n) → wpList P l.toArray Q (l.drop n) a' w') (l.take n) a) : (Code.region id l.toArray true).wp P Q a w :=
 wp_region_qtail n hm hB ⟨1, rfl⟩ h
theorem qafter {f : FuncId} {args : Array Value} {w : World} {p : After w} {v : Value}
  (h : Calls P f args p.w fun e w' => e = .returned v ∧ Below p.w.heap.size p.w w') : Calls P f args p.w fun e w'' => e = .returned v ∧ ∃ p : After w, w'' = p.w :=
 h.mono fun _ w' ⟨he, hb⟩ => ⟨he, ⟨w', bthen p.below hb⟩, rfl⟩
theorem qafter_same {f : FuncId} {args : Array Value} {w : World} {p : After w} {v : Value}
  (h : Calls P f args p.w fun e w' => e = .returned v ∧ p.w = w') : Calls P f args p.w fun e w'' => e = .returned v ∧ ∃ p : After w, w'' = p.w :=
 h.mono fun _ w' ⟨he, hb⟩ => ⟨he, p, hb.symm⟩
end
end Go.Proofs.YtlabfpjlckdmfaaGreat
namespace Go.Proofs.YtlabfpjlckdmfaaGreat
open Go Go.RowKit Go.Proofs
def RowTy (P : Program) (ty : TypeId) (n : Nat) : Prop := (P.underlying ty).map (fun d => match d with | .struct _ | .array _ _ => true | _ => false) = some true ∧ (P.info? ty).map (·.size) = some n
section
variable {P : Program} {ops : Array Oper} {rest : List Oper} {o : Oper} {a : Act} {w : World}
theorem wpl_row {Q : Exit → Act → World → Prop} (hgd : o.guard = none) (ty : TypeId) (x : Operand) (ho : o.op = .load ty x)
  (g : Nat) (hx : a.eval x = .pointer (some ⟨g, 0, none⟩)) (cs : Array Value) (n : Nat) (hB : w.heap[g]? = some (.cells cs ty (0, 0)))
  (hr : RowTy P ty n) (hn : cs.size = n)
  (h : wpList P ops Q rest (a.put o.dst (.agg cs)) w) : wpList P ops Q (o :: rest) a w := by
 obtain ⟨hu, hi⟩ := hr
 cases hd : P.underlying ty with
 | none => rw [hd] at hu; cases hu
 | some d =>
  rw [hd] at hu
  exact wpList_load_row hgd ty x ho g hx ty cs (0, 0) d hB hd (by cases d <;> first | rfl | (simp at hu)) (by rw [hi, hn]) h
theorem wpq_row {C : World → Prop} {Q : Act → Prop} (hgd : o.guard = none) (ty : TypeId) (x : Operand) (ho : o.op = .load ty x)
  (g : Nat) (hx : a.eval x = .pointer (some ⟨g, 0, none⟩)) (cs : Array Value) (n : Nat) (hB : ∀ w, C w → w.heap[g]? = some (.cells cs ty (0, 0)))
  (hr : RowTy P ty n) (hn : cs.size = n)
  (h : wpQuiet P ops C Q rest (a.put o.dst (.agg cs))) : wpQuiet P ops C Q (o :: rest) a := by
 obtain ⟨hu, hi⟩ := hr
 cases hd : P.underlying ty with
 | none => rw [hd] at hu; cases hu
 | some d =>
 rw [hd] at hu
 refine wpQuiet_step fun K hK => ?_
 simp only [Region.wanted, hgd, if_true]
 refine ⟨.agg cs, fun w' hw' => ?_, hK _ h⟩
 unfold Oper.quietAt execOp
 simp only [ho, hx, Instr.loadAt, Instr.sureAddr, Sem.run_bind, Sem.run_pure, Result.andThen_ok, run_loadVar_row w' g ty ty cs (0, 0) d (hB w' hw') hd (by cases d <;> first | rfl | (simp at hu)) (by rw [hi, hn])]
 exact ⟨rfl, rfl⟩
theorem run_row {g : Nat} {ty : TypeId} {cs : Array Value} {n : Nat} (hB : w.heap[g]? = some (.cells cs ty (0, 0))) (hr : RowTy P ty n) (hn : cs.size = n) : (loadVar ty ⟨g, 0, none⟩).run P w = .ok (.agg cs) w := by
 obtain ⟨hu, hi⟩ := hr
 cases hd : P.underlying ty with
 | none => rw [hd] at hu; cases hu
 | some d => rw [hd] at hu; exact run_loadVar_row w g ty ty cs (0, 0) d hB hd (by cases d <;> first | rfl | (simp at hu)) (by rw [hi, hn])
theorem res_c {fn : Func} {p : Tmp} {ty : TypeId} (h : fn.results = #[.cell p ty]) (tmps : Array Value) (g : Nat) (cs : Array Value) (n : Nat) (hp : tmps.getD p undef = .pointer (some ⟨g, 0, none⟩))
  (hB : w.heap[g]? = some (.cells cs ty (0, 0))) (hr : RowTy P ty n) (hn : cs.size = n) : (results fn tmps).run P w = .ok (.agg cs) w := by
 have hp' : tmps[p]?.getD undef = .pointer (some ⟨g, 0, none⟩) := by simpa using hp
 simp [results, h, hp', asAddr, run_row hB hr hn]
theorem res_ct {fn : Func} {p q : Tmp} {ty : TypeId} (h : fn.results = #[.cell p ty, .tmp q]) (tmps : Array Value) (g : Nat) (cs : Array Value) (n : Nat) (hp : tmps.getD p undef = .pointer (some ⟨g, 0, none⟩))
  (hB : w.heap[g]? = some (.cells cs ty (0, 0))) (hr : RowTy P ty n) (hn : cs.size = n) : (results fn tmps).run P w = .ok (.tuple #[.agg cs, tmps.getD q undef]) w := by
 have hp' : tmps[p]?.getD undef = .pointer (some ⟨g, 0, none⟩) := by simpa using hp
 simp [results, h, hp', asAddr, run_row hB hr hn]
end
end Go.Proofs.YtlabfpjlckdmfaaGreat
namespace Go.Proofs.YtlabfpjlckdmfaaGreat
open Go Go.RowKit Go.Proofs
section
variable {P : Program} {ops : Array Oper} {rest : List Oper} {o : Oper} {a : Act} {w : World}
theorem run_mid {g off : Nat} {ty tb : TypeId} {big cs : Array Value} {n : Nat} (hB : w.heap[g]? = some (.cells big tb (0, 0))) (hr : RowTy P ty n) (pre post : List Value) (hpre : pre.length = off) (hcs : big.toList = pre ++ (cs.toList ++ post)) (hn : cs.size = n) :
  (loadVar ty ⟨g, off, none⟩).run P w = .ok (.agg cs) w := by
 obtain ⟨hu, hi⟩ := hr
 have hl : (loadCells ⟨g, off, none⟩ cs.toList.length).run P w = .ok cs.toList.toArray w :=
  run_loadCells_list (P := P) w ⟨g, off, none⟩ cs.toList (fun j v hv => by
   have hadd : (⟨g, off, none⟩ : Addr).add j = ⟨g, off + j, none⟩ := by unfold Addr.add; split <;> simp_all
   rw [hadd, cell_of_row w g (off + j) big tb (0, 0) hB]
   have hv' : cs[j]? = some v := by simpa using hv
   have hj : j < n := by rw [← hn]; exact (Array.getElem?_eq_some_iff.1 hv').1
   have hl : (big.toList)[off + j]? = some v := by
    rw [hcs, List.getElem?_append_right (by omega), show off + j - pre.length = j by omega, List.getElem?_append_left (by simp; omega)]
    exact hv
   simpa using hl)
 cases hd : P.underlying ty with
 | none => rw [hd] at hu; cases hu
 | some d =>
  rw [hd] at hu
  cases hq : P.info? ty with
  | none => simp [hq] at hi
  | some i =>
   have hs : i.size = cs.size := by rw [hn]; simpa [hq] using hi
   have hagg : (isAgg ty).run P w = .ok true w := by
    unfold isAgg
    rw [Sem.run_bind, run_underlying hd w]
    cases d <;> simp_all
   simp only [Array.length_toList, Array.toArray_toList] at hl
   simp [loadVar, Sem.run_bind, hagg, sizeOf, typeInfo, hq, hs, hl]
theorem wpl_mid {Q : Exit → Act → World → Prop} (hgd : o.guard = none) (ty : TypeId) (x : Operand) (ho : o.op = .load ty x)
  (g off : Nat) (hx : a.eval x = .pointer (some ⟨g, off, none⟩)) (tb : TypeId) (big cs : Array Value) (n : Nat) (hB : w.heap[g]? = some (.cells big tb (0, 0)))
  (hr : RowTy P ty n) (pre post : List Value) (hpre : pre.length = off) (hcs : big.toList = pre ++ (cs.toList ++ post)) (hn : cs.size = n)
  (h : wpList P ops Q rest (a.put o.dst (.agg cs)) w) : wpList P ops Q (o :: rest) a w := by
 refine wpList_plain hgd fun _ hK => ?_
 unfold Oper.wp execOp
 simp only [ho, hx, Instr.loadAt, Instr.sureAddr, Sem.run_bind, Sem.run_pure, Result.andThen_ok, run_mid hB hr pre post hpre hcs hn]
 exact hK _ _ h
end
end Go.Proofs.YtlabfpjlckdmfaaGreat
namespace Go.Proofs.YtlabfpjlckdmfaaGreat
open Go Go.RowKit Go.Proofs
def upd (u : Nat → Value) (i : Nat) (v : Value) : Nat → Value := fun j => if j = i then v else u j
theorem upd_same (u : Nat → Value) (i : Nat) (v : Value) : upd u i v i = v := by simp [upd]
theorem upd_ne {u : Nat → Value} {i j : Nat} {v : Value} (h : j ≠ i) : upd u i v j = u j := by simp [upd, h]
def dstOf (ops : Array Oper) (i : Nat) : Option Tmp := (ops[i]?).bind (·.dst)
def putAll (ops : Array Oper) (a : Act) (u : Nat → Value) : Nat → Act
 | 0 => a
 | n + 1 => (putAll ops a u n).put (dstOf ops n) (u n)
def distB (ops : Array Oper) (n : Nat) : Bool := (List.range n).all fun j => (List.range j).all fun i => match dstOf ops i, dstOf ops j with | some d, some e => d != e | _, _ => true
def depsOf (ops : Array Oper) (i : Nat) : List Nat := match ops[i]? with | some o => (o.after.toList.filter fun e => Region.binds .any e).map (·.on) | none => []
def slotOf (ops : Array Oper) (a : Act) (i : Nat) : Value := match dstOf ops i with | some d => a.tmps.getD d undef | none => undef
theorem put_put (a : Act) (d : Option Tmp) (u v : Value) : (a.put d u).put d v = a.put d v := by
 cases d with
 | none => rfl
 | some d => simp [Act.put]
theorem put_self (a : Act) (d : Tmp) : a.put (some d) (a.tmps.getD d undef) = a := by
 have : a.tmps.setIfInBounds d (a.tmps.getD d undef) = a.tmps := by
  apply Array.ext
  ·simp
  ·intro i h1 h2
   rw [Array.getElem_setIfInBounds (by simpa using h2)]
   split
   ·subst_vars; simp [h2]
   ·rfl
 unfold Act.put
 simp only [this]
theorem putAll_congr {ops : Array Oper} {a : Act} {u v : Nat → Value} : ∀ n, (∀ i, i < n → u i = v i) → putAll ops a u n = putAll ops a v n
 | 0, _ => rfl
 | n + 1, h => by
  show (putAll ops a u n).put _ _ = (putAll ops a v n).put _ _
  rw [putAll_congr n (fun i hi => h i (by omega)), h n (by omega)]
theorem distB_ne {ops : Array Oper} {n i j : Nat} (h : distB ops n = true) (hij : i < j) (hj : j < n) : ∀ d, dstOf ops i = some d → dstOf ops j ≠ some d := by
 intro d hd he
 unfold distB at h
 rw [List.all_eq_true] at h
 have h1 := h j (List.mem_range.2 hj)
 rw [List.all_eq_true] at h1
 have h2 := h1 i (List.mem_range.2 hij)
 rw [hd, he] at h2
 simp at h2
theorem distB_mono {ops : Array Oper} {n m : Nat} (h : distB ops n = true) (hm : m ≤ n) : distB ops m = true := by
 unfold distB at *
 rw [List.all_eq_true] at *
 intro j hj; exact h j (List.mem_range.2 (by have := List.mem_range.1 hj; omega))
theorem putAll_upd {ops : Array Oper} {a : Act} {u : Nat → Value} {i : Nat} {v : Value} : ∀ n, i < n → distB ops n = true → putAll ops a (upd u i v) n = (putAll ops a u n).put (dstOf ops i) v
 | 0, hi, _ => absurd hi (by omega)
 | n + 1, hi, hd => by
  show (putAll ops a (upd u i v) n).put (dstOf ops n) (upd u i v n) = ((putAll ops a u n).put (dstOf ops n) (u n)).put (dstOf ops i) v
  by_cases e : i = n
  ·subst e
   rw [putAll_congr (u := upd u i v) (v := u) i (fun j hj => upd_ne (by omega)), upd_same, put_put]
  ·rw [putAll_upd n (by omega) (distB_mono hd (by omega)), upd_ne (by omega), Act.put_comm]
   exact distB_ne hd (show i < n by omega) (by omega)
theorem putAll_slot {ops : Array Oper} {a : Act} : ∀ n, putAll ops a (slotOf ops a) n = a
 | 0 => rfl
 | n + 1 => by
  show (putAll ops a (slotOf ops a) n).put (dstOf ops n) (slotOf ops a n) = a
  rw [putAll_slot n]
  unfold slotOf
  cases h : dstOf ops n with
  | none => rfl
  | some d => exact put_self a d
section
variable {P : Program} {ops : Array Oper}
def EndOp (Q : Exit → Act → World → Prop) (R : Nat → Value → World → Prop) (fresh : Nat → Bool) (ops : Array Oper) (i : Nat) (A : Act) (w : World) : Exit → Act → World → Prop
 | .normal, a', w' => ∃ v, a' = A.put (dstOf ops i) v ∧ Below w.heap.size w w' ∧ R i v w' ∧ (fresh i = true → ∃ g, v = .pointer (some ⟨g, 0, none⟩) ∧ w.heap.size ≤ g ∧ g < w'.heap.size)
 | .outgrown, _, _ => LetsOut Q
 | _, _, _ => False
theorem lets_end {Q : Exit → Act → World → Prop} {R : Nat → Value → World → Prop} {fresh : Nat → Bool} {i : Nat} {A : Act} {w : World} (h : LetsOut (EndOp Q R fresh ops i A w)) : LetsOut Q := by
 obtain ⟨a, w', h⟩ := h; exact h
theorem wpOp_of_end {Q : Exit → Act → World → Prop} {R : Nat → Value → World → Prop} {fresh : Nat → Bool} {i : Nat} {oi : Oper} {A : Act} {w : World} {K : Act → World → Prop} (hi : ops[i]? = some oi)
  (h : wpList P ops (EndOp Q R fresh ops i A w) [oi] A w)
  (hK : ∀ v w', Below w.heap.size w w' → R i v w' → (fresh i = true → ∃ g, v = .pointer (some ⟨g, 0, none⟩) ∧ w.heap.size ≤ g ∧ g < w'.heap.size) → K (A.put (dstOf ops i) v) w') : wpOp P ops Q i K A w := by
 have hd : dstOf ops i = oi.dst := by simp [dstOf, hi]
 have hK' : ∀ a' w', EndOp Q R fresh ops i A w .normal a' w' → K a' w' := by
  rintro a' w' ⟨v, rfl, h1, h2, h3⟩; exact hK v w' h1 h2 h3
 unfold wpOp
 simp only [hi]
 unfold wpList at h
 split at h
 ·rename_i hw
  simp only [hw, if_true]
  rcases h with h | ⟨h1, h2⟩
  ·left
   unfold Oper.wp at *
   generalize (execOp A.eval oi).run P w = r at *
   cases r with
   | ok n w' =>
    cases n <;> simp only [Oper.upon, wpList] at h ⊢ <;>
     first
      | exact hK' _ _ h
      | exact Calls.mono h (fun e w'' he => by cases e <;> first | exact hK' _ _ he | exact he.elim | exact lets_end he)
      | exact Rows.mono h (fun _ _ he => hK' _ _ he)
   | halt x w' => cases x <;> simp only [Oper.upon] at h ⊢ <;> exact h.elim
  ·exact Or.inr ⟨h1, lets_end h2⟩
 ·rename_i hw
  simp only [hw]
  exact hK' _ _ h
def forwB (ops : Array Oper) (n : Nat) : Bool := (List.range n).all fun i => (depsOf ops i).all fun k => decide (k < i)
theorem forwB_lt {n i k : Nat} {oi : Oper} (h : forwB ops n = true) (hi : i < n) (ho : ops[i]? = some oi) (hk : k ∈ (oi.after.toList.filter fun e => Region.binds .any e).map (·.on)) : k < i := by
 unfold forwB at h
 rw [List.all_eq_true] at h
 have h1 := h i (List.mem_range.2 hi)
 rw [List.all_eq_true] at h1
 have := h1 k (by unfold depsOf; rw [ho]; exact hk)
 simpa using this
theorem getD_set_self {listed : Array Bool} {i : Nat} (h : i < listed.size) : (listed.setIfInBounds i true).getD i false = true := by simp [h]
theorem cnt_set {n : Nat} {p q : Nat → Bool} {i : Nat} (hi : i < n) (hp : p i = true) (hq : q i = false) (h : ∀ k, k ≠ i → q k = p k) : ((List.range n).filter p).length = ((List.range n).filter q).length + 1 := by
 induction n with
 | zero => omega
 | succ n ih =>
  rw [List.range_succ, List.filter_append, List.filter_append, List.length_append, List.length_append]
  by_cases e : i = n
  ·subst e
   have : (List.range i).filter p = (List.range i).filter q := List.filter_congr fun k hk => (h k (by have := List.mem_range.1 hk; omega)).symm
   rw [this]
   simp [hp, hq]
  ·have e2 : [n].filter p = [n].filter q := List.filter_congr fun k hk => (h k (by have := List.mem_singleton.1 hk; omega)).symm
   rw [ih (by omega), e2]; omega
def headDone (m n : Nat) : Array Bool := ((List.range m).map fun i => decide (i < n)).toArray
def specB (ops : Array Oper) (n : Nat) : Bool :=
 decide (n < ops.size) && distB ops n && forwB ops n && Region.sinkB .any ops n && Region.chainB .any ops n && Region.seqB .any ops (ops.size - n) n (headDone ops.size n)
structure SpecInv (ops : Array Oper) (R : Nat → Value → World → Prop) (fresh : Nat → Bool) (n : Nat) (listed : Array Bool) (u : Nat → Value) (w : World) : Prop where
 r : ∀ k, k < n → listed.getD k false = true → R k (u k) w
 f : ∀ k, k < n → listed.getD k false = true → fresh k = true → ∃ g, u k = .pointer (some ⟨g, 0, none⟩) ∧ g < w.heap.size
 d : ∀ j k, j < n → k < n → j ≠ k → listed.getD j false = true → listed.getD k false = true → fresh j = true → fresh k = true → u j ≠ u k
theorem headDone_eq {n : Nat} {listed : Array Bool} (hs : listed.size = ops.size) (hn : n ≤ ops.size) (h1 : ∀ i, i < n → listed.getD i false = true) (h2 : ∀ t, n ≤ t → t < ops.size → listed.getD t true = false) : listed = headDone ops.size n := by
 apply Array.ext
 ·simp [headDone, hs]
 ·intro i hi hi'
  simp only [headDone, List.getElem_toArray, List.getElem_map, List.getElem_range]
  by_cases e : i < n
  ·have := h1 i e; simp [hi] at this; simp [e, this]
  ·have := h2 i (by omega) (by omega); simp [hi] at this; simp [e, this]
theorem any_of_specs {Q : Exit → Act → World → Prop} {R : Nat → Value → World → Prop} {fresh : Nat → Bool} {n : Nat} {a : Act} {w : World} {tail : List Oper}
  (hB : specB ops n = true) (hR : ∀ k v w w', Below w.heap.size w w' → R k v w → R k v w')
  (hop : ∀ i oi, i < n → ops[i]? = some oi → ∀ (u : Nat → Value) (w1 : World), Below w.heap.size w w1 → (∀ k ∈ depsOf ops i, k < n → R k (u k) w1) → wpList P ops (EndOp Q R fresh ops i (putAll ops a u n) w1) [oi] (putAll ops a u n) w1)
  (htl : ∀ j, tail[j]? = ops[n + j]?) (htn : tail.length = ops.size - n)
  (htail : ∀ (u : Nat → Value) (w1 : World), Below w.heap.size w w1 → (∀ k, k < n → R k (u k) w1) → (∀ i j, i < n → j < n → i ≠ j → fresh i = true → fresh j = true → u i ≠ u j) → wpList P ops Q tail (putAll ops a u n) w1) :
  ∀ (m : Nat) (listed : Array Bool) (u : Nat → Value) (w1 : World), HeadInv .any ops n listed → ((List.range n).filter fun i => !listed.getD i false).length = m →
   SpecInv ops R fresh n listed u w1 → Below w.heap.size w w1 → wpAny P .any ops Q (m + (ops.size - n)) listed (putAll ops a u n) w1 := by
 simp only [specB, Bool.and_eq_true, decide_eq_true_eq] at hB
 obtain ⟨⟨⟨⟨⟨hn, hdist⟩, hforw⟩, hs⟩, hc⟩, hseq⟩ := hB
 intro m
 induction m with
 | zero =>
  intro listed u w1 inv hm sinv hb
  have all : ∀ i, i < n → listed.getD i false = true := by
   intro i hi
   have h0 := List.eq_nil_of_length_eq_zero hm
   rw [List.filter_eq_nil_iff] at h0
   have := h0 i (List.mem_range.2 hi)
   simpa using this
  have e := headDone_eq inv.size (by omega) all inv.tail
  subst e
  have := wpAny_of_seq (md := .any) (Q' := Q) tail n (headDone ops.size n) (putAll ops a u n) w1 htl (by rw [htn]; exact hseq)
   (htail u w1 hb (fun k hk => sinv.r k hk (all k hk)) (fun i j hi hj hij => sinv.d i j hi hj hij (all i hi) (all j hj)))
  rw [htn] at this
  rw [Nat.zero_add]
  exact this
 | succ m ih =>
  intro listed u w1 inv hm sinv hb
  obtain ⟨i0, hi0⟩ : ∃ i0, i0 ∈ (List.range n).filter fun i => !listed.getD i false := by
   cases hl : (List.range n).filter fun i => !listed.getD i false with
   | nil => rw [hl] at hm; simp at hm
   | cons x xs => exact ⟨x, by simp⟩
  obtain ⟨hi0n, hi0l⟩ := List.mem_filter.1 hi0
  have hi0n := List.mem_range.1 hi0n
  have hun : listed.getD i0 true = false := getD_in (by rw [inv.size]; omega) (by simpa using hi0l)
  have key : ∀ i ∈ Region.ready .any ops listed, i < n := fun i hi => Nat.lt_of_not_le fun h => tail_waits hs hc hn inv _ i0 rfl hi0n hun i h hi
  rw [show m + 1 + (ops.size - n) = (m + (ops.size - n)) + 1 by omega]
  refine ⟨fun h0 => ?_, fun i hi => ?_⟩
  ·exfalso
   have low : ∀ i, i < n → listed.getD i false = false → False := by
    intro i
    induction i using Nat.strongRecOn with
    | _ i ih =>
     intro hin hl
     have hoi : ops[i]? = some ops[i] := Array.getElem?_eq_getElem (by omega)
     by_cases hall : ∀ e ∈ (ops[i]'(by omega)).after, Region.binds .any e = true → listed.getD e.on false = true
     ·have : i ∈ Region.ready .any ops listed := mem_ready.2 ⟨getD_in (by rw [inv.size]; omega) hl, ops[i], hoi, hall⟩
      rw [h0] at this; cases this
     ·have hex : ∃ e ∈ (ops[i]'(by omega)).after, Region.binds .any e = true ∧ listed.getD e.on false = false := by
       refine Classical.byContradiction fun hne => hall fun e he hbe => ?_
       cases hx : listed.getD e.on false with
       | true => rfl
       | false => exact absurd ⟨e, he, hbe, hx⟩ hne
      obtain ⟨e, he, hbe, hx⟩ := hex
      have hlt := forwB_lt hforw hin hoi (List.mem_map.2 ⟨e, List.mem_filter.2 ⟨by simpa using he, hbe⟩, rfl⟩)
      exact ih e.on hlt (by omega) hx
   exact low i0 hi0n (by simpa using hi0l)
  ·have hin := key i hi
   obtain ⟨hil, oi, hoi, hall⟩ := mem_ready.1 hi
   refine wpOp_of_end hoi (hop i oi hin hoi u w1 hb fun k hk hkn => ?_) fun v w' hb' hv hf => ?_
   ·have : ∃ e ∈ oi.after.toList, Region.binds .any e = true ∧ e.on = k := by
     unfold depsOf at hk; rw [hoi] at hk
     simp only [List.mem_map, List.mem_filter] at hk
     obtain ⟨e, ⟨he, hbe⟩, rfl⟩ := hk
     exact ⟨e, he, hbe, rfl⟩
    obtain ⟨e, he, hbe, rfl⟩ := this
    exact sinv.r _ hkn (hall e (by simpa using he) hbe)
   ·rw [← putAll_upd n hin hdist]
    have hl' : ∀ k, k ≠ i → (listed.setIfInBounds i true).getD k false = listed.getD k false := fun k hk => getD_set_ne false (Ne.symm hk)
    refine ih (listed.setIfInBounds i true) (upd u i v) w' (inv.set hi hin) ?_ ⟨?_, ?_, ?_⟩ (bthen hb hb')
    ·have := cnt_set (n := n) (p := fun k => !listed.getD k false) (q := fun k => !(listed.setIfInBounds i true).getD k false) hin (by simpa using getD_both hil) (by rw [getD_set_self (by rw [inv.size]; omega)]; rfl) (fun k hk => by rw [hl' k hk])
     omega
    ·intro k hk hkl
     by_cases e : k = i
     ·subst e; rw [upd_same]; exact hv
     ·rw [upd_ne e]; rw [hl' k e] at hkl; exact hR _ _ _ _ hb' (sinv.r k hk hkl)
    ·intro k hk hkl hfk
     by_cases e : k = i
     ·subst e; rw [upd_same]; obtain ⟨g, g1, g2, g3⟩ := hf hfk; exact ⟨g, g1, g3⟩
     ·rw [upd_ne e]; rw [hl' k e] at hkl; obtain ⟨g, g1, g2⟩ := sinv.f k hk hkl hfk; exact ⟨g, g1, Nat.lt_of_lt_of_le g2 hb'.size⟩
    ·intro j k hj hk hjk hjl hkl hfj hfk
     by_cases e : j = i
     ·subst e
      have e2 : k ≠ j := fun h => hjk h.symm
      rw [upd_same, upd_ne e2]; rw [hl' k e2] at hkl
      obtain ⟨g, g1, g2, g3⟩ := hf hfj
      obtain ⟨g', g1', g2'⟩ := sinv.f k hk hkl hfk
      rw [g1, g1']; intro h; injection h with h; injection h with h; injection h with h; omega
     ·by_cases e2 : k = i
      ·subst e2
       rw [upd_same, upd_ne e]; rw [hl' j e] at hjl
       obtain ⟨g, g1, g2, g3⟩ := hf hfk
       obtain ⟨g', g1', g2'⟩ := sinv.f j hj hjl hfj
       rw [g1, g1']; intro h; injection h with h; injection h with h; injection h with h; omega
      ·rw [upd_ne e, upd_ne e2]; rw [hl' j e] at hjl; rw [hl' k e2] at hkl
       exact sinv.d j k hj hk hjk hjl hkl hfj hfk
theorem wp_region_specs {id : Nat} {Q : Exit → Act → World → Prop} {a : Act} {w : World} {l : List Oper} (n : Nat) (R : Nat → Value → World → Prop) (fresh : Nat → Bool)
  (hm : P.follows .mixedOrders = true) (hB : specB l.toArray n = true) (hR : ∀ k v w w', Below w.heap.size w w' → R k v w → R k v w')
  (hop : ∀ i oi, i < n → l.toArray[i]? = some oi → ∀ (u : Nat → Value) (w1 : World), Below w.heap.size w w1 → (∀ k ∈ depsOf l.toArray i, k < n → R k (u k) w1) → wpList P l.toArray (EndOp Q R fresh l.toArray i (putAll l.toArray a u n) w1) [oi] (putAll l.toArray a u n) w1)
  (htail : ∀ (u : Nat → Value) (w1 : World), Below w.heap.size w w1 → (∀ k, k < n → R k (u k) w1) → (∀ i j, i < n → j < n → i ≠ j → fresh i = true → fresh j = true → u i ≠ u j) → wpList P l.toArray Q (l.drop n) (putAll l.toArray a u n) w1) :
  (Code.region id l.toArray true).wp P Q a w := by
 have hn : n < l.toArray.size := by simp only [specB, Bool.and_eq_true, decide_eq_true_eq] at hB; exact hB.1.1.1.1.1
 have hn' : n < l.length := by simpa using hn
 refine wp_region_any hm ?_
 have inv0 : HeadInv .any l.toArray n (Array.replicate l.toArray.size false) :=
  ⟨by simp, fun j oj _ hl => (by rw [getD_replicate_false] at hl; cases hl), fun t _ ht => getD_in (by simpa using ht) (getD_replicate_false _ _)⟩
 have hcnt : ((List.range n).filter fun i => !(Array.replicate l.toArray.size false).getD i false).length = n := by
  rw [List.filter_eq_self.2 (fun i _ => by rw [getD_replicate_false]; rfl), List.length_range]
 have := any_of_specs (P := P) (Q := Q) (R := R) (fresh := fresh) (n := n) (a := a) (w := w) (tail := l.drop n) hB hR hop (fun j => by simp [List.getElem?_drop]) (by simp) htail n
  (Array.replicate l.toArray.size false) (slotOf l.toArray a) w.drew inv0 hcnt ⟨fun k _ hl => (by rw [getD_replicate_false] at hl; cases hl), fun k _ hl => (by rw [getD_replicate_false] at hl; cases hl), fun j k _ _ _ hl => (by rw [getD_replicate_false] at hl; cases hl)⟩ ((Below.refl _ _).drew)
 rw [putAll_slot, show n + (l.toArray.size - n) = l.toArray.size by omega] at this
 exact this
def allOps (F : Nat → Oper → Prop) : Nat → List Oper → Prop
 | _, [] => True
 | k, o :: r => F k o ∧ allOps F (k + 1) r
theorem allOps_get {F : Nat → Oper → Prop} : ∀ (l : List Oper) (k : Nat), allOps F k l → ∀ i o, l[i]? = some o → F (k + i) o
 | [], _, _, i, o, h => by simp at h
 | x :: r, k, ⟨h1, h2⟩, 0, o, h => by simp at h; subst h; exact h1
 | x :: r, k, ⟨h1, h2⟩, i + 1, o, h => by
  have := allOps_get r (k + 1) h2 i o (by simpa using h)
  rwa [show k + (i + 1) = k + 1 + i by omega]
theorem wp_region_spec {id : Nat} {Q : Exit → Act → World → Prop} {a : Act} {w : World} {l : List Oper} (n : Nat) (R : Nat → Value → World → Prop) (fresh : Nat → Bool)
  (hm : P.follows .mixedOrders = true) (hB : specB l.toArray n = true) (hR : ∀ k v w w', Below w.heap.size w w' → R k v w → R k v w')
  (hop : allOps (fun i oi => ∀ (u : Nat → Value) (A : Act) (w1 : World), A = putAll l.toArray a u n → Below w.heap.size w w1 → (∀ k, k < n → (depsOf l.toArray i).contains k = true → R k (u k) w1) → wpList P l.toArray (EndOp Q R fresh l.toArray i A w1) [oi] A w1) 0 (l.take n))
  (htail : ∀ (u : Nat → Value) (A : Act) (w1 : World), A = putAll l.toArray a u n → Below w.heap.size w w1 → (∀ k, k < n → R k (u k) w1) → (∀ i j, i < n → j < n → i ≠ j → fresh i = true → fresh j = true → u i ≠ u j) → wpList P l.toArray Q (l.drop n) A w1) :
  (Code.region id l.toArray true).wp P Q a w :=
 wp_region_specs n R fresh hm hB hR (fun i oi hi ho u w1 hb hd => by
  have := allOps_get _ _ hop i oi (by simpa [List.getElem?_take, hi] using ho) u (putAll l.toArray a u n) w1 rfl hb (fun k hk hc => hd k (by simpa using hc) hk)
  rw [Nat.zero_add] at this
  exact this) (fun u w1 => htail u _ w1 rfl)
end
end Go.Proofs.YtlabfpjlckdmfaaGreat
namespace Go.Proofs.YtlabfpjlckdmfaaGreat
open Go Go.RowKit Go.Proofs
section
variable {P : Program} {ops : Array Oper}
def EndOpG (G : Nat → World → World → Prop) (Q : Exit → Act → World → Prop) (R : Nat → Value → World → Prop) (fresh : Nat → Bool) (ops : Array Oper) (i : Nat) (A : Act) (w : World) : Exit → Act → World → Prop
 | .normal, a', w' => ∃ v, a' = A.put (dstOf ops i) v ∧ G i w w' ∧ R i v w' ∧ (fresh i = true → ∃ g, v = .pointer (some ⟨g, 0, none⟩) ∧ w.heap.size ≤ g ∧ g < w'.heap.size)
 | .outgrown, _, _ => LetsOut Q
 | _, _, _ => False
theorem lets_endG {G : Nat → World → World → Prop} {Q : Exit → Act → World → Prop} {R : Nat → Value → World → Prop} {fresh : Nat → Bool} {i : Nat} {A : Act} {w : World} (h : LetsOut (EndOpG G Q R fresh ops i A w)) : LetsOut Q := by
 obtain ⟨a, w', h⟩ := h; exact h
theorem wpOp_of_endG {G : Nat → World → World → Prop} {Q : Exit → Act → World → Prop} {R : Nat → Value → World → Prop} {fresh : Nat → Bool} {i : Nat} {oi : Oper} {A : Act} {w : World} {K : Act → World → Prop} (hi : ops[i]? = some oi)
  (h : wpList P ops (EndOpG G Q R fresh ops i A w) [oi] A w)
  (hK : ∀ v w', G i w w' → R i v w' → (fresh i = true → ∃ g, v = .pointer (some ⟨g, 0, none⟩) ∧ w.heap.size ≤ g ∧ g < w'.heap.size) → K (A.put (dstOf ops i) v) w') : wpOp P ops Q i K A w := by
 have hd : dstOf ops i = oi.dst := by simp [dstOf, hi]
 have hK' : ∀ a' w', EndOpG G Q R fresh ops i A w .normal a' w' → K a' w' := by
  rintro a' w' ⟨v, rfl, h1, h2, h3⟩; exact hK v w' h1 h2 h3
 unfold wpOp
 simp only [hi]
 unfold wpList at h
 split at h
 ·rename_i hw
  simp only [hw, if_true]
  rcases h with h | ⟨h1, h2⟩
  ·left
   unfold Oper.wp at *
   generalize (execOp A.eval oi).run P w = r at *
   cases r with
   | ok n w' =>
    cases n <;> simp only [Oper.upon, wpList] at h ⊢ <;>
     first
      | exact hK' _ _ h
      | exact Calls.mono h (fun e w'' he => by cases e <;> first | exact hK' _ _ he | exact he.elim | exact lets_endG he)
      | exact Rows.mono h (fun _ _ he => hK' _ _ he)
   | halt x w' => cases x <;> simp only [Oper.upon] at h ⊢ <;> exact h.elim
  ·exact Or.inr ⟨h1, lets_endG h2⟩
 ·rename_i hw
  simp only [hw]
  exact hK' _ _ h
structure SpecInvG (I : Nat → World → Prop) (ops : Array Oper) (R : Nat → Value → World → Prop) (fresh : Nat → Bool) (n : Nat) (listed : Array Bool) (u : Nat → Value) (w : World) : Prop where
 o : ∀ k, k < n → listed.getD k false = false → I k w
 r : ∀ k, k < n → listed.getD k false = true → R k (u k) w
 f : ∀ k, k < n → listed.getD k false = true → fresh k = true → ∃ g, u k = .pointer (some ⟨g, 0, none⟩) ∧ g < w.heap.size
 d : ∀ j k, j < n → k < n → j ≠ k → listed.getD j false = true → listed.getD k false = true → fresh j = true → fresh k = true → u j ≠ u k
end
end Go.Proofs.YtlabfpjlckdmfaaGreat
namespace Go.Proofs.YtlabfpjlckdmfaaGreat
open Go Go.RowKit Go.Proofs
theorem below_of_none {w w' : World} (h : w.grownBy w' none) : Below w.heap.size w w' := (Below.refl _ _).grown h (Nat.le_refl _) (fun g hg => by cases hg)
theorem ownsRow_below {w w' : World} {base : Nat} {e : TypeId} {size : Nat} {v : Value} {n : Nat} {xs : List Value} (h : w.ownsRow base e size v n xs) (hb : Below w.heap.size w w') : w'.ownsRow base e size v n xs := by
 refine ⟨h.1, ?_⟩
 rcases h.2 with h2 | ⟨g, cap, cur, r1, r2, r3, r4⟩
 ·exact .inl h2
 ·exact .inr ⟨g, cap, cur, r1, r2, (hb.block g (Array.getElem?_eq_some_iff.1 r3).1).trans r3, r4⟩
theorem ownsRow_base {w : World} {base b2 : Nat} {e : TypeId} {size : Nat} {v : Value} {n : Nat} {xs : List Value} (h : w.ownsRow base e size v n xs) (hb : b2 ≤ base) : w.ownsRow b2 e size v n xs := by
 refine ⟨h.1, ?_⟩
 rcases h.2 with h2 | ⟨g, cap, cur, r1, r2, r3⟩
 ·exact .inl h2
 ·exact .inr ⟨g, cap, cur, r1, Nat.le_trans hb r2, r3⟩
theorem Ints.of_owns {w : World} {base : Nat} {e : TypeId} {v : Value} {xs : List Int} (h : w.ownsRow base e 1 v xs.length ((List.range xs.length).map fun k => .int .i64 (nth xs k))) (h64 : ∀ x ∈ xs, I64 x) : Ints w v xs := by
 rcases h.2 with ⟨rfl, hz⟩ | ⟨g, cap, cur, rfl, h1, h2, h3, h4, h5, h6⟩
 ·exact ⟨none, 0, by rw [hz], by omega, by omega, h64, fun hp => by omega⟩
 ·refine ⟨some ⟨g, 0, none⟩, cap, rfl, h3, by unfold maxLen at h4; omega, h64, fun hp => ⟨g, 0, rfl, (Array.getElem?_eq_some_iff.1 h2).1, fun k hk => ?_⟩⟩
  have := h.cellAt (g := g) k (by omega)
  rw [Nat.zero_add, this]
  simp [hk]
theorem Rows.of_owns {w : World} {base : Nat} {e : TypeId} {v : Value} {us : List Value} {V : List (List Int)} (h : w.ownsRow base e 1 v V.length us) (hr : ∀ j, j < V.length → Ints w (us.getD j undef) (nthR V j)) : Rows w v V := by
 rcases h.2 with ⟨rfl, hz⟩ | ⟨g, cap, cur, rfl, h1, h2, h3, h4, h5, h6⟩
 ·exact ⟨none, 0, fun _ => undef, by rw [hz], by omega, by omega, fun hp => by omega, fun k hk => by omega⟩
 ·refine ⟨some ⟨g, 0, none⟩, cap, fun k => us.getD k undef, rfl, h3, by unfold maxLen at h4; omega, fun hp => ⟨g, 0, rfl, (Array.getElem?_eq_some_iff.1 h2).1, fun k hk => ?_⟩, hr⟩
  have := h.cellAt (g := g) k (by omega)
  rw [Nat.zero_add, this]
  have hl := h.1
  rw [List.getElem?_eq_getElem (by omega)]
  simp [List.getD, List.getElem?_eq_getElem (show k < us.length by omega)]
end Go.Proofs.YtlabfpjlckdmfaaGreat
namespace Go.Proofs.YtlabfpjlckdmfaaGreat
open Go Go.RowKit Go.Proofs
end Go.Proofs.YtlabfpjlckdmfaaGreat
