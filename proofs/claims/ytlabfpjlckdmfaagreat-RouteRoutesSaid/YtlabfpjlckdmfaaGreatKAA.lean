/- Texts joined: KAA. -/
import Derived.Test.YtlabfpjlckdmfaaGreatProg
import Derived.Test.YtlabfpjlckdmfaaGreatKZA
import Derived.RangeFuncNested
import Derived.RangeFuncBound
import Derived.RangeFuncCalls
import Derived.RangeFuncLeaves
import Derived.Shelf.RegionOpen
import Derived.OwnWalkIn
import Derived.TacticsInMore
import Derived.LoopNIn
import Derived.LoopIn
set_option linter.all false
namespace Go.Proofs.YtlabfpjlckdmfaaGreat
open Go Go.RowKit Go.Proofs
def SpansAt (w : World) (A : Option Addr) (n : Nat) (lo hi : Nat → Int) : Prop :=
 0 < n → ∃ b off, A = some ⟨b, off, none⟩ ∧ b < w.heap.size ∧ ∀ k, k < n → w.cell? ⟨b, off + k * 2, none⟩ = some (.int .i64 (lo k)) ∧ w.cell? ⟨b, off + k * 2 + 1, none⟩ = some (.int .i64 (hi k))
set_option maxHeartbeats 400000 in
theorem ixSpan_c (A : Option Addr) (n c : Nat) (lo hi : Nat → Int) (g : Nat) (lb : Array Value) (p : Nat → Bool) (w : World) (hn : n ≤ 9223372036854775807)
  (eg : ∀ args w, (callFunc g args).run Tryz.prog w = .ok (.enter g args) w)
  (hA : SpansAt w A n lo hi) (hp : PredB Tryz.prog g lb n (fun i => .agg #[.int .i64 (lo i), .int .i64 (hi i)]) p w) :
  Calls Tryz.prog 147 #[.slice A n c, .func (.func g) #[] lb] w fun e w' => e = .returned (.int .i64 (firstIx p n)) ∧ Below w.heap.size w w' := by
 go_enter Tryz.func147, Tryz.ntmps147
 go_wp2
 go_loopw [5, 8] (fun _ s8 wr => ∃ k : Nat, k ≤ n ∧ s8 = .int .i64 k ∧ Hid (Below w.heap.size w wr) ∧ Hid (∀ j, j < k → p j = false)) (fun _ i _ => n - (intOf i).toNat)
 case atStart => exact ⟨0, by omega, rfl, Below.refl _ _, fun j hj => absurd hj (by omega)⟩
 case round =>
  obtain ⟨k, hk, rfl, hB, hF⟩ := hrel
  by_cases hlt : k < n
  ·obtain ⟨b, off, rfl, hb, hc⟩ := hA (by omega)
   have h0 := (hB.out.cell (p := ⟨b, off + k * 2, none⟩) hb).trans (hc k hlt).1
   have h1 := (hB.out.cell (p := ⟨b, off + k * 2 + 1, none⟩) hb).trans (hc k hlt).2
   have hcall := hp wr k hlt hB.out
   clear hc hA hp
   cases hq : p k with
   | true =>
    rw [hq] at hcall
    have HQ := hI9 hq
    clear hq
    go_wp2_with (go_at_fn g; refine hcall.mono ?_; rintro e w1 ⟨rfl, hb1⟩)
    go_ret
    exact ⟨ret_int (firstIx_hit p n k hlt HQ.out hF.out).symm, hB.out.trans (hb1.mono hB.out.size)⟩
   | false =>
    rw [hq] at hcall
    have HQ := hI9 hq
    clear hq
    go_wp2_with (go_at_fn g; refine hcall.mono ?_; rintro e w1 ⟨rfl, hb1⟩)
    go_roundw
    case rel => exact ⟨k + 1, by omega, by go_num, hB.out.trans (hb1.mono hB.out.size), fun j hj => by
     by_cases e : j = k
     ·subst e; exact HQ.out
     ·exact hF.out j (by omega)⟩
    case measure => simp [intOf]; omega
  ·obtain rfl : k = n := by omega
   clear hA hp
   go_wp2
   go_ret
   exact ⟨ret_int (firstIx_miss p k hF.out).symm, hB.out⟩
theorem cfSpan_c (A : Option Addr) (n c : Nat) (lo hi : Nat → Int) (g : Nat) (lb : Array Value) (p : Nat → Bool) (w : World) (hn : n ≤ 9223372036854775807)
  (eg : ∀ args w, (callFunc g args).run Tryz.prog w = .ok (.enter g args) w)
  (hA : SpansAt w A n lo hi) (hp : PredB Tryz.prog g lb n (fun i => .agg #[.int .i64 (lo i), .int .i64 (hi i)]) p w) :
  Calls Tryz.prog 129 #[.slice A n c, .func (.func g) #[] lb] w fun e w' => e = .returned (.bool ((List.range n).any p)) ∧ Below w.heap.size w w' := by
 rw [← firstIx_nonneg p n]
 go_enter Tryz.func129, Tryz.ntmps129
 go_wp2_with (go_at_call 147; refine (ixSpan_c _ _ _ _ _ _ _ _ _ hn eg hA hp).mono ?_; rintro e w1 ⟨rfl, hb1⟩)
 go_ret
 exact ⟨rfl, hb1⟩
def IntsAt (w : World) (A : Option Addr) (n : Nat) (xs : Nat → Int) : Prop :=
 0 < n → ∃ b off, A = some ⟨b, off, none⟩ ∧ b < w.heap.size ∧ ∀ k, k < n → w.cell? ⟨b, off + k, none⟩ = some (.int .i64 (xs k))
set_option maxHeartbeats 400000 in
theorem ixInt_c (A : Option Addr) (n c : Nat) (xs : Nat → Int) (g : Nat) (lb : Array Value) (p : Nat → Bool) (w : World) (hn : n ≤ 9223372036854775807)
  (eg : ∀ args w, (callFunc g args).run Tryz.prog w = .ok (.enter g args) w)
  (hA : IntsAt w A n xs) (hp : PredB Tryz.prog g lb n (fun i => .int .i64 (xs i)) p w) :
  Calls Tryz.prog 91 #[.slice A n c, .func (.func g) #[] lb] w fun e w' => e = .returned (.int .i64 (firstIx p n)) ∧ Below w.heap.size w w' := by
 go_enter Tryz.func91, Tryz.ntmps91
 go_wp2
 go_loopw [5, 8] (fun _ s8 wr => ∃ k : Nat, k ≤ n ∧ s8 = .int .i64 k ∧ Hid (Below w.heap.size w wr) ∧ Hid (∀ j, j < k → p j = false)) (fun _ i _ => n - (intOf i).toNat)
 case atStart => exact ⟨0, by omega, rfl, Below.refl _ _, fun j hj => absurd hj (by omega)⟩
 case round =>
  obtain ⟨k, hk, rfl, hB, hF⟩ := hrel
  by_cases hlt : k < n
  ·obtain ⟨b, off, rfl, hb, hc⟩ := hA (by omega)
   have h0 := (hB.out.cell (p := ⟨b, off + k, none⟩) hb).trans (hc k hlt)
   have hcall := hp wr k hlt hB.out
   clear hc hA hp
   cases hq : p k with
   | true =>
    rw [hq] at hcall
    have HQ := hI9 hq
    clear hq
    go_wp2_with (go_at_fn g; refine hcall.mono ?_; rintro e w1 ⟨rfl, hb1⟩)
    go_ret
    exact ⟨ret_int (firstIx_hit p n k hlt HQ.out hF.out).symm, hB.out.trans (hb1.mono hB.out.size)⟩
   | false =>
    rw [hq] at hcall
    have HQ := hI9 hq
    clear hq
    go_wp2_with (go_at_fn g; refine hcall.mono ?_; rintro e w1 ⟨rfl, hb1⟩)
    go_roundw
    case rel => exact ⟨k + 1, by omega, by go_num, hB.out.trans (hb1.mono hB.out.size), fun j hj => by
     by_cases e : j = k
     ·subst e; exact HQ.out
     ·exact hF.out j (by omega)⟩
    case measure => simp [intOf]; omega
  ·obtain rfl : k = n := by omega
   clear hA hp
   go_wp2
   go_ret
   exact ⟨ret_int (firstIx_miss p k hF.out).symm, hB.out⟩
theorem cfInt_c (A : Option Addr) (n c : Nat) (xs : Nat → Int) (g : Nat) (lb : Array Value) (p : Nat → Bool) (w : World) (hn : n ≤ 9223372036854775807)
  (eg : ∀ args w, (callFunc g args).run Tryz.prog w = .ok (.enter g args) w)
  (hA : IntsAt w A n xs) (hp : PredB Tryz.prog g lb n (fun i => .int .i64 (xs i)) p w) :
  Calls Tryz.prog 76 #[.slice A n c, .func (.func g) #[] lb] w fun e w' => e = .returned (.bool ((List.range n).any p)) ∧ Below w.heap.size w w' := by
 rw [← firstIx_nonneg p n]
 go_enter Tryz.func76, Tryz.ntmps76
 go_wp2_with (go_at_call 91; refine (ixInt_c _ _ _ _ _ _ _ _ hn eg hA hp).mono ?_; rintro e w1 ⟨rfl, hb1⟩)
 go_ret
 exact ⟨rfl, hb1⟩
end Go.Proofs.YtlabfpjlckdmfaaGreat

namespace Go.Proofs.YtlabfpjlckdmfaaGreat
open Go Go.RowKit Go.Proofs
def inB (n lo hi : Int) : Bool := decide (lo ≤ n) && decide (n ≤ hi)
theorem within_c (n lo hi : Int) (w : World) :
  Calls Tryz.prog 118 #[.int .i64 n, .int .i64 lo, .int .i64 hi] w fun e w' => e = .returned (.bool (inB n lo hi)) ∧ w = w' := by
 by_cases h : lo ≤ n
 ·go_enter Tryz.func118, Tryz.ntmps118
  go_wp2
  go_ret
  simp [inB, h]
 ·have h2 : decide (lo ≤ n) = false := by simpa using h
  go_enter Tryz.func118, Tryz.ntmps118
  go_wp2
  go_ret
  simp [inB, h2]
def vspan (lo hi : Int) : Bool := inB lo (-1000000) hi && decide (hi ≤ 1000000)
theorem valid_c (lo hi : Int) (w : World) :
  Calls Tryz.prog 131 #[.agg #[.int .i64 lo, .int .i64 hi]] w fun e w' => e = .returned (.bool (vspan lo hi)) ∧ Below w.heap.size w w' := by
 cases h : inB lo (-1000000) hi
 all_goals
  go_enter Tryz.func131, Tryz.ntmps131
  go_wp2_with (go_at_call 118; refine (within_c _ _ _ _).mono ?_; rintro e w1 ⟨rfl, rfl⟩)
  go_ret
  exact ⟨by simp [vspan, h], (Below.refl _ _).alloc (Nat.le_refl _) _⟩
end Go.Proofs.YtlabfpjlckdmfaaGreat
namespace Go.Proofs.YtlabfpjlckdmfaaGreat
open Go Go.RowKit Go.Proofs
theorem spanned1_c (lo hi : Int) (w : World) :
  Calls Tryz.prog 130 #[.agg #[.int .i64 lo, .int .i64 hi]] w fun e w' => e = .returned (.bool (!vspan lo hi)) ∧ Below w.heap.size w w' := by
 go_enter Tryz.func130, Tryz.ntmps130
 go_wp2_with (go_at_call 131; refine (valid_c _ _ _).mono ?_; rintro e w1 ⟨rfl, hb1⟩)
 go_ret
 exact ⟨rfl, ((Below.refl _ _).alloc (Nat.le_refl _) _).trans (hb1.mono (by simp))⟩
def anyBad (n : Nat) (lo hi : Nat → Int) : Bool := (List.range n).any fun i => !vspan (lo i) (hi i)
def spanE (bad : Bool) : Int := if bad then 10 else 0
theorem spanE_t : spanE true = 10 := rfl
theorem spanE_f : spanE false = 0 := rfl
theorem spanned_c (A : Option Addr) (n c : Nat) (lo hi : Nat → Int) (w : World) (hn : n ≤ 9223372036854775807) (hA : SpansAt w A n lo hi) :
  Calls Tryz.prog 119 #[.slice A n c] w fun e w' => e = .returned (.int .i64 (spanE (anyBad n lo hi))) ∧ Below w.heap.size w w' := by
 have hcf := cfSpan_c A n c lo hi 130 #[] (fun i => !vspan (lo i) (hi i)) w hn (enters_of Tryz.func130 (by kernel_rfl) rfl) hA
  (fun W i _ hb => by simpa using spanned1_c (lo i) (hi i) W)
 have hcf' : Calls Tryz.prog 129 #[.slice A n c, .func (.func 130) #[] #[]] w fun e w' => e = .returned (.bool (anyBad n lo hi)) ∧ Below w.heap.size w w' := hcf
 have HC := hI9 hcf'
 clear hcf hcf'
 cases h : anyBad n lo hi
 all_goals
  rw [h] at HC
  have HH := hI9 h
  clear h
  go_enter Tryz.func119, Tryz.ntmps119
  go_wp2_with (go_at_call 129; refine HC.out.mono ?_; rintro e w1 ⟨rfl, hb1⟩)
  go_ret
  exact ⟨rfl, hb1⟩
theorem spCheck_c (A : Option Addr) (n c : Nat) (lo hi : Nat → Int) (w : World) (hn : n ≤ 9223372036854775807) (hA : SpansAt w A n lo hi) :
  Calls Tryz.prog 105 #[.slice A n c] w fun e w' => e = .returned (.int .i64 (spanE (!inB n 1 3 || anyBad n lo hi))) ∧ Below w.heap.size w w' := by
 have hs := spanned_c A n c lo hi w hn hA
 have HC := hI9 hs
 clear hs
 cases h : inB n 1 3
 ·go_enter Tryz.func105, Tryz.ntmps105
  go_wp2_with (go_at_call 118; refine (within_c _ _ _ _).mono ?_; rintro e w1 ⟨rfl, rfl⟩)
  go_ret
  exact ⟨rfl, Below.refl _ _⟩
 ·go_enter Tryz.func105, Tryz.ntmps105
  go_wp2_with (first | (go_at_call 118; refine (within_c _ _ _ _).mono ?_; rintro e w1 ⟨rfl, rfl⟩) | (go_at_call 119; refine HC.out.mono ?_; rintro e w1 ⟨rfl, hb1⟩))
  go_ret
  exact ⟨rfl, hb1⟩
def okKnot (l : List Int) (i : Nat) : Bool := inB (nth l i) (-1000000) 1000000 && (i == 0 || inB (nth l i - nth l (i - 1)) 1 10000)
def axisB (l : List Int) : Bool := inB l.length 2 12 && (List.range l.length).all (okKnot l)
theorem inB_iff {n lo hi : Int} : inB n lo hi = true ↔ lo ≤ n ∧ n ≤ hi := by simp [inB]
end Go.Proofs.YtlabfpjlckdmfaaGreat
namespace Go.Proofs.YtlabfpjlckdmfaaGreat
open Go Go.RowKit Go.Proofs
def anyOut (r : List Int) : Bool := (List.range r.length).any fun i => !inB (nth r i) (-1000000) 1000000
def rowBad (ny : Nat) (r : List Int) : Bool := (r.length : Int) != (ny : Int) || anyOut r
def anyRowBad (ny : Nat) (V : List (List Int)) : Bool := (List.range V.length).any fun i => rowBad ny (nthR V i)
def tblB (T : Tbl) : Bool := axisB T.X && axisB T.Y && !((T.V.length : Int) != (T.X.length : Int)) && !anyRowBad T.Y.length T.V
end Go.Proofs.YtlabfpjlckdmfaaGreat
namespace Go.Proofs.YtlabfpjlckdmfaaGreat
open Go Go.RowKit Go.Proofs
def liesB (xs : List Int) (lo hi : Int) : Bool := decide (nth xs 0 ≤ lo) && decide (hi ≤ nth xs (xs.length - 1))
theorem anyBad2 (lo hi : Nat → Int) : anyBad 2 lo hi = (!vspan (lo 0) (hi 0) || !vspan (lo 1) (hi 1)) := by
 simp [anyBad, List.range_succ]
theorem anyBad1 (lo hi : Nat → Int) : anyBad 1 lo hi = !vspan (lo 0) (hi 0) := by
 simp [anyBad, List.range_succ]
theorem spanned2_c (b c : Nat) (xl xh yl yh : Int) (w : World) (h0 : w.cell? ⟨b, 0, none⟩ = some (.int .i64 xl)) (h1 : w.cell? ⟨b, 1, none⟩ = some (.int .i64 xh))
  (h2 : w.cell? ⟨b, 2, none⟩ = some (.int .i64 yl)) (h3 : w.cell? ⟨b, 3, none⟩ = some (.int .i64 yh)) :
  Calls Tryz.prog 119 #[.slice (some ⟨b, 0, none⟩) 2 c] w fun e w' => e = .returned (.int .i64 (spanE (!vspan xl xh || !vspan yl yh))) ∧ Below w.heap.size w w' := by
 have h := spanned_c (some ⟨b, 0, none⟩) 2 c (fun i => if i = 0 then xl else yl) (fun i => if i = 0 then xh else yh) w (by omega)
  (fun _ => ⟨b, 0, rfl, blk_lt h0, fun k hk => by
   rcases (show k = 0 ∨ k = 1 by omega) with rfl | rfl
   ·simpa using ⟨h0, h1⟩
   ·simpa using ⟨h2, h3⟩⟩)
 rw [anyBad2] at h
 exact h
def cpE (T : Tbl) (xl xh yl yh : Int) : Int :=
 if tblB T then (if vspan xl xh && vspan yl yh then (if liesB T.X xl xh && liesB T.Y yl yh then 0 else 1) else 10) else 11
end Go.Proofs.YtlabfpjlckdmfaaGreat
namespace Go.Proofs.YtlabfpjlckdmfaaGreat
open Go Go.RowKit Go.Proofs
end Go.Proofs.YtlabfpjlckdmfaaGreat

namespace Go.Proofs.YtlabfpjlckdmfaaGreat
open Go Go.RowKit Go.Proofs
def num (T : Tbl) (i k : Nat) (x y : Int) : Int :=
 (nth T.X (i + 1) - x) * (nth T.Y (k + 1) - y) * nth (nthR T.V i) k + (x - nth T.X i) * (nth T.Y (k + 1) - y) * nth (nthR T.V (i + 1)) k
  + (nth T.X (i + 1) - x) * (y - nth T.Y k) * nth (nthR T.V i) (k + 1) + (x - nth T.X i) * (y - nth T.Y k) * nth (nthR T.V (i + 1)) (k + 1)
end Go.Proofs.YtlabfpjlckdmfaaGreat

namespace Go.Proofs.YtlabfpjlckdmfaaGreat
open Go Go.RowKit Go.Proofs
end Go.Proofs.YtlabfpjlckdmfaaGreat

namespace Go.Proofs.YtlabfpjlckdmfaaGreat
open Go Go.RowKit Go.Proofs Go.Shelf
attribute [local go_sem] Oper.semAt_some
open Classical in
def OnT (T : Tbl) (x y : Int) : Prop := nth T.X 0 ≤ x ∧ x ≤ nth T.X (T.X.length - 1) ∧ nth T.Y 0 ≤ y ∧ y ≤ nth T.Y (T.Y.length - 1)
def KeepC (S : Nat → Prop) (A B : World) : Prop := A.heap.size ≤ B.heap.size ∧ ∀ k c t f, A.heap[k]? = some (.cells c t f) → ¬ S k → B.heap[k]? = some (.cells c t f)
theorem KeepC.trans {S : Nat → Prop} {A B C : World} (h : KeepC S A B) (k : KeepC S B C) : KeepC S A C :=
 ⟨Nat.le_trans h.1 k.1, fun i c t f hi hs => k.2 i c t f (h.2 i c t f hi hs) hs⟩
theorem KeepC.put {S : Nat → Prop} (W : World) (l : Nat) (o o' : Obj) (h : W.heap[l]? = some o) (ho : o.isCells = false) : KeepC S W (W.putObj l o') :=
 ⟨by simp, fun k c t f hk _ => by
  by_cases e : k = l
  ·subst e; rw [h] at hk; cases hk; simp [Obj.isCells] at ho
  ·exact (World.putObj_heap_other e).trans hk⟩
theorem KeepC.cell {S : Nat → Prop} {A B : World} (h : KeepC S A B) {b o : Nat} {v : Value} (hc : A.cell? ⟨b, o, none⟩ = some v) (hs : ¬ S b) : B.cell? ⟨b, o, none⟩ = some v := by
 unfold World.cell? at hc ⊢
 split at hc
 ·rename_i c e f hb
  rw [show B.heap[(⟨b, o, none⟩ : Addr).block]? = some (.cells c e f) from h.2 b c e f hb hs]
  exact hc
 ·simp at hc
end Go.Proofs.YtlabfpjlckdmfaaGreat
namespace Go.Proofs.YtlabfpjlckdmfaaGreat
open Go Go.RowKit Go.Proofs Go.Shelf
attribute [local go_sem] Oper.semAt_some
end Go.Proofs.YtlabfpjlckdmfaaGreat

namespace Go.Proofs.YtlabfpjlckdmfaaGreat
open Go Go.RowKit Go.Proofs Go.Shelf
attribute [local go_sem] Oper.semAt_some
def Blk (W : World) (g : Nat) (t : TypeId) (cs : Array Value) : Prop := W.heap[g]? = some (.cells cs t (0, 0))
theorem Blk.lt {W : World} {g : Nat} {t : TypeId} {cs : Array Value} (h : Blk W g t cs) : g < W.heap.size := (Array.getElem?_eq_some_iff.1 h).1
theorem Blk.cell {W : World} {g : Nat} {t : TypeId} {cs : Array Value} (h : Blk W g t cs) (i : Nat) : W.cell? ⟨g, i, none⟩ = cs[i]? := by simp [World.cell?, show W.heap[g]? = _ from h]
theorem Blk.frozen {W : World} {g : Nat} {t : TypeId} {cs : Array Value} (h : Blk W g t cs) (i : Nat) : W.frozen? ⟨g, i, none⟩ = false := by simp [World.frozen?, show W.heap[g]? = _ from h]
theorem Blk.new (W : World) (t : TypeId) (cs : Array Value) : Blk (W.alloc (.cells cs t)) W.heap.size t cs := World.alloc_heap_new W _
theorem Blk.alloc {W : World} {g : Nat} {t : TypeId} {cs : Array Value} (h : Blk W g t cs) (o : Obj) : Blk (W.alloc o) g t cs := (Below.heap_alloc W o g h.lt).trans h
theorem Blk.below {W W' : World} {g : Nat} {t : TypeId} {cs : Array Value} (h : Blk W g t cs) (hb : Below W.heap.size W W') : Blk W' g t cs := (hb.block g h.lt).trans h
theorem Blk.set_ {W : World} {g : Nat} {t : TypeId} {cs : Array Value} (h : Blk W g t cs) (i : Nat) (u : Value) : Blk (W.setCell ⟨g, i, none⟩ u) g t (cs.setIfInBounds i u) := by
 obtain ⟨hlt, hk⟩ := Array.getElem?_eq_some_iff.1 h
 show (W.heap.modify g _)[g]? = _
 rw [Array.getElem?_eq_getElem (by rw [Array.size_modify]; exact hlt), Array.getElem_modify_self, hk]
 rfl
theorem Blk.far {W : World} {g : Nat} {t : TypeId} {cs : Array Value} (h : Blk W g t cs) {p : Addr} (hp : g ≠ p.block) (u : Value) : Blk (W.setCell p u) g t cs := (Below.heap_setCell W p u g hp).trans h
theorem Blk.far' {W : World} {g f i : Nat} {t : TypeId} {cs : Array Value} (h : Blk W g t cs) (hf : g ≠ f) (u : Value) : Blk (W.setCell ⟨f, i, none⟩ u) g t cs := h.far (p := ⟨f, i, none⟩) hf u
theorem bset {B g i : Nat} {W W' : World} (h : Below B W W') (hg : B ≤ g) (u : Value) : Below B W (W'.setCell ⟨g, i, none⟩ u) := h.setCell (p := ⟨g, i, none⟩) hg u
theorem Blk.put {W : World} {g D : Nat} {t : TypeId} {cs : Array Value} (h : Blk W g t cs) (hg : g ≠ D) (o : Obj) : Blk (W.drew.putObj D o) g t cs := by
 show (W.heap.setIfInBounds D o)[g]? = _
 rw [Array.getElem?_setIfInBounds_ne (Ne.symm hg)]
 exact h
end Go.Proofs.YtlabfpjlckdmfaaGreat

namespace Go.Proofs.YtlabfpjlckdmfaaGreat
open Go Go.RowKit Go.Proofs
theorem Blk.newAt {g : Nat} (W : World) (t : TypeId) (cs : Array Value) (hg : g = W.heap.size) : Blk (W.alloc (.cells cs t)) g t cs := by rw [hg]; exact Blk.new W t cs
theorem frm1 (w : World) (c1 : Array Value) (T1 : TypeId) : Blk (w.alloc (.cells c1 T1)) (w.heap.size) T1 c1 ∧ Below w.heap.size w (w.alloc (.cells c1 T1)) ∧ w.heap.size < (w.alloc (.cells c1 T1)).heap.size :=
 ⟨(Blk.newAt (g := w.heap.size) _ T1 c1 rfl), (bal (Below.refl _ _) _), Blk.lt (t := T1) (cs := c1) (Blk.newAt (g := w.heap.size) _ T1 c1 rfl)⟩
theorem frm2 (w : World) (c1 : Array Value) (T1 : TypeId) (c2 : Array Value) (T2 : TypeId) : Blk ((w.alloc (.cells c1 T1)).alloc (.cells c2 T2)) (w.heap.size) T1 c1 ∧ Blk ((w.alloc (.cells c1 T1)).alloc (.cells c2 T2)) (w.heap.size + 1) T2 c2 ∧ Below w.heap.size w ((w.alloc (.cells c1 T1)).alloc (.cells c2 T2)) ∧ w.heap.size + 1 < ((w.alloc (.cells c1 T1)).alloc (.cells c2 T2)).heap.size :=
 ⟨((Blk.newAt (g := w.heap.size) _ T1 c1 rfl).alloc _), (Blk.newAt (g := w.heap.size + 1) _ T2 c2 (by simp)), (bal (bal (Below.refl _ _) _) _), Blk.lt (t := T2) (cs := c2) (Blk.newAt (g := w.heap.size + 1) _ T2 c2 (by simp))⟩
theorem frm3 (w : World) (c1 : Array Value) (T1 : TypeId) (c2 : Array Value) (T2 : TypeId) (c3 : Array Value) (T3 : TypeId) : Blk (((w.alloc (.cells c1 T1)).alloc (.cells c2 T2)).alloc (.cells c3 T3)) (w.heap.size) T1 c1 ∧ Blk (((w.alloc (.cells c1 T1)).alloc (.cells c2 T2)).alloc (.cells c3 T3)) (w.heap.size + 1) T2 c2 ∧ Blk (((w.alloc (.cells c1 T1)).alloc (.cells c2 T2)).alloc (.cells c3 T3)) (w.heap.size + 1 + 1) T3 c3 ∧ Below w.heap.size w (((w.alloc (.cells c1 T1)).alloc (.cells c2 T2)).alloc (.cells c3 T3)) ∧ w.heap.size + 1 + 1 < (((w.alloc (.cells c1 T1)).alloc (.cells c2 T2)).alloc (.cells c3 T3)).heap.size :=
 ⟨(((Blk.newAt (g := w.heap.size) _ T1 c1 rfl).alloc _).alloc _), ((Blk.newAt (g := w.heap.size + 1) _ T2 c2 (by simp)).alloc _), (Blk.newAt (g := w.heap.size + 1 + 1) _ T3 c3 (by simp)), (bal (bal (bal (Below.refl _ _) _) _) _), Blk.lt (t := T3) (cs := c3) (Blk.newAt (g := w.heap.size + 1 + 1) _ T3 c3 (by simp))⟩
theorem frm4 (w : World) (c1 : Array Value) (T1 : TypeId) (c2 : Array Value) (T2 : TypeId) (c3 : Array Value) (T3 : TypeId) (c4 : Array Value) (T4 : TypeId) : Blk ((((w.alloc (.cells c1 T1)).alloc (.cells c2 T2)).alloc (.cells c3 T3)).alloc (.cells c4 T4)) (w.heap.size) T1 c1 ∧ Blk ((((w.alloc (.cells c1 T1)).alloc (.cells c2 T2)).alloc (.cells c3 T3)).alloc (.cells c4 T4)) (w.heap.size + 1) T2 c2 ∧ Blk ((((w.alloc (.cells c1 T1)).alloc (.cells c2 T2)).alloc (.cells c3 T3)).alloc (.cells c4 T4)) (w.heap.size + 1 + 1) T3 c3 ∧ Blk ((((w.alloc (.cells c1 T1)).alloc (.cells c2 T2)).alloc (.cells c3 T3)).alloc (.cells c4 T4)) (w.heap.size + 1 + 1 + 1) T4 c4 ∧ Below w.heap.size w ((((w.alloc (.cells c1 T1)).alloc (.cells c2 T2)).alloc (.cells c3 T3)).alloc (.cells c4 T4)) ∧ w.heap.size + 1 + 1 + 1 < ((((w.alloc (.cells c1 T1)).alloc (.cells c2 T2)).alloc (.cells c3 T3)).alloc (.cells c4 T4)).heap.size :=
 ⟨((((Blk.newAt (g := w.heap.size) _ T1 c1 rfl).alloc _).alloc _).alloc _), (((Blk.newAt (g := w.heap.size + 1) _ T2 c2 (by simp)).alloc _).alloc _), ((Blk.newAt (g := w.heap.size + 1 + 1) _ T3 c3 (by simp)).alloc _), (Blk.newAt (g := w.heap.size + 1 + 1 + 1) _ T4 c4 (by simp)), (bal (bal (bal (bal (Below.refl _ _) _) _) _) _), Blk.lt (t := T4) (cs := c4) (Blk.newAt (g := w.heap.size + 1 + 1 + 1) _ T4 c4 (by simp))⟩
structure Fits (T : Tbl) (xl xh yl yh : Int) : Prop where
 t : tblB T = true
 vx : vspan xl xh = true
 vy : vspan yl yh = true
 lx : liesB T.X xl xh = true
 ly : liesB T.Y yl yh = true
theorem Fits.cp {T : Tbl} {xl xh yl yh : Int} (h : Fits T xl xh yl yh) : cpE T xl xh yl yh = 0 := by simp [cpE, h.t, h.vx, h.vy, h.lx, h.ly]
end Go.Proofs.YtlabfpjlckdmfaaGreat

namespace Go.Proofs.YtlabfpjlckdmfaaGreat
open Go Go.RowKit Go.Proofs
set_option maxRecDepth 100000
set_option maxHeartbeats 4000000
def IsSl (v : Value) : Prop := ∃ a n c, v = .slice a n c
end Go.Proofs.YtlabfpjlckdmfaaGreat

namespace Go.Proofs.YtlabfpjlckdmfaaGreat
open Go Go.RowKit Go.Proofs
set_option maxRecDepth 100000
set_option maxHeartbeats 4000000
def lkE (T : Tbl) (xl xh yl yh : Int) : Bool := liesB T.X xl xh && liesB T.Y yl yh
end Go.Proofs.YtlabfpjlckdmfaaGreat

namespace Go.Proofs.YtlabfpjlckdmfaaGreat
open Go Go.RowKit Go.Proofs
structure Tabs where
 h : Tbl
 g : Tbl
 l : Tbl
 p : Tbl
 n : Tbl
 a : Tbl
 c : Tbl
 d : Tbl
structure RotAt (w : World) (hx hy hv gx gy gv lx ly lv px py pv nx ny nv ax ay av cx cy cv dx dy dv : Value) (cl bu : Int) (S : Tabs) : Prop where
 h : TblAt w hx hy hv S.h
 g : TblAt w gx gy gv S.g
 l : TblAt w lx ly lv S.l
 p : TblAt w px py pv S.p
 n : TblAt w nx ny nv S.n
 a : TblAt w ax ay av S.a
 c : TblAt w cx cy cv S.c
 d : TblAt w dx dy dv S.d
 cl : I64 cl
 bu : I64 bu
theorem RotAt.below {w w' : World} {hx hy hv gx gy gv lx ly lv px py pv nx ny nv ax ay av cx cy cv dx dy dv : Value} {cl bu : Int} {S : Tabs} (h : RotAt w hx hy hv gx gy gv lx ly lv px py pv nx ny nv ax ay av cx cy cv dx dy dv cl bu S) (hb : Below w.heap.size w w') : RotAt w' hx hy hv gx gy gv lx ly lv px py pv nx ny nv ax ay av cx cy cv dx dy dv cl bu S :=
 ⟨h.h.below hb, h.g.below hb, h.l.below hb, h.p.below hb, h.n.below hb, h.a.below hb, h.c.below hb, h.d.below hb, h.cl, h.bu⟩
theorem TblAt.s1 {w : World} {x y v : Value} {T : Tbl} (h : TblAt w x y v T) : IsSl x := by obtain ⟨A, c, e, -⟩ := h.x; exact ⟨_, _, _, e⟩
theorem TblAt.s2 {w : World} {x y v : Value} {T : Tbl} (h : TblAt w x y v T) : IsSl y := by obtain ⟨A, c, e, -⟩ := h.y; exact ⟨_, _, _, e⟩
theorem TblAt.s3 {w : World} {x y v : Value} {T : Tbl} (h : TblAt w x y v T) : IsSl v := by obtain ⟨A, c, vs, e, -⟩ := h.v; exact ⟨_, _, _, e⟩
set_option maxRecDepth 100000
set_option maxHeartbeats 4000000
end Go.Proofs.YtlabfpjlckdmfaaGreat
namespace Go.Proofs.YtlabfpjlckdmfaaGreat
open Go Go.RowKit Go.Proofs
set_option maxRecDepth 100000
set_option maxHeartbeats 4000000
end Go.Proofs.YtlabfpjlckdmfaaGreat
namespace Go.Proofs.YtlabfpjlckdmfaaGreat
open Go Go.RowKit Go.Proofs
set_option maxRecDepth 100000
set_option maxHeartbeats 4000000
end Go.Proofs.YtlabfpjlckdmfaaGreat
namespace Go.Proofs.YtlabfpjlckdmfaaGreat
open Go Go.RowKit Go.Proofs
set_option maxRecDepth 100000
set_option maxHeartbeats 4000000
end Go.Proofs.YtlabfpjlckdmfaaGreat

namespace Go.Proofs.YtlabfpjlckdmfaaGreat
open Go Go.RowKit
theorem Fits.on {T : Tbl} {xl xh yl yh x y : Int} (h : Fits T xl xh yl yh) (hx : xl ≤ x ∧ x ≤ xh) (hy : yl ≤ y ∧ y ≤ yh) : OnT T x y := by
 have h1 := h.lx
 have h2 := h.ly
 unfold liesB at h1 h2
 simp only [Bool.and_eq_true, decide_eq_true_eq] at h1 h2
 exact ⟨by omega, by omega, by omega, by omega⟩
end Go.Proofs.YtlabfpjlckdmfaaGreat

namespace Go.Proofs.YtlabfpjlckdmfaaGreat
open Go Go.RowKit
end Go.Proofs.YtlabfpjlckdmfaaGreat
namespace Go.Proofs.YtlabfpjlckdmfaaGreat
open Go Go.RowKit Go.Proofs
end Go.Proofs.YtlabfpjlckdmfaaGreat
namespace Go.Proofs.YtlabfpjlckdmfaaGreat
open Go Go.RowKit Go.Proofs
theorem vspan_iff {l h : Int} : vspan l h = true ↔ -1000000 ≤ l ∧ l ≤ h ∧ h ≤ 1000000 := by
 unfold vspan inB; simp only [Bool.and_eq_true, decide_eq_true_eq]; omega
theorem Fits.sub {T : Tbl} {xl xh yl yh a b : Int} (h : Fits T xl xh yl yh) (h1 : xl ≤ a) (h2 : a ≤ b) (h3 : b ≤ xh) : Fits T a b yl yh := by
 have v := vspan_iff.1 h.vx
 refine ⟨h.t, vspan_iff.2 (by omega), h.vy, ?_, h.ly⟩
 have := h.lx
 unfold liesB at *
 simp only [Bool.and_eq_true, decide_eq_true_eq] at *
 omega
end Go.Proofs.YtlabfpjlckdmfaaGreat

namespace Go.Proofs.YtlabfpjlckdmfaaGreat
open Go Go.RowKit Go.Proofs
set_option maxRecDepth 100000
set_option maxHeartbeats 4000000
theorem Blk.drew {W : World} {g : Nat} {t : TypeId} {cs : Array Value} (h : Blk W g t cs) : Blk W.drew g t cs := h
end Go.Proofs.YtlabfpjlckdmfaaGreat

namespace Go.Proofs.YtlabfpjlckdmfaaGreat
open Go Go.RowKit Go.Proofs
set_option maxRecDepth 100000
set_option maxHeartbeats 4000000
def NewBlk (w0 : Nat) (t : TypeId) (cs : Array Value) (v : Value) (w : World) : Prop := ∃ g, v = .pointer (some ⟨g, 0, none⟩) ∧ w0 ≤ g ∧ Blk w g t cs
theorem NewBlk.below {w0 : Nat} {t : TypeId} {cs : Array Value} {v : Value} {w w' : World} (hb : Below w.heap.size w w') (h : NewBlk w0 t cs v w) : NewBlk w0 t cs v w' := by
 obtain ⟨g, rfl, h1, h2⟩ := h; exact ⟨g, rfl, h1, h2.below hb⟩
end Go.Proofs.YtlabfpjlckdmfaaGreat

namespace Go.Proofs.YtlabfpjlckdmfaaGreat
open Go Go.RowKit Go.Proofs
theorem rf_From_c (n lo hi : Int) (w : World) : Calls Tryz.prog 104 #[.int .i64 n, .int .i64 lo, .int .i64 hi] w fun e w' => e = .returned (.bool (inB n lo hi)) ∧ w = w' := by
 unfold inB
 by_cases h1 : lo ≤ n <;> by_cases h2 : n ≤ hi
 all_goals
  go_enter Tryz.func104, Tryz.ntmps104
  go_wp2
  go_ret
  exact ⟨by simp [h1, h2], rfl⟩
theorem vspan_two {lo hi : Int} : (inB lo (-1000000) 1000000 && inB hi lo 1000000) = vspan lo hi := by
 rw [Bool.eq_iff_iff]; unfold vspan inB; simp only [Bool.and_eq_true, decide_eq_true_eq]; omega
theorem rf_Valid_c (lo hi : Int) (w : World) : Calls Tryz.prog 87 #[.agg #[.int .i64 lo, .int .i64 hi]] w fun e w' => e = .returned (.bool (vspan lo hi)) ∧ Below w.heap.size w w' := by
 rw [← vspan_two]
 cases h1 : inB lo (-1000000) 1000000
 all_goals
  go_enter Tryz.func87, Tryz.ntmps87
  go_wp2_with (first | (go_at_call 104; (with_reducible refine (rf_From_c _ _ _ _).mono ?_); rintro e w1 ⟨rfl, rfl⟩))
  go_ret
  exact ⟨by simp, (by repeat' (first | exact Below.refl _ _ | assumption | refine Below.drew ?_ | refine bdn ?_ _ | refine bal ?_ _ | refine Below.setCell ?_ (by first | (simp; done) | omega | (simp; omega)) _))⟩
theorem rf_two_c (al ah bl bh : Int) (w : World) : Calls Tryz.prog 154 #[.agg #[.int .i64 al, .int .i64 ah], .agg #[.int .i64 bl, .int .i64 bh]] w fun e w' => e = .returned (.int .i64 (spanE (!vspan al ah || !vspan bl bh))) ∧ Below w.heap.size w w' := by
 cases h1 : vspan al ah <;> cases h2 : vspan bl bh
 all_goals
  go_enter Tryz.func154, Tryz.ntmps154
  go_wp2_with (first | (go_at_call 87; (with_reducible refine (rf_Valid_c _ _ _).mono ?_); rintro e w1 ⟨rfl, hb1⟩; have hB1 := bthen (show Below w.heap.size w _ from (by repeat' (first | exact Below.refl _ _ | assumption | refine Below.drew ?_ | refine bdn ?_ _ | refine bal ?_ _ | refine Below.setCell ?_ (by first | (simp; done) | omega | (simp; omega)) _))) hb1; have hz1 := hb1.size; (try simp at hz1); obtain ⟨hc1, hf1⟩ := bcell hb1; first | (have hE1 := bthen2 hE (by repeat' (first | exact Below.refl _ _ | refine Below.drew ?_ | refine bdn ?_ _ | refine bal ?_ _ | refine Below.setCell ?_ (by first | (simp; done) | omega | (simp; omega)) _)) hb1; clear hE; have hE := hE1; clear hE1; obtain ⟨hd1, hg1⟩ := bcell hE) | (have hE := hb1)))
  go_ret
  exact ⟨rfl, (by repeat' (first | exact Below.refl _ _ | assumption | refine Below.drew ?_ | refine bdn ?_ _ | refine bal ?_ _ | refine Below.setCell ?_ (by first | (simp; done) | omega | (simp; omega)) _))⟩
end Go.Proofs.YtlabfpjlckdmfaaGreat
namespace Go.Proofs.YtlabfpjlckdmfaaGreat
open Go Go.RowKit Go.Proofs
set_option maxRecDepth 100000
set_option maxHeartbeats 4000000
end Go.Proofs.YtlabfpjlckdmfaaGreat
namespace Go.Proofs.YtlabfpjlckdmfaaGreat
open Go Go.RowKit Go.Proofs
set_option maxRecDepth 100000
set_option maxHeartbeats 4000000
end Go.Proofs.YtlabfpjlckdmfaaGreat
namespace Go.Proofs.YtlabfpjlckdmfaaGreat
open Go Go.RowKit Go.Proofs
set_option maxRecDepth 100000
set_option maxHeartbeats 4000000
end Go.Proofs.YtlabfpjlckdmfaaGreat

namespace Go.Proofs.YtlabfpjlckdmfaaGreat
open Go Go.RowKit Go.Proofs
section
variable {P : Program} {ops : Array Oper} {rest : List Oper} {o : Oper} {a : Act} {w : World}
theorem wpl_row_g {Q : Exit → Act → World → Prop} (hgd : Region.wanted o (yielded ops a.tmps) = true) (ty : TypeId) (x : Operand) (ho : o.op = .load ty x)
  (g : Nat) (hx : a.eval x = .pointer (some ⟨g, 0, none⟩)) (cs : Array Value) (n : Nat) (hB : w.heap[g]? = some (.cells cs ty (0, 0)))
  (hr : RowTy P ty n) (hn : cs.size = n)
  (h : wpList P ops Q rest (a.put o.dst (.agg cs)) w) : wpList P ops Q (o :: rest) a w := by
 obtain ⟨hu, hi⟩ := hr
 cases hd : P.underlying ty with
 | none => rw [hd] at hu; cases hu
 | some d =>
  rw [hd] at hu
  refine wpList_step fun K hK => ?_
  simp only [hgd, if_true]
  unfold Oper.wp execOp
  simp only [ho, hx, Instr.loadAt, Instr.sureAddr, Sem.run_bind, Sem.run_pure, Result.andThen_ok, run_loadVar_row w g ty ty cs (0, 0) d hB hd (by cases d <;> first | rfl | (simp at hu)) (by rw [hi, hn]), Oper.upon]
  exact hK _ _ h
end
end Go.Proofs.YtlabfpjlckdmfaaGreat

namespace Go.Proofs.YtlabfpjlckdmfaaGreat
open Go Go.RowKit Go.Proofs
set_option maxRecDepth 100000
set_option maxHeartbeats 4000000
structure Look where
 T : Tbl
 xl : Int
 xh : Int
 yl : Int
 yh : Int
def Look.on (k : Look) : Bool := lkE k.T k.xl k.xh k.yl k.yh
end Go.Proofs.YtlabfpjlckdmfaaGreat

namespace Go.Proofs.YtlabfpjlckdmfaaGreat
open Go Go.RowKit Go.Proofs
set_option maxRecDepth 100000
set_option maxHeartbeats 4000000
end Go.Proofs.YtlabfpjlckdmfaaGreat

namespace Go.Proofs.YtlabfpjlckdmfaaGreat
open Go Go.RowKit Go.Proofs
set_option maxRecDepth 100000
set_option maxHeartbeats 4000000
end Go.Proofs.YtlabfpjlckdmfaaGreat
