/- Texts joined: KAE. -/
import Derived.Test.YtlabfpjlckdmfaaGreatKAD
import Derived.Test.YtlabfpjlckdmfaaGreatProg
import Derived.Shelf.SlSortCmp.Insertion1
import Derived.Test.YtlabfpjlckdmfaaGreatKZA
import Derived.Deep.Slices
import Derived.ChangeArms
import Derived.ChangeSlices
import Derived.WideShapes
import Derived.TacticsIn
import Derived.OrdersIn
import Derived.RangeFuncCalls
import Derived.RangeFuncSeq
import Derived.RangeFuncIn
set_option linter.all false
namespace Go.Proofs.YtlabfpjlckdmfaaGreat
open Go Go.Sort
variable {α : Type} [Inhabited α] {lt l1 l2 : α → α → Bool}
structure MergeIn (l1 l2 : α → α → Bool) (a m b : Nat) (d : Array α) : Prop where
 am : a < m
 mb : m < b
 bs : b ≤ d.size
 s1 : SortedIn l2 a m d
 s2 : SortedIn l2 m b d
 ag : ∀ i j, a ≤ i → i < m → m ≤ j → j < b → l1 d[j]! d[i]! = l2 d[j]! d[i]!
structure Merged (l2 : α → α → Bool) (a b : Nat) (d d' : Array α) : Prop where
 p : PermIn a b d d'
 s : SortedIn l2 a b d'
theorem permIn_up {a b a' b' : Nat} {d d' : Array α} (h : PermIn a b d d') (ha : a' ≤ a) (hb : b ≤ b') (hs : b' ≤ d.size) : PermIn a' b' d d' := permIn_mono d d' a b a' b' ha hb hs h
theorem moved_swr {a b n : Nat} {d d1 d2 : Array α} {f : Nat → Nat} (h : Moved d d1 f) (hn : a + n ≤ b) (hb : b + n ≤ d.size) (h2 : Moved d1 d2 (swrI a b n)) : Moved d d2 (fun k => f (swrI a b n k)) := by
 refine ⟨h2.1.trans h.1, fun k hk => ?_⟩
 rw [h2.2 k (by rw [h.1]; exact hk)]
 exact h.2 _ (by unfold swrI; (repeat' split) <;> omega)
theorem Moved.congr {d d' : Array α} {f g : Nat → Nat} (h : Moved d d' f) (e : ∀ k, f k = g k) : Moved d d' g := ⟨h.1, fun k hk => by rw [h.2 k hk, e]⟩
theorem rotI_self (a b k : Nat) : rotI a b b k = k := by unfold rotI; (repeat' split) <;> omega
theorem rotI_none (m b k : Nat) (h : m ≤ b) : rotI m m b k = k := by unfold rotI; (repeat' split) <;> omega
theorem sym_mid (hS : SWO l2) {a m b s e mid : Nat} {d d1 : Array α} (h : MergeIn l1 l2 a m b d) (c : Cut l2 a m b s e d) (hmid : s + (e - m) = mid) (hv : Moved d d1 (rotI s m e)) :
  d1.size = d.size ∧ (a < s → s < mid → MergeIn l1 l2 a s mid d1) ∧ (mid < e → e < b → MergeIn l1 l2 mid e b d1) ∧ (¬ (a < s ∧ s < mid) → SortedIn l2 a mid d1) ∧ (¬ (mid < e ∧ e < b) → SortedIn l2 mid b d1) ∧
   (∀ i j, a ≤ i → i < mid → mid ≤ j → j < b → l2 d1[j]! d1[i]! = false) := by
 obtain ⟨x1, x2, x3, x4, x5⟩ := c.cross hS h.bs h.s1 h.s2 hv
 obtain ⟨k1, k2, k3, k4, -, -⟩ := c
 have hb := h.bs
 have g1 : ∀ k, k < s → d1[k]! = d[k]! := fun k hk => by rw [hv.2 k (by omega)]; congr 1; unfold rotI; (repeat' split) <;> omega
 have g2 : ∀ k, s ≤ k → k < s + (e - m) → d1[k]! = d[m + (k - s)]! := fun k hk hk2 => by rw [hv.2 k (by omega)]; congr 1; unfold rotI; (repeat' split) <;> omega
 have g3 : ∀ k, s + (e - m) ≤ k → k < e → d1[k]! = d[k - (e - m)]! := fun k hk hk2 => by rw [hv.2 k (by omega)]; congr 1; unfold rotI; (repeat' split) <;> omega
 have g4 : ∀ k, e ≤ k → k < b → d1[k]! = d[k]! := fun k hk hk2 => by rw [hv.2 k (by omega)]; congr 1; unfold rotI; (repeat' split) <;> omega
 subst hmid
 refine ⟨hv.1, fun h1 h2 => ⟨h1, h2, by rw [hv.1]; omega, x1, x2, fun i j i1 i2 j1 j2 => ?_⟩, fun h1 h2 => ⟨h1, h2, by rw [hv.1]; omega, x3, x4, fun i j i1 i2 j1 j2 => ?_⟩, fun hn => ?_, fun hn => ?_, x5⟩
 ·rw [g1 i i2, g2 j j1 j2]; exact h.ag _ _ i1 (by omega) (by omega) (by omega)
 ·rw [g3 i i1 i2, g4 j j1 j2]; exact h.ag _ _ (by omega) (by omega) (by omega) (by omega)
 ·by_cases e1 : a = s
  ·subst e1; exact x2
  ·have : s = s + (e - m) := by omega
   rw [← this]; exact x1
 ·by_cases e1 : s + (e - m) = e
  ·rw [e1]; exact x4
  ·have : e = b := by omega
   rw [← this]; exact x3
theorem MergeIn.kept {a' b' a m b : Nat} {d d' : Array α} (h : MergeIn l1 l2 a m b d) (hp : PermIn a' b' d d') (hb : b' ≤ a) : MergeIn l1 l2 a m b d' := by
 have g : ∀ k, a ≤ k → d'[k]! = d[k]! := fun k hk => hp.2.1 k (.inr (by omega))
 have := h.am
 refine ⟨h.am, h.mb, by rw [hp.1]; exact h.bs, fun i j hi hij hj => ?_, fun i j hi hij hj => ?_, fun i j i1 i2 j1 j2 => ?_⟩
 ·rw [g i hi, g j (by omega)]; exact h.s1 i j hi hij hj
 ·rw [g i (by omega), g j (by omega)]; exact h.s2 i j hi hij hj
 ·rw [g i i1, g j (by omega)]; exact h.ag i j i1 i2 j1 j2
theorem sorted_kept {a' b' a b : Nat} {d d' : Array α} (h : SortedIn lt a b d) (hp : PermIn a' b' d d') (hb : b' ≤ a ∨ b ≤ a') : SortedIn lt a b d' := by
 have g : ∀ k, a ≤ k → k < b → d'[k]! = d[k]! := fun k hk h2 => hp.2.1 k (by omega)
 intro i j hi hij hj
 rw [g i hi (by omega), g j (by omega) hj]; exact h i j hi hij hj
theorem sym_fin {a mid b : Nat} {d d1 d2 d3 : Array α} (ham : a ≤ mid) (hmb : mid ≤ b) (hb : b ≤ d.size) (p1 : PermIn a b d d1) (hx : ∀ i j, a ≤ i → i < mid → mid ≤ j → j < b → l2 d1[j]! d1[i]! = false)
  (h2 : Merged l2 a mid d1 d2) (h3 : Merged l2 mid b d2 d3) : Merged l2 a b d d3 := by
 have z1 := p1.1
 have z2 := h2.p.1
 have P2 : PermIn a b d1 d2 := permIn_up h2.p (Nat.le_refl _) hmb (by omega)
 have P3 : PermIn a b d2 d3 := permIn_up h3.p ham (Nat.le_refl _) (by omega)
 refine ⟨permIn_trans _ _ _ a b (permIn_trans _ _ _ a b p1 P2) P3, ?_⟩
 refine sorted_halves (c := mid) (sorted_kept h2.s h3.p (.inr (Nat.le_refl _))) h3.s ?_
 intro i j hi hi2 hj hj2
 have e1 : ∀ k, k < mid → d3[k]! = d2[k]! := fun k hk => h3.p.2.1 k (.inl hk)
 have e2 : ∀ k, mid ≤ k → d2[k]! = d1[k]! := fun k hk => h2.p.2.1 k (.inr hk)
 rw [e1 i hi2]
 refine permIn_all d2 d3 mid b (fun y => l2 y d2[i]! = false) (by omega) h3.p (fun k k1 k2 => ?_) j hj hj2
 rw [e2 k k1]
 exact permIn_all d1 d2 a mid (fun x => l2 d1[k]! x = false) (by omega) h2.p (fun q q1 q2 => hx q k q1 q2 k1 k2) i hi hi2
theorem Merged.none {a b : Nat} {d : Array α} (h : SortedIn l2 a b d) : Merged l2 a b d d := ⟨permIn_refl d a b, h⟩
theorem PermIn.moved_none {a m b : Nat} {d : Array α} (h : a = m ∨ m = b) (hm : m ≤ b) : Moved d d (rotI a m b) := by
 refine ⟨rfl, fun k _ => ?_⟩
 rcases h with rfl | rfl
 ·rw [rotI_none _ _ _ hm]
 ·rw [rotI_self]
def keyLt (key rank : α → Int) (x y : α) : Bool := decide (key x < key y) || (decide (key x = key y) && decide (rank x < rank y))
theorem keyLt_swo (key rank : α → Int) : SWO (keyLt key rank) := by
 refine ⟨fun x => ?_, fun x y z => ?_, fun x y z => ?_⟩
 ·unfold keyLt; simp
 ·unfold keyLt; simp only [Bool.or_eq_true, Bool.and_eq_true, decide_eq_true_eq]; omega
 ·unfold keyLt; simp only [Bool.or_eq_false_iff, Bool.and_eq_false_iff, decide_eq_false_iff_not]; omega
theorem keyLt_eq {key rank : α → Int} {x y : α} (h : rank y < rank x) : decide (key x < key y) = keyLt key rank x y := by
 unfold keyLt
 rw [show decide (rank x < rank y) = false from decide_eq_false (by omega)]
 simp
theorem stable_one {key rank : α → Int} {b c : Nat} {D : Array α} (hb : c ≤ D.size) (hr : ∀ i j, b ≤ i → i < j → j < c → rank D[i]! < rank D[j]!) :
  insertionSort (fun x y => decide (key x < key y)) D b c = insertionSort (keyLt key rank) D b c :=
 insertionSort_eq b c D hb fun p q h1 h2 h3 => keyLt_eq (hr q p h1 h2 h3)
end Go.Proofs.YtlabfpjlckdmfaaGreat

namespace Go.Proofs.YtlabfpjlckdmfaaGreat
open Go Go.Shelf Go.RowKit Go.Lib Go.Sort Go.Proofs
set_option maxRecDepth 1000000
variable {α : Type} [Inhabited α]
set_option maxHeartbeats 8000000 in
theorem swapRange_c (enc : α → Value) (g : Nat) (cb : Array Value) (blk off cap a b n : Nat) (d0 d : Array α) (w0 w : World)
  (R : Row1 enc w0 blk off d0) (hs : d0.size = d.size) (S : SW enc w0 blk off d w) (hab : a + n ≤ b) (hb : b + n ≤ d.size) (hsz : d.size < 4611686018427387904) :
  Calls Tryz.prog 155 #[.slice (some ⟨blk, off, none⟩) d.size cap, .int .i64 a, .int .i64 b, .int .i64 n, .func (.func g) #[] cb] w fun e w' => e = .returned (.tuple #[]) ∧
   ∃ d', SW enc w0 blk off d' w' ∧ Moved d d' (swrI a b n) ∧ ∀ lo hi, lo ≤ a → b + n ≤ hi → hi ≤ d.size → PermIn lo hi d d' := by
 have hcl0 := R.hO.cells
 simp only [Value.cells] at hcl0
 have hst := R.hO.store Tryz.prog
 have mixed : Tryz.prog.follows Departure.mixedOrders = true := by kernel_rfl
 have S0 : Aside (SW enc w0 blk off d w) := S
 clear S
 go_enter Tryz.func155, Tryz.ntmps155
 go_wp2
 go_loopg [10] n (fun gx s wr => ∃ (i : Nat) (dk : Array α), s = .int .i64 i ∧ i ≤ n ∧ n - i ≤ gx ∧ dk.size = d.size ∧ Aside (SW enc w0 blk off dk wr) ∧ Aside (Moved d dk (swrI a b i) ∧ ∀ lo hi, lo ≤ a → b + n ≤ hi → hi ≤ d.size → PermIn lo hi d dk))
 case atStart => exact ⟨0, d, by first | rfl | go_num, Nat.zero_le _, by omega, rfl, S0, ⟨⟨rfl, fun k _ => by rw [swrI_zero]⟩, fun lo hi _ _ _ => permIn_refl d lo hi⟩⟩
 case round =>
  clear S0
  obtain ⟨i, dk, rfl, hin, hg1, hsk, S1, HM⟩ := hrel
  by_cases hlt : i < n
  ·have hltz : (i : Int) < (n : Int) := by omega
   have HM2 : Aside (Moved d (swp dk (a + i) (b + i)) (swrI a b (i + 1)) ∧ ∀ lo hi, lo ≤ a → b + n ≤ hi → hi ≤ d.size → PermIn lo hi d (swp dk (a + i) (b + i))) :=
    ⟨swrI_step HM.out.1 hlt hab hb, fun lo hi h1 h2 h3 => permIn_trans _ _ _ lo hi (HM.out.2 lo hi h1 h2 h3) (swp_permIn dk lo hi (a + i) (b + i) (by omega) (by omega) (by omega) (by omega) (by rw [hsk]; exact h3))⟩
   clear HM
   go_wp2_with fail
   obtain ⟨iN1, hiN1⟩ : ∃ q, q = (a + i) := ⟨_, rfl⟩
   obtain ⟨jN1, hjN1⟩ : ∃ q, q = (b + i) := ⟨_, rfl⟩
   have ea1 : (((a : Int) + (i : Int))).toNat = iN1 := by omega
   have pa1 : (0 : Int) ≤ ((a : Int) + (i : Int)) := by omega
   have ba1 : ((a : Int) + (i : Int)) < (d.size : Int) := by omega
   have ra1 : IntKind.i64.wrap (((a : Int) + (i : Int))) = ((a : Int) + (i : Int)) := by rw [IntKind.wrap_i64]; omega
   have ec1 : (((b : Int) + (i : Int))).toNat = jN1 := by omega
   have pc1 : (0 : Int) ≤ ((b : Int) + (i : Int)) := by omega
   have bc1 : ((b : Int) + (i : Int)) < (d.size : Int) := by omega
   have rc1 : IntKind.i64.wrap (((b : Int) + (i : Int))) = ((b : Int) + (i : Int)) := by rw [IntKind.wrap_i64]; omega
   obtain ⟨x1, hx1⟩ : ∃ x, x = dk[(a + i)]! := ⟨_, rfl⟩
   obtain ⟨y1, hy1⟩ : ∃ x, x = dk[(b + i)]! := ⟨_, rfl⟩
   have S2 : Aside (SW enc w0 blk off (swp dk ((a + i)) ((b + i))) ((wr.setCell ⟨blk, off + iN1, none⟩ (enc y1)).setCell ⟨blk, off + jN1, none⟩ (enc x1)).drew) := by rw [hiN1, hjN1, hx1, hy1]; exact S1.out.swapped R ((a + i)) ((b + i)) (by omega) (by omega)
   have ca1 := S1.out.c1 R (by omega) ((a + i)) (by omega)
   have cb1 := S1.out.c1 R (by omega) ((b + i)) (by omega)
   have fa1 := S1.out.f1 R (by omega) ((a + i)) (by omega)
   have fb1 := S1.out.f1 R (by omega) ((b + i)) (by omega)
   obtain ⟨u1, cc1⟩ := S1.out.c2 R (by omega) ((a + i)) ((b + i)) (by omega) (by omega) (enc y1)
   rw [← hjN1, ← hiN1] at cc1
   rw [← hx1, ← hiN1] at ca1
   rw [← hy1, ← hjN1] at cb1
   rw [← hiN1] at fa1
   rw [← hjN1] at fb1
   clear S1 hx1 hy1 hiN1 hjN1
   go_wp2_with fail
   go_big_region_o
   clear ca1 cb1 cc1 fa1 fb1
   generalize ((wr.setCell ⟨blk, off + iN1, none⟩ (enc y1)).setCell ⟨blk, off + jN1, none⟩ (enc x1)).drew = w2 at S2 ⊢
   clear ea1 ec1 ra1 rc1 pa1 pc1 ba1 bc1
   go_wp2
   go_roundg (n - (i + 1))
   case measure => omega
   case rel => exact ⟨i + 1, swp dk (a + i) (b + i), by first | rfl | go_num | (congr 1; omega), by omega, Nat.le_refl _, by rw [size_swp]; exact hsk, S2, HM2⟩
  ·have hltz : ¬ (i : Int) < (n : Int) := by omega
   have e : i = n := by omega
   subst e
   go_wp2
   go_end0
   exact ⟨rfl, dk, S1.out, HM.out.1, HM.out.2⟩
set_option maxHeartbeats 8000000 in
theorem rotate_c (enc : α → Value) (g : Nat) (cb : Array Value) (blk off cap a m b : Nat) (d0 d : Array α) (w0 w : World)
  (R : Row1 enc w0 blk off d0) (hs : d0.size = d.size) (S : SW enc w0 blk off d w) (ham : a < m) (hmb : m < b) (hb : b ≤ d.size) (hsz : d.size < 4611686018427387904) :
  Calls Tryz.prog 148 #[.slice (some ⟨blk, off, none⟩) d.size cap, .int .i64 a, .int .i64 m, .int .i64 b, .func (.func g) #[] cb] w fun e w' => e = .returned (.tuple #[]) ∧
   ∃ d', SW enc w0 blk off d' w' ∧ Moved d d' (rotI a m b) ∧ PermIn a b d d' := by
 have S0 : Aside (SW enc w0 blk off d w) := S
 clear S
 go_enter Tryz.func148, Tryz.ntmps148
 go_wp2
 go_loopg [10, 11] (b - a) (fun gx s t wr => ∃ (i j : Nat) (dk : Array α) (f : Nat → Nat), s = .int .i64 i ∧ t = .int .i64 j ∧ 0 < i ∧ 0 < j ∧ i ≤ m - a ∧ j ≤ b - m ∧ i + j ≤ gx ∧ dk.size = d.size ∧ Aside (SW enc w0 blk off dk wr) ∧
  Aside (Moved d dk f ∧ (∀ k, f (rotI (m - i) m (m + j) k) = rotI a m b k) ∧ PermIn a b d dk))
 case atStart => exact ⟨m - a, b - m, d, id, by first | rfl | go_num | (congr 1; omega), by first | rfl | go_num | (congr 1; omega), by omega, by omega, Nat.le_refl _, Nat.le_refl _, by omega, rfl, S0, Moved.refl d, fun k => by rw [show m - (m - a) = a by omega, show m + (b - m) = b by omega]; rfl, permIn_refl d a b⟩
 case round =>
  clear S0
  obtain ⟨i, j, dk, f, rfl, rfl, hi0, hj0, him, hjb, hg1, hsk, S1, HM⟩ := hrel
  by_cases heq : i = j
  ·subst heq
   have hc := fun w1 (h : SW enc w0 blk off dk w1) => swapRange_c enc g cb blk off cap (m - i) m i d0 dk w0 w1 R (by omega) h (by omega) (by omega) (by omega)
   rw [hsk] at hc
   have HC := hI9 hc
   clear hc
   have e1 : ((m : Int) - (i : Int)) = ((m - i : Nat) : Int) := by omega
   go_wp2_with (go_at_call 155; refine (HC.out _ S1.out).mono ?_; rintro e w2 ⟨rfl, d2, S2, M2, P2⟩)
   go_end0
   refine ⟨rfl, d2, S2, ?_, permIn_trans _ _ _ a b HM.out.2.2 (P2 a b (by omega) (by omega) (by omega))⟩
   refine (moved_swr HM.out.1 (by omega) (by omega) M2).congr fun k => ?_
   rw [rot_eq (by omega), HM.out.2.1]
  ·have hne : ((i : Int) != (j : Int)) = true := by simp; omega
   by_cases hgt : j < i
   ·have hgz : (j : Int) < (i : Int) := by omega
    have hc := fun w1 (h : SW enc w0 blk off dk w1) => swapRange_c enc g cb blk off cap (m - i) m j d0 dk w0 w1 R (by omega) h (by omega) (by omega) (by omega)
    rw [hsk] at hc
    have HC := hI9 hc
    clear hc
    have e1 : ((m : Int) - (i : Int)) = ((m - i : Nat) : Int) := by omega
    go_wp2_with (go_at_call 155; refine (HC.out _ S1.out).mono ?_; rintro e w2 ⟨rfl, d2, S2, M2, P2⟩)
    go_roundg (i - j + j)
    case measure => omega
    case rel =>
     refine ⟨i - j, j, d2, fun k => f (swrI (m - i) m j k), by first | rfl | go_num | (congr 1; omega), rfl, by omega, hj0, by omega, hjb, Nat.le_refl _, M2.1.trans hsk, S2, moved_swr HM.out.1 (by omega) (by omega) M2, fun k => ?_, permIn_trans _ _ _ a b HM.out.2.2 (P2 a b (by omega) (by omega) (by omega))⟩
     show f (swrI _ _ _ _) = _
     rw [rot_gt (by omega) hgt, HM.out.2.1]
   ·have hgz : ¬ (j : Int) < (i : Int) := by omega
    have hc := fun w1 (h : SW enc w0 blk off dk w1) => swapRange_c enc g cb blk off cap (m - i) (m + j - i) i d0 dk w0 w1 R (by omega) h (by omega) (by omega) (by omega)
    rw [hsk] at hc
    have HC := hI9 hc
    clear hc
    have e1 : ((m : Int) - (i : Int)) = ((m - i : Nat) : Int) := by omega
    have e2 : ((m : Int) + (j : Int) - (i : Int)) = ((m + j - i : Nat) : Int) := by omega
    go_wp2_with (go_at_call 155; refine (HC.out _ S1.out).mono ?_; rintro e w2 ⟨rfl, d2, S2, M2, P2⟩)
    go_roundg (i + (j - i))
    case measure => omega
    case rel =>
     refine ⟨i, j - i, d2, fun k => f (swrI (m - i) (m + j - i) i k), rfl, by first | rfl | go_num | (congr 1; omega), hi0, by omega, him, by omega, Nat.le_refl _, M2.1.trans hsk, S2, moved_swr HM.out.1 (by omega) (by omega) M2, fun k => ?_, permIn_trans _ _ _ a b HM.out.2.2 (P2 a b (by omega) (by omega) (by omega))⟩
     show f (swrI _ _ _ _) = _
     rw [rot_lt (by omega) (by omega), HM.out.2.1]
end Go.Proofs.YtlabfpjlckdmfaaGreat

namespace Go.Proofs.YtlabfpjlckdmfaaGreat
open Go Go.RowKit Go.Proofs Go.ChangeShapes Go.WideShapes Go.Deep
def RecsAt (w : World) (A : Option Addr) (n k : Nat) (V : Nat → Nat → Value) : Prop :=
 0 < n → ∃ b off, A = some ⟨b, off, none⟩ ∧ b < w.heap.size ∧ ∀ i, i < n → ∀ j, j < k → w.cell? ⟨b, off + i * k + j, none⟩ = some (V i j)
theorem RecsAt.below {w w' : World} {A : Option Addr} {n k : Nat} {V : Nat → Nat → Value} (h : RecsAt w A n k V) (hb : Below w.heap.size w w') : RecsAt w' A n k V := by
 intro hn
 obtain ⟨b, off, hA, hlt, hc⟩ := h hn
 exact ⟨b, off, hA, Nat.lt_of_lt_of_le hlt hb.size, fun i hi j hj => (hb.cell (p := ⟨b, off + i * k + j, none⟩) hlt).trans (hc i hi j hj)⟩
theorem RecsAt.cells {w : World} {A : Option Addr} {n k : Nat} {V : Nat → Nat → Value} (h : RecsAt w A n k V) : CellsAt w A (n * k) (fun q => V (q / k) (q % k)) := by
 intro hn
 have hn0 : 0 < n := Nat.pos_of_ne_zero fun h => by simp [h] at hn
 have hk0 : 0 < k := Nat.pos_of_ne_zero fun h => by simp [h] at hn
 obtain ⟨b, off, hA, hlt, hc⟩ := h hn0
 refine ⟨b, off, hA, hlt, fun q hq => ?_⟩
 have := hc (q / k) (Nat.div_lt_of_lt_mul (by rw [Nat.mul_comm]; exact hq)) (q % k) (Nat.mod_lt _ hk0)
 rw [show off + q / k * k + q % k = off + q by have := Nat.div_add_mod q k; rw [Nat.mul_comm] at this; omega] at this
 exact this
theorem RecsAt.of_owns {w : World} {base : Nat} {e : TypeId} {v : Value} {n k : Nat} {V : Nat → Nat → Value} (hk : 0 < k) (h : w.ownsRow base e k v n ((List.range (n * k)).map fun q => V (q / k) (q % k))) :
  ∃ A c, v = .slice A n c ∧ n ≤ c ∧ c ≤ 9223372036854775807 ∧ RecsAt w A n k V := by
 rcases h.2 with ⟨rfl, hz⟩ | ⟨g, cap, cur, rfl, h1, h2, h3, h4, h5, h6⟩
 ·exact ⟨none, 0, by rw [hz], by omega, by omega, fun hp => by omega⟩
 ·refine ⟨some ⟨g, 0, none⟩, cap, rfl, h3, by unfold maxLen at h4; omega, fun hp => ⟨g, 0, rfl, (Array.getElem?_eq_some_iff.1 h2).1, fun i hi j hj => ?_⟩⟩
  have hlt : i * k + j < n * k := by
   have : (i + 1) * k ≤ n * k := Nat.mul_le_mul_right k hi
   rw [Nat.add_mul] at this; omega
  have := h.cellAt (g := g) (i * k + j) hlt
  rw [Nat.zero_add, this]
  simp only [List.getElem?_map, List.getElem?_range hlt, Option.map_some]
  rw [Nat.mul_comm i k, Nat.mul_add_div hk, Nat.mul_add_mod, Nat.div_eq_of_lt hj, Nat.mod_eq_of_lt hj, Nat.add_zero]
theorem RecsAt.sub {w : World} {b off n k : Nat} {V : Nat → Nat → Value} (h : RecsAt w (some ⟨b, off, none⟩) n k V) (i m : Nat) (hi : i + m ≤ n) : RecsAt w (some ⟨b, off + i * k, none⟩) m k (fun j => V (i + j)) := by
 intro hm
 obtain ⟨b', off', hA, hlt, hc⟩ := h (by omega)
 simp only [Option.some.injEq, Addr.mk.injEq, and_true] at hA
 obtain ⟨rfl, rfl⟩ := hA
 refine ⟨b, off + i * k, rfl, hlt, fun q hq j hj => ?_⟩
 have := hc (i + q) (by omega) j hj
 rw [Nat.add_mul] at this
 rw [show off + i * k + q * k + j = off + (i * k + q * k) + j by omega]; exact this
theorem wpl_append_newk {P : Program} {w : World} {ops : Array Oper} {rest : List Oper} {o : Oper} {a : Act} {Q : Exit → Act → World → Prop}
  (hg : o.guard = none) (s x : Operand) (t : TypeId) (hop : o.op = Op.call { callee := Callee.builtin Builtin.append, args := #[s, x], argTypes := #[t, t] })
  (e : TypeId) (i : TypeInfo) (z : Value) (sz bytes : Nat) (h1 : P.underlying t = some (.slice e)) (h2 : P.info? e = some i) (h3 : i.zero = some z) (h4 : i.size = sz) (h5 : i.bytes = bytes) (h6 : z.cells.size = sz) (h7 : 0 < sz)
  (g : Nat) (hs : a.eval s = .slice (some ⟨g, 0, none⟩) 0 0) (hgb : w.heap[g]? = some (.cells #[] e (0, 0))) (base : Nat) (hbg : base ≤ g)
  (A : Option Addr) (m c : Nat) (hx : a.eval x = .slice A m c) (f : Nat → Value) (hA : CellsAt w A (m * sz) f) (hone : ∀ k, k < m * sz → (f k).oneCell' = true)
  (b1 : m ≤ maxLen) (b2 : m * bytes ≤ 140737488355328)
  (K : ∀ v' w', w'.ownsRow base e sz v' m ((List.range (m * sz)).map f) → Below w.heap.size w w' → wpList P ops Q rest (a.put o.dst v') w') :
  wpList P ops Q (o :: rest) a w := by
 by_cases hm : m = 0
 ·subst hm
  refine wpList_plain hg fun K' hK' => ?_
  have hrun : (Builtin.append_ #[t, t] o.type #[.slice (some ⟨g, 0, none⟩) 0 0, .slice A 0 c]).run P w = .ok (.slice (some ⟨g, 0, none⟩) 0 0) w := by
   cases A with
   | none => simp [Builtin.append_, run_underlying h1, sizeOf, typeInfo, h2, Builtin.lenOf, Builtin.firstCells, storeCells]
   | some ad => simp [Builtin.append_, run_underlying h1, sizeOf, typeInfo, h2, Builtin.lenOf, Builtin.firstCells, storeCells, loadCells, loadCellsFrom]
  unfold Oper.wp
  simp [execOp, hop, resolve, invoke, builtin, hs, hx, hrun, Result.andThen]
  exact hK' _ _ (K _ w ⟨by simp, .inr ⟨g, 0, #[], rfl, hbg, hgb, Nat.le_refl _, Nat.zero_le _, by simp, by simp⟩⟩ (Below.refl _ _))
 ·obtain ⟨b, off, rfl, hlt, hc⟩ := hA (Nat.mul_pos (by omega) h7)
  refine wpList_append_grows w hg s x t hop e i z sz bytes h1 h2 h3 h4 h5 h6 h7 (some ⟨g, 0, none⟩) 0 0 [] hs (fun h => by cases h) (by simp) (fun _ _ j u h => by simp at h)
   ⟨b, off, none⟩ m c ((List.range (m * sz)).map f) hx (by simp) (fun j u h => ?_) (fun u hu => ?_) (by omega) (by omega) (by simpa using b2) (fun v' w' ho hgr => ?_)
  ·have hj : j < m * sz := by
    have := (List.getElem?_eq_some_iff.1 h).1; simpa using this
   have : u = f j := by simp [hj] at h; exact h.symm
   subst this
   have hadd : (⟨b, off, none⟩ : Addr).add j = ⟨b, off + j, none⟩ := by unfold Addr.add; split <;> simp_all
   rw [hadd]; exact hc j hj
  ·obtain ⟨k, hk, rfl⟩ := List.mem_map.1 hu
   exact hone k (List.mem_range.1 hk)
  ·rw [Nat.zero_add, List.nil_append] at ho
   exact K v' w' (ownsRow_base ho (by have := (Array.getElem?_eq_some_iff.1 hgb).1; omega)) (below_of_none hgr)
section
variable {H : Type} {enc : TypeId × Value → H} {P : Program} {w : World} {base : Nat} {sp : Nat → Bool} {held : Bool}
theorem recs_trod {t e : TypeId} {k fuel : Nat} {c : Value} {x : DataW H × List MemPlace} (ht : P.underlying t = some (.slice e)) (hk : P.cellsOf e = k) (hk0 : 0 < k) (h : DataW.trod enc P w base sp held fuel t [c] = some x) :
  ∃ A n cp V, c = .slice A n cp ∧ n ≤ cp ∧ cp ≤ 9223372036854775807 ∧ (A = none → cp = 0) ∧ RecsAt w A n k V ∧ ∀ i, i < n → ∃ m y, DataW.trod enc P w base sp held m e ((List.range k).map (V i)) = some y := by
 rcases open_slice ht h with ⟨e, -⟩ | ⟨a, len, cap, m, n, D, Pl, e, -, h1, h2, h3, -, h4⟩
 ·obtain rfl : c = .slice none 0 0 := by simpa using e
  exact ⟨none, 0, 0, fun _ _ => undef, rfl, Nat.le_refl _, by omega, fun _ => rfl, fun hp => by omega, fun i hi => by omega⟩
 ·obtain rfl : c = .slice (some a) len cap := by simpa using e
  have hm : len ≤ m := by rw [h3]; split <;> omega
  rw [hk] at h4
  have hv : ∀ i, i < len → ∃ cs, w.cells? base (a.add (i * k)) k = some cs ∧ DataW.trod enc P w base sp held n _ cs = some (D i, Pl i) := fun i hi => h4 i (by omega)
  obtain ⟨Z, hZ⟩ := choose_lt (α := List Value) (p := fun i cs => w.cells? base (a.add (i * k)) k = some cs ∧ DataW.trod enc P w base sp held n _ cs = some (D i, Pl i)) hv
  have hc : ∀ i, i < len → (Z i).length = k ∧ ∀ j, j < k → w.cell? (a.add (i * k + j)) = some ((Z i).getD j undef) := by
   intro i hi
   obtain ⟨-, hl, hcell⟩ := World.cells?_some (hZ i hi).1
   refine ⟨hl, fun j hj => ?_⟩
   have := hcell j hj
   rw [Go.Deep.add_add] at this
   rw [this, List.getD, List.getElem?_eq_getElem (by omega)]
   rfl
  refine ⟨some a, len, cap, fun i j => (Z i).getD j undef, rfl, by omega, by unfold maxLen at h2; omega, (fun h => by cases h), fun hp => ?_, fun i hi => ⟨n, (D i, Pl i), ?_⟩⟩
  ·obtain ⟨b, off, spot⟩ := a
   have h00 := (hc 0 hp).2 0 hk0
   have hspot : spot = none := by simpa [Addr.add] using World.cell?_spot h00
   subst hspot
   refine ⟨b, off, rfl, ?_, fun i hi j hj => ?_⟩
   ·have := World.block_lt_of_cell? w _ h00; simpa [Addr.add] using this
   ·have := (hc i hi).2 j hj
    have hadd : (⟨b, off, none⟩ : Addr).add (i * k + j) = ⟨b, off + i * k + j, none⟩ := by unfold Addr.add; split <;> simp_all [Nat.add_assoc] <;> omega
    rwa [hadd] at this
  ·have : (List.range k).map (fun j => (Z i).getD j undef) = Z i := by
    apply List.ext_getElem?
    intro j
    have hl := (hc i hi).1
    by_cases hj : j < k
    ·simp [hj, List.getD, List.getElem?_eq_getElem (show j < (Z i).length by omega)]
    ·simp [hj, List.getElem?_eq_none (show (Z i).length ≤ j by omega)]
   rw [this]; exact (hZ i hi).2
end
end Go.Proofs.YtlabfpjlckdmfaaGreat

namespace Go.Proofs.YtlabfpjlckdmfaaGreat
open Go Go.RowKit Go.Proofs
def noDefer (o : Oper) : Bool := match o.op with | .defer _ => false | _ => true
theorem noDefer_ne {o : Oper} (h : noDefer o = true) : ∀ c, o.op ≠ .defer c := by
 intro c e
 unfold noDefer at h
 rw [e] at h
 cases h
section
variable {P : Program} {ops : Array Oper} {Q : Exit → Act → World → Prop} {l0 n : Nat}
abbrev rnd (l0 : Nat) : Fence := Fence.wide.inRound l0
theorem rowsIn_rnd {row : String} {args : Array Value} {w : World} {R : Value → World → Prop} (h : Go.Rows P row args w R) : RowsIn (rnd l0) n P row args w R := fun c cs _ => by
 obtain ⟨v, w'', r, s⟩ := h c cs
 exact ⟨v, w'', r, stepsIn_wide.2 s⟩
theorem wpIn_of_wp {o : Oper} {a : Act} {w : World} {K : Act → World → Prop} (hd : noDefer o = true) (h : o.wp P a w K Q) : o.wpIn (rnd l0) n P a w K Q := by
 unfold Oper.wpIn
 refine ⟨fun _ _ => trivial, ?_⟩
 rw [Oper.semAt_eq _ _ _ (noDefer_ne hd)]
 unfold Oper.wp at h
 generalize (execOp a.eval o).run P w = r at h ⊢
 cases r with
 | ok x w' =>
  cases x <;> simp only [Oper.upon, Oper.uponIn] at h ⊢ <;>
   first
    | exact h
    | exact ⟨fun e => (by cases e), CallsIn.inRound l0 (callsIn_wide.2 h)⟩
    | exact ⟨fun e => (by cases e), rowsIn_rnd h⟩
    | exact h.elim
 | halt x w' => cases x <;> simp only [Oper.upon, Oper.uponIn] at h ⊢ <;> exact h
theorem wpOpIn_of_wpOp {i : Nat} {a : Act} {w : World} {K : Act → World → Prop} (hd : ∀ o, ops[i]? = some o → noDefer o = true) (hno : ¬ LetsOut Q) (h : wpOp P ops Q i K a w) : wpOpIn (rnd l0) n P ops Q i K a w := by
 unfold wpOp at h
 unfold wpOpIn
 cases ho : ops[i]? with
 | none => simpa [ho] using h
 | some o =>
  simp only [ho] at h ⊢
  split
  ·rename_i hw
   simp only [hw, if_true] at h
   rcases h with h | ⟨_, h⟩
   ·exact wpIn_of_wp (hd o ho) h
   ·exact absurd h hno
  ·rename_i hw
   simp only [hw] at h
   exact ⟨fun _ _ => trivial, h⟩
theorem wpAnyIn_of_wpAny (hd : ops.all noDefer = true) (hno : ¬ LetsOut Q) {md : Region.Mode} : ∀ (f : Nat) (listed : Array Bool) (a : Act) (w : World), wpAny P md ops Q f listed a w → wpAnyIn (rnd l0) n P md ops Q f listed a w
 | 0, _, _, _, h => h
 | f + 1, listed, a, w, h => by
  refine ⟨h.1, fun i hi => ?_⟩
  refine wpOpIn_of_wpOp (fun o ho => ?_) hno (wpOp_mono (fun a w => wpAnyIn_of_wpAny hd hno f _ a w) (h.2 i hi))
  obtain ⟨hlt, e⟩ := Array.getElem?_eq_some_iff.1 ho
  rw [← e]
  exact Array.all_eq_true.1 hd i hlt
theorem wpListIn_of_wpList (hd : ops.all noDefer = true) (hno : ¬ LetsOut Q) : ∀ (l : List Oper) (a : Act) (w : World), l.all noDefer = true → wpList P ops Q l a w → wpListIn (rnd l0) n P ops Q l a w
 | [], _, _, _, h => h
 | o :: r, a, w, hl, h => by
  simp only [List.all_cons, Bool.and_eq_true] at hl
  unfold wpList at h
  unfold wpListIn
  split
  ·rename_i hw
   simp only [hw, if_true] at h
   rcases h with h | ⟨_, h⟩
   ·exact Oper.wpIn_mono (fun a w => wpListIn_of_wpList hd hno r a w hl.2) (wpIn_of_wp hl.1 h)
   ·exact absurd h hno
  ·rename_i hw
   simp only [hw] at h
   exact ⟨fun _ _ => trivial, wpListIn_of_wpList hd hno r _ w hl.2 h⟩
theorem rnd_region {id : Nat} {a : Act} {w : World} {l : List Oper} (hd : l.all noDefer = true) (hno : ¬ LetsOut Q) (h : wpList P l.toArray Q l a w) : (Code.region id l.toArray false).wpIn (rnd l0) n P Q a w :=
 wpIn_region_lit (wpListIn_of_wpList (by simpa using hd) hno l a w hd h)
theorem rnd_region_spec {id : Nat} {a : Act} {w : World} {l : List Oper} (k : Nat) (R : Nat → Value → World → Prop) (fresh : Nat → Bool) (hd : l.all noDefer = true) (hno : ¬ LetsOut Q)
  (hm : P.follows .mixedOrders = true) (hB : specB l.toArray k = true) (hR : ∀ k v w w', Below w.heap.size w w' → R k v w → R k v w')
  (hop : allOps (fun i oi => ∀ (u : Nat → Value) (A : Act) (w1 : World), A = putAll l.toArray a u k → Below w.heap.size w w1 → (∀ j, j < k → (depsOf l.toArray i).contains j = true → R j (u j) w1) → wpList P l.toArray (EndOp Q R fresh l.toArray i A w1) [oi] A w1) 0 (l.take k))
  (htail : ∀ (u : Nat → Value) (A : Act) (w1 : World), A = putAll l.toArray a u k → Below w.heap.size w w1 → (∀ j, j < k → R j (u j) w1) → (∀ i j, i < k → j < k → i ≠ j → fresh i = true → fresh j = true → u i ≠ u j) → wpList P l.toArray Q (l.drop k) A w1) :
  (Code.region id l.toArray true).wpIn (rnd l0) n P Q a w := by
 have hn : k < l.toArray.size := by simp only [specB, Bool.and_eq_true, decide_eq_true_eq] at hB; exact hB.1.1.1.1.1
 have hn' : k < l.length := by simpa using hn
 refine wpIn_region_any hm ?_
 have inv0 : HeadInv .any l.toArray k (Array.replicate l.toArray.size false) :=
  ⟨by simp, fun j oj _ hl => (by rw [getD_replicate_false] at hl; cases hl), fun t _ ht => getD_in (by simpa using ht) (getD_replicate_false _ _)⟩
 have hcnt : ((List.range k).filter fun i => !(Array.replicate l.toArray.size false).getD i false).length = k := by
  rw [List.filter_eq_self.2 (fun i _ => by rw [getD_replicate_false]; rfl), List.length_range]
 have hop' : ∀ i oi, i < k → l.toArray[i]? = some oi → ∀ (u : Nat → Value) (w1 : World), Below w.heap.size w w1 → (∀ j ∈ depsOf l.toArray i, j < k → R j (u j) w1) → wpList P l.toArray (EndOp Q R fresh l.toArray i (putAll l.toArray a u k) w1) [oi] (putAll l.toArray a u k) w1 := fun i oi hi ho u w1 hb hdd => by
  have := allOps_get _ _ hop i oi (by simpa [List.getElem?_take, hi] using ho) u (putAll l.toArray a u k) w1 rfl hb (fun j hk hc => hdd j (by simpa using hc) hk)
  rw [Nat.zero_add] at this
  exact this
 have := any_of_specs (P := P) (Q := Q) (R := R) (fresh := fresh) (n := k) (a := a) (w := w) (tail := l.drop k) hB hR hop' (fun j => by simp [List.getElem?_drop]) (by simp) (fun u w1 => htail u _ w1 rfl) k
  (Array.replicate l.toArray.size false) (slotOf l.toArray a) w.drew inv0 hcnt ⟨fun k _ hl => (by rw [getD_replicate_false] at hl; cases hl), fun k _ hl => (by rw [getD_replicate_false] at hl; cases hl), fun j k _ _ _ hl => (by rw [getD_replicate_false] at hl; cases hl)⟩ ((Below.refl _ _).drew)
 rw [putAll_slot, show k + (l.toArray.size - k) = l.toArray.size by omega] at this
 exact wpAnyIn_of_wpAny (by simpa using hd) hno _ _ _ _ this
end
end Go.Proofs.YtlabfpjlckdmfaaGreat
