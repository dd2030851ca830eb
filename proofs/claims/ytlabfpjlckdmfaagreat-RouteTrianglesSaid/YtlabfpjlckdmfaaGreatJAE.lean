/- Texts joined: JAE. -/
import Derived.Test.YtlabfpjlckdmfaaGreatJAD
import Derived.Test.YtlabfpjlckdmfaaGreatProg
import Derived.Shelf.SlSortCmp.Insertion1
import Derived.Test.YtlabfpjlckdmfaaGreatJAA
import Derived.Test.YtlabfpjlckdmfaaGreatJAB
import Derived.OpenShut
import Derived.Deep.Slices
import Derived.ChangeArms
import Derived.ChangeSlices
import Derived.WideShapes
import Derived.Test.YtlabfpjlckdmfaaGreatRows
import Derived.WalkKit
import Derived.ProofKit
import Derived.Below
import Derived.Carry
import Derived.ChangeSame
set_option linter.all false
namespace Go.Proofs.YtlabfpjlckdmfaaGreat
open Go Go.Sort
variable {α : Type} [Inhabited α] {lt l1 l2 : α → α → Bool}
structure MergeIn (l1 l2 : α → α → Bool) (a m b : Nat) (d : Array α) : Prop where
 am : a < m
 mb : m < b
 bs : b ≤ d.size
 s1 : SortedIn l2 a m d
 s2 : SortedIn l2 m b d
 ag : ∀ i j, a ≤ i → i < m → m ≤ j → j < b → l1 d[j]! d[i]! = l2 d[j]! d[i]!
structure Merged (l2 : α → α → Bool) (a b : Nat) (d d' : Array α) : Prop where
 p : PermIn a b d d'
 s : SortedIn l2 a b d'
theorem permIn_up {a b a' b' : Nat} {d d' : Array α} (h : PermIn a b d d') (ha : a' ≤ a) (hb : b ≤ b') (hs : b' ≤ d.size) : PermIn a' b' d d' := permIn_mono d d' a b a' b' ha hb hs h
theorem moved_swr {a b n : Nat} {d d1 d2 : Array α} {f : Nat → Nat} (h : Moved d d1 f) (hn : a + n ≤ b) (hb : b + n ≤ d.size) (h2 : Moved d1 d2 (swrI a b n)) : Moved d d2 (fun k => f (swrI a b n k)) := by
 refine ⟨h2.1.trans h.1, fun k hk => ?_⟩
 rw [h2.2 k (by rw [h.1]; exact hk)]
 exact h.2 _ (by unfold swrI; (repeat' split) <;> omega)
theorem Moved.congr {d d' : Array α} {f g : Nat → Nat} (h : Moved d d' f) (e : ∀ k, f k = g k) : Moved d d' g := ⟨h.1, fun k hk => by rw [h.2 k hk, e]⟩
theorem rotI_self (a b k : Nat) : rotI a b b k = k := by unfold rotI; (repeat' split) <;> omega
theorem rotI_none (m b k : Nat) (h : m ≤ b) : rotI m m b k = k := by unfold rotI; (repeat' split) <;> omega
theorem sym_mid (hS : SWO l2) {a m b s e mid : Nat} {d d1 : Array α} (h : MergeIn l1 l2 a m b d) (c : Cut l2 a m b s e d) (hmid : s + (e - m) = mid) (hv : Moved d d1 (rotI s m e)) :
  d1.size = d.size ∧ (a < s → s < mid → MergeIn l1 l2 a s mid d1) ∧ (mid < e → e < b → MergeIn l1 l2 mid e b d1) ∧ (¬ (a < s ∧ s < mid) → SortedIn l2 a mid d1) ∧ (¬ (mid < e ∧ e < b) → SortedIn l2 mid b d1) ∧
   (∀ i j, a ≤ i → i < mid → mid ≤ j → j < b → l2 d1[j]! d1[i]! = false) := by
 obtain ⟨x1, x2, x3, x4, x5⟩ := c.cross hS h.bs h.s1 h.s2 hv
 obtain ⟨k1, k2, k3, k4, -, -⟩ := c
 have hb := h.bs
 have g1 : ∀ k, k < s → d1[k]! = d[k]! := fun k hk => by rw [hv.2 k (by omega)]; congr 1; unfold rotI; (repeat' split) <;> omega
 have g2 : ∀ k, s ≤ k → k < s + (e - m) → d1[k]! = d[m + (k - s)]! := fun k hk hk2 => by rw [hv.2 k (by omega)]; congr 1; unfold rotI; (repeat' split) <;> omega
 have g3 : ∀ k, s + (e - m) ≤ k → k < e → d1[k]! = d[k - (e - m)]! := fun k hk hk2 => by rw [hv.2 k (by omega)]; congr 1; unfold rotI; (repeat' split) <;> omega
 have g4 : ∀ k, e ≤ k → k < b → d1[k]! = d[k]! := fun k hk hk2 => by rw [hv.2 k (by omega)]; congr 1; unfold rotI; (repeat' split) <;> omega
 subst hmid
 refine ⟨hv.1, fun h1 h2 => ⟨h1, h2, by rw [hv.1]; omega, x1, x2, fun i j i1 i2 j1 j2 => ?_⟩, fun h1 h2 => ⟨h1, h2, by rw [hv.1]; omega, x3, x4, fun i j i1 i2 j1 j2 => ?_⟩, fun hn => ?_, fun hn => ?_, x5⟩
 ·rw [g1 i i2, g2 j j1 j2]; exact h.ag _ _ i1 (by omega) (by omega) (by omega)
 ·rw [g3 i i1 i2, g4 j j1 j2]; exact h.ag _ _ (by omega) (by omega) (by omega) (by omega)
 ·by_cases e1 : a = s
  ·subst e1; exact x2
  ·have : s = s + (e - m) := by omega
   rw [← this]; exact x1
 ·by_cases e1 : s + (e - m) = e
  ·rw [e1]; exact x4
  ·have : e = b := by omega
   rw [← this]; exact x3
theorem MergeIn.kept {a' b' a m b : Nat} {d d' : Array α} (h : MergeIn l1 l2 a m b d) (hp : PermIn a' b' d d') (hb : b' ≤ a) : MergeIn l1 l2 a m b d' := by
 have g : ∀ k, a ≤ k → d'[k]! = d[k]! := fun k hk => hp.2.1 k (.inr (by omega))
 have := h.am
 refine ⟨h.am, h.mb, by rw [hp.1]; exact h.bs, fun i j hi hij hj => ?_, fun i j hi hij hj => ?_, fun i j i1 i2 j1 j2 => ?_⟩
 ·rw [g i hi, g j (by omega)]; exact h.s1 i j hi hij hj
 ·rw [g i (by omega), g j (by omega)]; exact h.s2 i j hi hij hj
 ·rw [g i i1, g j (by omega)]; exact h.ag i j i1 i2 j1 j2
theorem sorted_kept {a' b' a b : Nat} {d d' : Array α} (h : SortedIn lt a b d) (hp : PermIn a' b' d d') (hb : b' ≤ a ∨ b ≤ a') : SortedIn lt a b d' := by
 have g : ∀ k, a ≤ k → k < b → d'[k]! = d[k]! := fun k hk h2 => hp.2.1 k (by omega)
 intro i j hi hij hj
 rw [g i hi (by omega), g j (by omega) hj]; exact h i j hi hij hj
theorem sym_fin {a mid b : Nat} {d d1 d2 d3 : Array α} (ham : a ≤ mid) (hmb : mid ≤ b) (hb : b ≤ d.size) (p1 : PermIn a b d d1) (hx : ∀ i j, a ≤ i → i < mid → mid ≤ j → j < b → l2 d1[j]! d1[i]! = false)
  (h2 : Merged l2 a mid d1 d2) (h3 : Merged l2 mid b d2 d3) : Merged l2 a b d d3 := by
 have z1 := p1.1
 have z2 := h2.p.1
 have P2 : PermIn a b d1 d2 := permIn_up h2.p (Nat.le_refl _) hmb (by omega)
 have P3 : PermIn a b d2 d3 := permIn_up h3.p ham (Nat.le_refl _) (by omega)
 refine ⟨permIn_trans _ _ _ a b (permIn_trans _ _ _ a b p1 P2) P3, ?_⟩
 refine sorted_halves (c := mid) (sorted_kept h2.s h3.p (.inr (Nat.le_refl _))) h3.s ?_
 intro i j hi hi2 hj hj2
 have e1 : ∀ k, k < mid → d3[k]! = d2[k]! := fun k hk => h3.p.2.1 k (.inl hk)
 have e2 : ∀ k, mid ≤ k → d2[k]! = d1[k]! := fun k hk => h2.p.2.1 k (.inr hk)
 rw [e1 i hi2]
 refine permIn_all d2 d3 mid b (fun y => l2 y d2[i]! = false) (by omega) h3.p (fun k k1 k2 => ?_) j hj hj2
 rw [e2 k k1]
 exact permIn_all d1 d2 a mid (fun x => l2 d1[k]! x = false) (by omega) h2.p (fun q q1 q2 => hx q k q1 q2 k1 k2) i hi hi2
theorem Merged.none {a b : Nat} {d : Array α} (h : SortedIn l2 a b d) : Merged l2 a b d d := ⟨permIn_refl d a b, h⟩
theorem PermIn.moved_none {a m b : Nat} {d : Array α} (h : a = m ∨ m = b) (hm : m ≤ b) : Moved d d (rotI a m b) := by
 refine ⟨rfl, fun k _ => ?_⟩
 rcases h with rfl | rfl
 ·rw [rotI_none _ _ _ hm]
 ·rw [rotI_self]
def keyLt (key rank : α → Int) (x y : α) : Bool := decide (key x < key y) || (decide (key x = key y) && decide (rank x < rank y))
theorem keyLt_swo (key rank : α → Int) : SWO (keyLt key rank) := by
 refine ⟨fun x => ?_, fun x y z => ?_, fun x y z => ?_⟩
 ·unfold keyLt; simp
 ·unfold keyLt; simp only [Bool.or_eq_true, Bool.and_eq_true, decide_eq_true_eq]; omega
 ·unfold keyLt; simp only [Bool.or_eq_false_iff, Bool.and_eq_false_iff, decide_eq_false_iff_not]; omega
theorem keyLt_eq {key rank : α → Int} {x y : α} (h : rank y < rank x) : decide (key x < key y) = keyLt key rank x y := by
 unfold keyLt
 rw [show decide (rank x < rank y) = false from decide_eq_false (by omega)]
 simp
theorem stable_one {key rank : α → Int} {b c : Nat} {D : Array α} (hb : c ≤ D.size) (hr : ∀ i j, b ≤ i → i < j → j < c → rank D[i]! < rank D[j]!) :
  insertionSort (fun x y => decide (key x < key y)) D b c = insertionSort (keyLt key rank) D b c :=
 insertionSort_eq b c D hb fun p q h1 h2 h3 => keyLt_eq (hr q p h1 h2 h3)
end Go.Proofs.YtlabfpjlckdmfaaGreat

namespace Go.Proofs.YtlabfpjlckdmfaaGreat
open Go Go.Shelf Go.RowKit Go.Lib Go.Sort Go.Proofs
set_option maxRecDepth 1000000
variable {α : Type} [Inhabited α]
set_option maxHeartbeats 8000000 in
theorem swapRange_c (enc : α → Value) (g : Nat) (cb : Array Value) (blk off cap a b n : Nat) (d0 d : Array α) (w0 w : World)
  (R : Row1 enc w0 blk off d0) (hs : d0.size = d.size) (S : SW enc w0 blk off d w) (hab : a + n ≤ b) (hb : b + n ≤ d.size) (hsz : d.size < 4611686018427387904) :
  Calls Tryz.prog 155 #[.slice (some ⟨blk, off, none⟩) d.size cap, .int .i64 a, .int .i64 b, .int .i64 n, .func (.func g) #[] cb] w fun e w' => e = .returned (.tuple #[]) ∧
   ∃ d', SW enc w0 blk off d' w' ∧ Moved d d' (swrI a b n) ∧ ∀ lo hi, lo ≤ a → b + n ≤ hi → hi ≤ d.size → PermIn lo hi d d' := by
 have hcl0 := R.hO.cells
 simp only [Value.cells] at hcl0
 have hst := R.hO.store Tryz.prog
 have mixed : Tryz.prog.follows Departure.mixedOrders = true := by kernel_rfl
 have S0 : Aside (SW enc w0 blk off d w) := S
 clear S
 go_enter Tryz.func155, Tryz.ntmps155
 go_wp2
 go_loopg [10] n (fun gx s wr => ∃ (i : Nat) (dk : Array α), s = .int .i64 i ∧ i ≤ n ∧ n - i ≤ gx ∧ dk.size = d.size ∧ Aside (SW enc w0 blk off dk wr) ∧ Aside (Moved d dk (swrI a b i) ∧ ∀ lo hi, lo ≤ a → b + n ≤ hi → hi ≤ d.size → PermIn lo hi d dk))
 case atStart => exact ⟨0, d, by first | rfl | go_num, Nat.zero_le _, by omega, rfl, S0, ⟨⟨rfl, fun k _ => by rw [swrI_zero]⟩, fun lo hi _ _ _ => permIn_refl d lo hi⟩⟩
 case round =>
  clear S0
  obtain ⟨i, dk, rfl, hin, hg1, hsk, S1, HM⟩ := hrel
  by_cases hlt : i < n
  ·have hltz : (i : Int) < (n : Int) := by omega
   have HM2 : Aside (Moved d (swp dk (a + i) (b + i)) (swrI a b (i + 1)) ∧ ∀ lo hi, lo ≤ a → b + n ≤ hi → hi ≤ d.size → PermIn lo hi d (swp dk (a + i) (b + i))) :=
    ⟨swrI_step HM.out.1 hlt hab hb, fun lo hi h1 h2 h3 => permIn_trans _ _ _ lo hi (HM.out.2 lo hi h1 h2 h3) (swp_permIn dk lo hi (a + i) (b + i) (by omega) (by omega) (by omega) (by omega) (by rw [hsk]; exact h3))⟩
   clear HM
   go_wp2_with fail
   obtain ⟨iN1, hiN1⟩ : ∃ q, q = (a + i) := ⟨_, rfl⟩
   obtain ⟨jN1, hjN1⟩ : ∃ q, q = (b + i) := ⟨_, rfl⟩
   have ea1 : (((a : Int) + (i : Int))).toNat = iN1 := by omega
   have pa1 : (0 : Int) ≤ ((a : Int) + (i : Int)) := by omega
   have ba1 : ((a : Int) + (i : Int)) < (d.size : Int) := by omega
   have ra1 : IntKind.i64.wrap (((a : Int) + (i : Int))) = ((a : Int) + (i : Int)) := by rw [IntKind.wrap_i64]; omega
   have ec1 : (((b : Int) + (i : Int))).toNat = jN1 := by omega
   have pc1 : (0 : Int) ≤ ((b : Int) + (i : Int)) := by omega
   have bc1 : ((b : Int) + (i : Int)) < (d.size : Int) := by omega
   have rc1 : IntKind.i64.wrap (((b : Int) + (i : Int))) = ((b : Int) + (i : Int)) := by rw [IntKind.wrap_i64]; omega
   obtain ⟨x1, hx1⟩ : ∃ x, x = dk[(a + i)]! := ⟨_, rfl⟩
   obtain ⟨y1, hy1⟩ : ∃ x, x = dk[(b + i)]! := ⟨_, rfl⟩
   have S2 : Aside (SW enc w0 blk off (swp dk ((a + i)) ((b + i))) ((wr.setCell ⟨blk, off + iN1, none⟩ (enc y1)).setCell ⟨blk, off + jN1, none⟩ (enc x1)).drew) := by rw [hiN1, hjN1, hx1, hy1]; exact S1.out.swapped R ((a + i)) ((b + i)) (by omega) (by omega)
   have ca1 := S1.out.c1 R (by omega) ((a + i)) (by omega)
   have cb1 := S1.out.c1 R (by omega) ((b + i)) (by omega)
   have fa1 := S1.out.f1 R (by omega) ((a + i)) (by omega)
   have fb1 := S1.out.f1 R (by omega) ((b + i)) (by omega)
   obtain ⟨u1, cc1⟩ := S1.out.c2 R (by omega) ((a + i)) ((b + i)) (by omega) (by omega) (enc y1)
   rw [← hjN1, ← hiN1] at cc1
   rw [← hx1, ← hiN1] at ca1
   rw [← hy1, ← hjN1] at cb1
   rw [← hiN1] at fa1
   rw [← hjN1] at fb1
   clear S1 hx1 hy1 hiN1 hjN1
   go_wp2_with fail
   go_big_region_o
   clear ca1 cb1 cc1 fa1 fb1
   generalize ((wr.setCell ⟨blk, off + iN1, none⟩ (enc y1)).setCell ⟨blk, off + jN1, none⟩ (enc x1)).drew = w2 at S2 ⊢
   clear ea1 ec1 ra1 rc1 pa1 pc1 ba1 bc1
   go_wp2
   go_roundg (n - (i + 1))
   case measure => omega
   case rel => exact ⟨i + 1, swp dk (a + i) (b + i), by first | rfl | go_num | (congr 1; omega), by omega, Nat.le_refl _, by rw [size_swp]; exact hsk, S2, HM2⟩
  ·have hltz : ¬ (i : Int) < (n : Int) := by omega
   have e : i = n := by omega
   subst e
   go_wp2
   go_end0
   exact ⟨rfl, dk, S1.out, HM.out.1, HM.out.2⟩
set_option maxHeartbeats 8000000 in
theorem rotate_c (enc : α → Value) (g : Nat) (cb : Array Value) (blk off cap a m b : Nat) (d0 d : Array α) (w0 w : World)
  (R : Row1 enc w0 blk off d0) (hs : d0.size = d.size) (S : SW enc w0 blk off d w) (ham : a < m) (hmb : m < b) (hb : b ≤ d.size) (hsz : d.size < 4611686018427387904) :
  Calls Tryz.prog 148 #[.slice (some ⟨blk, off, none⟩) d.size cap, .int .i64 a, .int .i64 m, .int .i64 b, .func (.func g) #[] cb] w fun e w' => e = .returned (.tuple #[]) ∧
   ∃ d', SW enc w0 blk off d' w' ∧ Moved d d' (rotI a m b) ∧ PermIn a b d d' := by
 have S0 : Aside (SW enc w0 blk off d w) := S
 clear S
 go_enter Tryz.func148, Tryz.ntmps148
 go_wp2
 go_loopg [10, 11] (b - a) (fun gx s t wr => ∃ (i j : Nat) (dk : Array α) (f : Nat → Nat), s = .int .i64 i ∧ t = .int .i64 j ∧ 0 < i ∧ 0 < j ∧ i ≤ m - a ∧ j ≤ b - m ∧ i + j ≤ gx ∧ dk.size = d.size ∧ Aside (SW enc w0 blk off dk wr) ∧
  Aside (Moved d dk f ∧ (∀ k, f (rotI (m - i) m (m + j) k) = rotI a m b k) ∧ PermIn a b d dk))
 case atStart => exact ⟨m - a, b - m, d, id, by first | rfl | go_num | (congr 1; omega), by first | rfl | go_num | (congr 1; omega), by omega, by omega, Nat.le_refl _, Nat.le_refl _, by omega, rfl, S0, Moved.refl d, fun k => by rw [show m - (m - a) = a by omega, show m + (b - m) = b by omega]; rfl, permIn_refl d a b⟩
 case round =>
  clear S0
  obtain ⟨i, j, dk, f, rfl, rfl, hi0, hj0, him, hjb, hg1, hsk, S1, HM⟩ := hrel
  by_cases heq : i = j
  ·subst heq
   have hc := fun w1 (h : SW enc w0 blk off dk w1) => swapRange_c enc g cb blk off cap (m - i) m i d0 dk w0 w1 R (by omega) h (by omega) (by omega) (by omega)
   rw [hsk] at hc
   have HC := hI9 hc
   clear hc
   have e1 : ((m : Int) - (i : Int)) = ((m - i : Nat) : Int) := by omega
   go_wp2_with (go_at_call 155; refine (HC.out _ S1.out).mono ?_; rintro e w2 ⟨rfl, d2, S2, M2, P2⟩)
   go_end0
   refine ⟨rfl, d2, S2, ?_, permIn_trans _ _ _ a b HM.out.2.2 (P2 a b (by omega) (by omega) (by omega))⟩
   refine (moved_swr HM.out.1 (by omega) (by omega) M2).congr fun k => ?_
   rw [rot_eq (by omega), HM.out.2.1]
  ·have hne : ((i : Int) != (j : Int)) = true := by simp; omega
   by_cases hgt : j < i
   ·have hgz : (j : Int) < (i : Int) := by omega
    have hc := fun w1 (h : SW enc w0 blk off dk w1) => swapRange_c enc g cb blk off cap (m - i) m j d0 dk w0 w1 R (by omega) h (by omega) (by omega) (by omega)
    rw [hsk] at hc
    have HC := hI9 hc
    clear hc
    have e1 : ((m : Int) - (i : Int)) = ((m - i : Nat) : Int) := by omega
    go_wp2_with (go_at_call 155; refine (HC.out _ S1.out).mono ?_; rintro e w2 ⟨rfl, d2, S2, M2, P2⟩)
    go_roundg (i - j + j)
    case measure => omega
    case rel =>
     refine ⟨i - j, j, d2, fun k => f (swrI (m - i) m j k), by first | rfl | go_num | (congr 1; omega), rfl, by omega, hj0, by omega, hjb, Nat.le_refl _, M2.1.trans hsk, S2, moved_swr HM.out.1 (by omega) (by omega) M2, fun k => ?_, permIn_trans _ _ _ a b HM.out.2.2 (P2 a b (by omega) (by omega) (by omega))⟩
     show f (swrI _ _ _ _) = _
     rw [rot_gt (by omega) hgt, HM.out.2.1]
   ·have hgz : ¬ (j : Int) < (i : Int) := by omega
    have hc := fun w1 (h : SW enc w0 blk off dk w1) => swapRange_c enc g cb blk off cap (m - i) (m + j - i) i d0 dk w0 w1 R (by omega) h (by omega) (by omega) (by omega)
    rw [hsk] at hc
    have HC := hI9 hc
    clear hc
    have e1 : ((m : Int) - (i : Int)) = ((m - i : Nat) : Int) := by omega
    have e2 : ((m : Int) + (j : Int) - (i : Int)) = ((m + j - i : Nat) : Int) := by omega
    go_wp2_with (go_at_call 155; refine (HC.out _ S1.out).mono ?_; rintro e w2 ⟨rfl, d2, S2, M2, P2⟩)
    go_roundg (i + (j - i))
    case measure => omega
    case rel =>
     refine ⟨i, j - i, d2, fun k => f (swrI (m - i) (m + j - i) i k), rfl, by first | rfl | go_num | (congr 1; omega), hi0, by omega, him, by omega, Nat.le_refl _, M2.1.trans hsk, S2, moved_swr HM.out.1 (by omega) (by omega) M2, fun k => ?_, permIn_trans _ _ _ a b HM.out.2.2 (P2 a b (by omega) (by omega) (by omega))⟩
     show f (swrI _ _ _ _) = _
     rw [rot_lt (by omega) (by omega), HM.out.2.1]
end Go.Proofs.YtlabfpjlckdmfaaGreat

namespace Go.Proofs.YtlabfpjlckdmfaaGreat
open Go Go.RowKit Go.Proofs
abbrev Tab := Nat → Nat → Int
def stpT (t : Tab) (a b : Nat) (x : Int) : Tab := fun i j => if i = a ∧ j = b then (if t a b < 0 ∨ x < t a b then x else t a b) else t i j
def lgT (S : Tab) : Nat → Tab
 | 0 => fun _ _ => -1
 | k + 1 => stpT (stpT (lgT S k) (S k 0).toNat (S k 1).toNat (S k 2)) (S k 1).toNat (S k 0).toNat (S k 2)
def dgK (t : Tab) (m : Nat) : Tab := fun i j => if i = j ∧ i < m then 0 else t i j
def flS (t : Tab) (y a b : Nat) : Tab := if 0 ≤ t a y ∧ 0 ≤ t y b then stpT t a b (t a y + t y b) else t
def flB (y a : Nat) : Nat → Tab → Tab
 | 0, t => t
 | b + 1, t => flS (flB y a b t) y a b
def flA (n y : Nat) : Nat → Tab → Tab
 | 0, t => t
 | a + 1, t => flB y a n (flA n y a t)
def flO (n : Nat) : Nat → Tab → Tab
 | 0, t => t
 | y + 1, t => flA n y n (flO n y t)
def timT (S : Tab) (l n : Nat) : Tab := flO n n (dgK (lgT S l) n)
def TabIn (n : Nat) (B : Int) (t : Tab) : Prop := (∀ i, i < n → ∀ j, j < n → -1 ≤ t i j ∧ t i j ≤ B) ∧ ∀ i, i < n → t i i = 0
def TabRd (n : Nat) (B : Int) (y : Nat) (t0 t : Tab) : Prop := TabIn n (B + B) t ∧ ∀ i, i < n → t i y = t0 i y ∧ t y i = t0 y i
theorem TabRd.step {n y : Nat} {B : Int} {t0 t : Tab} (h0 : TabIn n B t0) (hB : 0 ≤ B) (hy : y < n) (h : TabRd n B y t0 t) {a b : Nat} (ha : a < n) (hb : b < n) : TabRd n B y t0 (flS t y a b) ∧ (0 ≤ t a y ∧ 0 ≤ t y b → 0 ≤ t a y + t y b ∧ t a y + t y b ≤ B + B) := by
 obtain ⟨⟨h1, h2⟩, h3⟩ := h
 have e1 := (h3 a ha).1
 have e2 := (h3 b hb).2
 have b1 := h0.1 a ha y hy
 have b2 := h0.1 y hy b hb
 have hyy := h2 y hy
 refine ⟨?_, fun _ => by omega⟩
 unfold flS
 by_cases hc : 0 ≤ t a y ∧ 0 ≤ t y b
 case neg => rw [if_neg hc]; exact ⟨⟨h1, h2⟩, h3⟩
 rw [if_pos hc]
 have hz : ∀ i j, ¬ (i = a ∧ j = b) → stpT t a b (t a y + t y b) i j = t i j := fun i j q => if_neg q
 have hs : stpT t a b (t a y + t y b) a b = if t a b < 0 ∨ t a y + t y b < t a b then t a y + t y b else t a b := if_pos ⟨rfl, rfl⟩
 have ha0 := h2 a ha
 refine ⟨⟨fun i hi j hj => ?_, fun i hi => ?_⟩, fun i hi => ⟨?_, ?_⟩⟩
 ·by_cases q : i = a ∧ j = b
  ·rw [q.1, q.2, hs]
   have := h1 a ha b hb
   split <;> omega
  ·rw [hz i j q]; exact h1 i hi j hj
 ·by_cases q : i = a ∧ i = b
  ·rw [q.1, show stpT t a b (t a y + t y b) a a = stpT t a b (t a y + t y b) a b by rw [← q.2, q.1], hs]
   have : t a b = 0 := by rw [← q.2, q.1]; exact ha0
   rw [this, if_neg (by omega)]
  ·rw [hz i i q]; exact h2 i hi
 ·by_cases q : i = a ∧ y = b
  ·obtain ⟨rfl, rfl⟩ := q
   rw [hs, if_neg (by omega)]
   exact e1
  ·rw [hz i y q]; exact (h3 i hi).1
 ·by_cases q : y = a ∧ i = b
  ·obtain ⟨rfl, rfl⟩ := q
   rw [hs, if_neg (by omega)]
   exact e2
  ·rw [hz y i q]; exact (h3 i hi).2
theorem TabRd.rowB {n y : Nat} {B : Int} {t0 t : Tab} (h0 : TabIn n B t0) (hB : 0 ≤ B) (hy : y < n) (h : TabRd n B y t0 t) {a : Nat} (ha : a < n) : ∀ b, b ≤ n → TabRd n B y t0 (flB y a b t)
 | 0, _ => h
 | b + 1, hb => (TabRd.step h0 hB hy (TabRd.rowB h0 hB hy h ha b (by omega)) ha (by omega)).1
theorem TabRd.rowA {n y : Nat} {B : Int} {t0 : Tab} (h0 : TabIn n B t0) (hB : 0 ≤ B) (hy : y < n) : ∀ a, a ≤ n → TabRd n B y t0 (flA n y a t0)
 | 0, _ => ⟨⟨fun i hi j hj => by have := h0.1 i hi j hj; show -1 ≤ t0 i j ∧ t0 i j ≤ B + B; omega, h0.2⟩, fun _ _ => ⟨rfl, rfl⟩⟩
 | a + 1, ha => TabRd.rowB h0 hB hy (TabRd.rowA h0 hB hy a (by omega)) (by omega) n (Nat.le_refl _)
theorem TabIn.flO {n : Nat} {B : Int} {t : Tab} (h : TabIn n B t) (hB : 0 ≤ B) : ∀ y, y ≤ n → TabIn n (B * 2 ^ y) (flO n y t)
 | 0, _ => by
  show TabIn n (B * 2 ^ 0) t
  simpa using h
 | y + 1, hy => by
  have ih := TabIn.flO h hB y (by omega)
  have hB' : 0 ≤ B * 2 ^ y := Int.mul_nonneg hB (Int.pow_nonneg (by omega))
  have := (TabRd.rowA (y := y) ih hB' (by omega) n (Nat.le_refl _)).1
  rw [show B * 2 ^ (y + 1) = B * 2 ^ y + B * 2 ^ y by rw [Int.pow_succ, ← Int.mul_assoc]; omega]
  exact this
structure NetOk (n : Nat) (S : Tab) (l : Nat) : Prop where
 a : ∀ k, k < l → 0 ≤ S k 0 ∧ S k 0 < n
 b : ∀ k, k < l → 0 ≤ S k 1 ∧ S k 1 < n
 ne : ∀ k, k < l → S k 0 ≠ S k 1
 t : ∀ k, k < l → 1 ≤ S k 2 ∧ S k 2 ≤ 200
theorem stpT_in {t : Tab} {a b : Nat} {x : Int} (hx : 1 ≤ x ∧ x ≤ 200) (h : ∀ i j, t i j = -1 ∨ (1 ≤ t i j ∧ t i j ≤ 200)) (i j : Nat) : stpT t a b x i j = -1 ∨ (1 ≤ stpT t a b x i j ∧ stpT t a b x i j ≤ 200) := by
 unfold stpT
 split
 ·split
  ·omega
  ·exact h a b
 ·exact h i j
theorem lgT_in {n l : Nat} {S : Tab} (h : NetOk n S l) : ∀ k, k ≤ l → ∀ i j, lgT S k i j = -1 ∨ (1 ≤ lgT S k i j ∧ lgT S k i j ≤ 200)
 | 0, _, _, _ => Or.inl rfl
 | k + 1, hk, i, j => stpT_in (h.t k (by omega)) (stpT_in (h.t k (by omega)) (lgT_in h k (by omega))) i j
theorem dgK_in {n l : Nat} {S : Tab} (h : NetOk n S l) : TabIn n 200 (dgK (lgT S l) n) := by
 refine ⟨fun i hi j hj => ?_, fun i hi => if_pos ⟨rfl, hi⟩⟩
 unfold dgK
 split
 ·omega
 ·have := lgT_in h l (Nat.le_refl _) i j; omega
theorem dgK_zero (t : Tab) : dgK t 0 = t := by
 funext i j; unfold dgK; rw [if_neg (by omega)]
theorem dgK_succ (t : Tab) (m : Nat) : (fun i j => if i = m ∧ j = m then 0 else dgK t m i j) = dgK t (m + 1) := by
 funext i j
 unfold dgK
 by_cases e : i = m ∧ j = m
 ·rw [if_pos e, if_pos (by omega)]
 ·rw [if_neg e]
  by_cases e2 : i = j ∧ i < m
  ·rw [if_pos e2, if_pos (by omega)]
  ·rw [if_neg e2, if_neg (by omega)]
theorem flO_step {n : Nat} {t : Tab} (h : TabIn n 200 t) (hn : n ≤ 8) {y a b : Nat} (hy : y < n) (ha : a < n) (hb : b < n) :
  (-1 ≤ flB y a b (flA n y a (flO n y t)) a y ∧ flB y a b (flA n y a (flO n y t)) a y ≤ 51200) ∧ -1 ≤ flB y a b (flA n y a (flO n y t)) y b ∧ flB y a b (flA n y a (flO n y t)) y b ≤ 51200 := by
 have h1 := TabIn.flO h (by omega) y (by omega)
 have hp : (2 : Int) ^ y ≤ 2 ^ 7 := by
  have : y ≤ 7 := by omega
  have h7 : ∀ m : Nat, m ≤ 7 → (2 : Int) ^ m ≤ 2 ^ 7 := by decide
  exact h7 y this
 have hB : (0 : Int) ≤ 200 * 2 ^ y := Int.mul_nonneg (by omega) (Int.pow_nonneg (by omega))
 have h2 := TabRd.rowB h1 hB hy (TabRd.rowA h1 hB hy a (by omega)) ha b (by omega)
 have e1 := h2.1.1 a ha y hy
 have e2 := h2.1.1 y hy b hb
 have : (2 : Int) ^ 7 = 128 := by decide
 omega
theorem timT_in {n l : Nat} {S : Tab} (h : NetOk n S l) (hn : n ≤ 8) : TabIn n 51200 (timT S l n) := by
 have h1 := TabIn.flO (dgK_in h) (by omega) n (Nat.le_refl _)
 have h7 : ∀ m : Nat, m ≤ 8 → (200 : Int) * 2 ^ m ≤ 51200 := by decide
 have := h7 n hn
 unfold timT
 exact ⟨fun i hi j hj => by have := h1.1 i hi j hj; omega, h1.2⟩
structure Sq (w : World) (T : TypeId) (lo hi g : Nat) (r : Nat → Nat) (n : Nat) (t : Tab) : Prop where
 gl : lo ≤ g ∧ g < hi ∧ hi ≤ w.heap.size
 rl : ∀ i, i < n → lo ≤ r i ∧ r i < hi ∧ r i ≠ g
 d : ∀ i, i < n → ∀ j, j < n → r i = r j → i = j
 o : ∀ i, i < n → ∃ c, n ≤ c ∧ c ≤ 9223372036854775807 ∧ w.cell? ⟨g, i, none⟩ = some (.slice (some ⟨r i, 0, none⟩) n c)
 b : ∀ i, i < n → ∃ cs, Blk w (r i) T cs ∧ ∀ j, j < n → cs[j]? = some (.int .i64 (t i j))
theorem cell_heap {w w' : World} {g : Nat} (h : w'.heap[g]? = w.heap[g]?) (i : Nat) : w'.cell? ⟨g, i, none⟩ = w.cell? ⟨g, i, none⟩ := by
 simp only [World.cell?, h]
theorem Sq.frame {w w' : World} {T : TypeId} {lo hi g n : Nat} {r : Nat → Nat} {t : Tab} (h : Sq w T lo hi g r n t) (hs : w.heap.size ≤ w'.heap.size) (hb : ∀ b, lo ≤ b → b < hi → w'.heap[b]? = w.heap[b]?) : Sq w' T lo hi g r n t :=
 ⟨⟨h.gl.1, h.gl.2.1, Nat.le_trans h.gl.2.2 hs⟩, h.rl, h.d, fun i hi => (h.o i hi).imp fun c q => ⟨q.1, q.2.1, (cell_heap (hb g h.gl.1 h.gl.2.1) i).trans q.2.2⟩, fun i hi => (h.b i hi).imp fun cs q => ⟨(hb (r i) (h.rl i hi).1 (h.rl i hi).2.1).trans q.1, q.2⟩⟩
theorem Sq.below {w w' : World} {T : TypeId} {lo hi g n : Nat} {r : Nat → Nat} {t : Tab} (h : Sq w T lo hi g r n t) (hb : Below w.heap.size w w') : Sq w' T lo hi g r n t :=
 h.frame hb.size fun b _ h2 => hb.block b (Nat.lt_of_lt_of_le h2 h.gl.2.2)
theorem Sq.alloc {w : World} {T : TypeId} {lo hi g n : Nat} {r : Nat → Nat} {t : Tab} (h : Sq w T lo hi g r n t) (o : Obj) : Sq (w.alloc o) T lo hi g r n t := h.below (bal (Below.refl _ _) o)
theorem Sq.far {w : World} {T : TypeId} {lo hi g n : Nat} {r : Nat → Nat} {t : Tab} (h : Sq w T lo hi g r n t) {k i : Nat} (hk : k < lo ∨ hi ≤ k) (u : Value) : Sq (w.setCell ⟨k, i, none⟩ u) T lo hi g r n t :=
 h.frame (by simp) fun b h1 h2 => Below.heap_setCell w ⟨k, i, none⟩ u b (by show b ≠ k; omega)
theorem Sq.set_ {w : World} {T : TypeId} {lo hi g n : Nat} {r : Nat → Nat} {t : Tab} (h : Sq w T lo hi g r n t) {a b : Nat} (ha : a < n) (x : Int) : Sq (w.setCell ⟨r a, b, none⟩ (.int .i64 x)) T lo hi g r n (fun i j => if i = a ∧ j = b then x else t i j) := by
 refine ⟨⟨h.gl.1, h.gl.2.1, by simpa using h.gl.2.2⟩, h.rl, h.d, fun i hi => ?_, fun i hi => ?_⟩
 ·obtain ⟨c, q1, q2, q3⟩ := h.o i hi
  exact ⟨c, q1, q2, (cell_heap (Below.heap_setCell w ⟨r a, b, none⟩ _ g (by show g ≠ r a; exact Ne.symm (h.rl a ha).2.2)) i).trans q3⟩
 ·obtain ⟨cs, q1, q2⟩ := h.b i hi
  by_cases e : i = a
  ·subst e
   refine ⟨_, q1.set_ b (.int .i64 x), fun j hj => ?_⟩
   rw [Array.getElem?_setIfInBounds]
   by_cases e : b = j
   ·subst e
    have := (Array.getElem?_eq_some_iff.1 (q2 b hj)).1
    rw [if_pos rfl, if_pos this, if_pos ⟨rfl, rfl⟩]
   ·rw [if_neg e, q2 j hj, if_neg (fun q => e q.2.symm)]
  ·refine ⟨cs, q1.far' (i := b) (f := r a) (fun q => e (h.d i hi a ha q)) (.int .i64 x), fun j hj => ?_⟩
   rw [q2 j hj, if_neg (fun q => e q.1)]
theorem Sq.cell {w : World} {T : TypeId} {lo hi g n : Nat} {r : Nat → Nat} {t : Tab} (h : Sq w T lo hi g r n t) {a b : Nat} (ha : a < n) (hb : b < n) : w.cell? ⟨r a, b, none⟩ = some (.int .i64 (t a b)) := by
 obtain ⟨cs, q1, q2⟩ := h.b a ha
 rw [q1.cell b]
 exact q2 b hb
theorem Sq.fr {w : World} {T : TypeId} {lo hi g n : Nat} {r : Nat → Nat} {t : Tab} (h : Sq w T lo hi g r n t) {a : Nat} (ha : a < n) (b : Nat) : w.frozen? ⟨r a, b, none⟩ = false := by
 obtain ⟨cs, q1, q2⟩ := h.b a ha
 exact q1.frozen b
def shW (w : World) (ra b : Nat) (t x : Int) : World := if t < 0 ∨ x < t then w.setCell ⟨ra, b, none⟩ (.int .i64 x) else w
theorem Sq.sh {w : World} {T : TypeId} {lo hi g n : Nat} {r : Nat → Nat} {t : Tab} (h : Sq w T lo hi g r n t) {a b : Nat} (ha : a < n) (x : Int) : Sq (shW w (r a) b (t a b) x) T lo hi g r n (stpT t a b x) := by
 unfold shW
 by_cases e : t a b < 0 ∨ x < t a b
 ·rw [if_pos e]
  have := h.set_ (b := b) ha x
  rw [show (fun i j => if i = a ∧ j = b then x else t i j) = stpT t a b x by funext i j; unfold stpT; rw [if_pos e]] at this
  exact this
 ·rw [if_neg e]
  rw [show stpT t a b x = t by
   funext i j; unfold stpT; rw [if_neg e]
   by_cases q : i = a ∧ j = b
   ·rw [if_pos q, q.1, q.2]
   ·rw [if_neg q]]
  exact h
theorem shW_size (w : World) (ra b : Nat) (t x : Int) : (shW w ra b t x).heap.size = w.heap.size := by unfold shW; split <;> simp
theorem shW_heap (w : World) (ra b k : Nat) (t x : Int) (hk : k ≠ ra) : (shW w ra b t x).heap[k]? = w.heap[k]? := by
 unfold shW; split
 ·exact Below.heap_setCell w ⟨ra, b, none⟩ _ k hk
 ·rfl
theorem Below.sh {B : Nat} {w w' : World} (h : Below B w w') {ra : Nat} (hr : B ≤ ra) (b : Nat) (t x : Int) : Below B w (shW w' ra b t x) := by
 unfold shW; split
 ·exact bset h hr _
 ·exact h
theorem Blk.sh {w : World} {k : Nat} {T : TypeId} {cs : Array Value} (h : Blk w k T cs) {ra : Nat} (hr : k ≠ ra) (b : Nat) (t x : Int) : Blk (shW w ra b t x) k T cs := (shW_heap w ra b k t x hr).trans h
theorem Sq.shFar {w : World} {T : TypeId} {lo hi g n : Nat} {r : Nat → Nat} {t : Tab} (h : Sq w T lo hi g r n t) {ra : Nat} (hr : ra < lo ∨ hi ≤ ra) (b : Nat) (s x : Int) : Sq (shW w ra b s x) T lo hi g r n t :=
 h.frame (by rw [shW_size]; exact Nat.le_refl _) fun k h1 h2 => shW_heap w ra b k s x (by omega)
end Go.Proofs.YtlabfpjlckdmfaaGreat

namespace Go.Proofs.YtlabfpjlckdmfaaGreat
open Go Go.RowKit Go.Proofs Go.ChangeShapes Go.WideShapes Go.ChangeAt Go.Deep
set_option maxRecDepth 100000
set_option maxHeartbeats 4000000
theorem Tryz.undInt : Tryz.prog.underlying 3 = some (.int .i64) := by kernel_rfl
section
variable {H : Type} {enc : TypeId × Value → H} {W : World} {sp : Nat → Bool} {held : Bool}
theorem wf_I64 {n : Int} (h : (Lit.int .i64 n).wf = true) : I64 n := by
 exact bounds_i64 h
end
end Go.Proofs.YtlabfpjlckdmfaaGreat
namespace Go.Proofs.YtlabfpjlckdmfaaGreat
open Go Go.RowKit Go.Proofs Go.ChangeShapes Go.WideShapes Go.ChangeAt Go.Deep
set_option maxRecDepth 100000
set_option maxHeartbeats 4000000
def fieldAt (d : Option TypeDesc) (i : Nat) : Option (TypeId × Nat) := match d with | some (.struct fs) => fs[i]?.map (fun f => (f.type, f.offset)) | _ => none
theorem fieldAt_struct {P : Program} {T : TypeId} {i : Nat} {r : TypeId × Nat} (h : fieldAt (P.underlying T) i = some r) : ∃ fs, P.underlying T = some (.struct fs) := by
 unfold fieldAt at h; split at h
 ·rename_i fs e; exact ⟨fs, e⟩
 ·exact absurd h (by simp)
section
variable {H : Type} {enc : TypeId × Value → H} {W : World} {sp : Nat → Bool} {held : Bool}
theorem trod_field {P : Program} {fuel : Nat} {T t : TypeId} {o k i : Nat} {cs : List Value} {x : DataW H × List MemPlace} (hf : fieldAt (P.underlying T) i = some (t, o)) (hk : P.cellsOf t = k)
  (h : DataW.trod enc P W 0 sp held fuel T cs = some x) : ∃ m y, DataW.trod enc P W 0 sp held m t ((cs.drop o).take k) = some y := by
 obtain ⟨fs, hu⟩ := fieldAt_struct hf
 obtain ⟨xs, m, -, -, -, hl, hg⟩ := DataW.trod_struct hu h
 rw [hu] at hf
 simp only [fieldAt, Option.map_eq_some_iff, Prod.mk.injEq] at hf
 obtain ⟨f, hfi, e1, e2⟩ := hf
 have := hg i f hfi
 rw [e1, e2, hk] at this
 have hlt : i < xs.length := by rw [hl]; exact (Array.getElem?_eq_some_iff.1 hfi).1
 exact ⟨m, xs[i], by rw [this, List.getElem?_eq_getElem hlt]⟩
theorem take1 {n : Nat} {l : List Value} (h : l.length = n + 1) : ∃ c l', l = c :: l' ∧ l'.length = n := by
 cases l with
 | nil => simp at h
 | cons c l' => exact ⟨c, l', rfl, by simpa using h⟩
end
end Go.Proofs.YtlabfpjlckdmfaaGreat
namespace Go.Proofs.YtlabfpjlckdmfaaGreat
open Go Go.RowKit Go.Proofs Go.ChangeShapes Go.WideShapes Go.ChangeAt
theorem Tryz.laidOut' : laidOutB Tryz.prog = true := by kernel_rfl
section
variable {H : Type} {enc : TypeId × Value → H} {P : Program}
theorem post_kept {f : Func} {s : ChangeSpec} {apart fresh handsOn again : Bool} {W W' : World} {args : Array Value} {v : Value} {ds gs : List (DataW H)} {before pa pv : List MemPlace}
  (hW : DataW.Whole enc P f.params.toList s.vars apart W args.toList ds gs before) (hb : Below W.heap.size W W')
  (hres : ∀ (b : Nat) (sp : Nat → Bool) (hd : Bool), DataW.TrodAll enc P W' b sp hd f.resultTypes.toList (v.resultList f.resultTypes.size) (s.fn H (ds ++ gs)).results [])
  (hargs : ∀ sp : Nat → Bool, (∀ p ∈ before, sp p.block = true) → DataW.TrodAll enc P W' 0 sp true f.params.toList args.toList (s.fn H (ds ++ gs)).args pa)
  (hvars : ∀ sp : Nat → Bool, (∀ p ∈ before, sp p.block = true) → DataW.TrodVars enc P W' sp s.vars (s.fn H (ds ++ gs)).vars pv)
  (hps : before = pa ++ pv)
  (hok : ∀ (j : Nat) (t : TypeId) (r : Value), f.resultTypes[j]? = some t → (v.resultList f.resultTypes.size)[j]? = some r → Value.okWide P W' .any 0 t r) :
  s.post enc P f apart fresh handsOn again W args v W' := by
 have old := fun p (hp : p ∈ before) => hW.lt p hp
 have mark : ∀ p ∈ before, (fun b => decide (b < W.heap.size)) p.block = true := fun p hp => decide_eq_true (old p hp)
 obtain ⟨-, -, -, -, -, hz, hn⟩ := id hW
 subst hps
 refine ⟨ds, gs, pa ++ pv, [], pa, pv, hW, hres _ _ _, hargs _ mark, hvars _ mark, World.keptBut_mono (fun p hp => ⟨hp, Or.inr (List.mem_append.1 hp)⟩) (hb.frame (· ∈ pa ++ pv)), fun _ => ⟨hok, _, _, ([] ++ pa) ++ pv, ⟨[] ++ pa, pv, trodAll_append (hargs _ (fun _ _ => rfl)) (hres _ _ _), hvars _ (fun _ _ => rfl), rfl, fun b off hp => ?_, fun ha => by simpa using hn ha⟩, fun p hp _ => by simpa using hp⟩⟩
 have hin : MemPlace.cell b off ∈ pa ++ pv := by simpa using hp
 exact (hb.frozen (p := ⟨b, off, none⟩) (old _ hin)).trans (hz b off hin)
end
end Go.Proofs.YtlabfpjlckdmfaaGreat

namespace Go.Proofs.YtlabfpjlckdmfaaGreat
open Go Go.RowKit Go.Proofs Go.ChangeShapes Go.WideShapes Go.ChangeAt Go.Deep
set_option maxRecDepth 100000
set_option maxHeartbeats 4000000
section
variable {H : Type} {enc : TypeId × Value → H} {W : World} {sp : Nat → Bool} {held : Bool}
theorem int_trod {fuel : Nat} {c : Value} {x : DataW H × List MemPlace} (h : DataW.trod enc Tryz.prog W 0 sp held fuel 3 [c] = some x) : ∃ n, c = .int .i64 n ∧ I64 n := by
 obtain ⟨n, e, -, w⟩ := DataW.trod_int Tryz.undInt h
 exact ⟨n, by simpa using e, wf_I64 w⟩
end
end Go.Proofs.YtlabfpjlckdmfaaGreat
