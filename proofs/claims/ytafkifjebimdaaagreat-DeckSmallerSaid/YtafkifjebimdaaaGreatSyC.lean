/- Walks of Go's stable sort at elements of one cell: swapRange, rotate, symMerge. -/
import Derived.Test.YtafkifjebimdaaaGreatProg
import Derived.Test.YtafkifjebimdaaaGreatJAD
import Derived.Shelf.SlSortCmp.Insertion1
set_option linter.all false
namespace Go.Proofs.YtafkifjebimdaaaGreat
open Go Go.Shelf Go.RowKit Go.Lib Go.Sort Go.Proofs
set_option maxRecDepth 1000000
variable {α : Type} [Inhabited α]


set_option maxHeartbeats 8000000 in
/-- [a, a + n) and [b, b + n) are exchanged. -/
theorem swapRange_c (enc : α → Value) (g : Nat) (cb : Array Value) (blk off cap a b n : Nat) (d0 d : Array α) (w0 w : World)
    (R : Row1 enc w0 blk off d0) (hs : d0.size = d.size) (S : SW enc w0 blk off d w) (hab : a + n ≤ b) (hb : b + n ≤ d.size) (hsz : d.size < 4611686018427387904) :
    Calls Tryz.prog 151 #[.slice (some ⟨blk, off, none⟩) d.size cap, .int .i64 a, .int .i64 b, .int .i64 n, .func (.func g) #[] cb] w fun e w' => e = .returned (.tuple #[]) ∧
      ∃ d', SW enc w0 blk off d' w' ∧ Moved d d' (swrI a b n) ∧ ∀ lo hi, lo ≤ a → b + n ≤ hi → hi ≤ d.size → PermIn lo hi d d' := by
  have hcl0 := R.hO.cells
  simp only [Value.cells] at hcl0
  have hst := R.hO.store Tryz.prog
  have mixed : Tryz.prog.follows Departure.mixedOrders = true := by kernel_rfl
  have S0 : Aside (SW enc w0 blk off d w) := S
  clear S
  go_enter Tryz.func151, Tryz.ntmps151
  go_wp2
  go_loopg [10] n (fun gx s wr => ∃ (i : Nat) (dk : Array α), s = .int .i64 i ∧ i ≤ n ∧ n - i ≤ gx ∧ dk.size = d.size ∧ Aside (SW enc w0 blk off dk wr) ∧ Aside (Moved d dk (swrI a b i) ∧ ∀ lo hi, lo ≤ a → b + n ≤ hi → hi ≤ d.size → PermIn lo hi d dk))
  case atStart => exact ⟨0, d, by first | rfl | go_num, Nat.zero_le _, by omega, rfl, S0, ⟨⟨rfl, fun k _ => by rw [swrI_zero]⟩, fun lo hi _ _ _ => permIn_refl d lo hi⟩⟩
  case round =>
    clear S0
    obtain ⟨i, dk, rfl, hin, hg1, hsk, S1, HM⟩ := hrel
    by_cases hlt : i < n
    · have hltz : (i : Int) < (n : Int) := by omega
      have HM2 : Aside (Moved d (swp dk (a + i) (b + i)) (swrI a b (i + 1)) ∧ ∀ lo hi, lo ≤ a → b + n ≤ hi → hi ≤ d.size → PermIn lo hi d (swp dk (a + i) (b + i))) :=
        ⟨swrI_step HM.out.1 hlt hab hb, fun lo hi h1 h2 h3 => permIn_trans _ _ _ lo hi (HM.out.2 lo hi h1 h2 h3) (swp_permIn dk lo hi (a + i) (b + i) (by omega) (by omega) (by omega) (by omega) (by rw [hsk]; exact h3))⟩
      clear HM
      go_wp2_with fail
      obtain ⟨iN1, hiN1⟩ : ∃ q, q = (a + i) := ⟨_, rfl⟩
      obtain ⟨jN1, hjN1⟩ : ∃ q, q = (b + i) := ⟨_, rfl⟩
      have ea1 : (((a : Int) + (i : Int))).toNat = iN1 := by omega
      have pa1 : (0 : Int) ≤ ((a : Int) + (i : Int)) := by omega
      have ba1 : ((a : Int) + (i : Int)) < (d.size : Int) := by omega
      have ra1 : IntKind.i64.wrap (((a : Int) + (i : Int))) = ((a : Int) + (i : Int)) := by rw [IntKind.wrap_i64]; omega
      have ec1 : (((b : Int) + (i : Int))).toNat = jN1 := by omega
      have pc1 : (0 : Int) ≤ ((b : Int) + (i : Int)) := by omega
      have bc1 : ((b : Int) + (i : Int)) < (d.size : Int) := by omega
      have rc1 : IntKind.i64.wrap (((b : Int) + (i : Int))) = ((b : Int) + (i : Int)) := by rw [IntKind.wrap_i64]; omega
      obtain ⟨x1, hx1⟩ : ∃ x, x = dk[(a + i)]! := ⟨_, rfl⟩
      obtain ⟨y1, hy1⟩ : ∃ x, x = dk[(b + i)]! := ⟨_, rfl⟩
      have S2 : Aside (SW enc w0 blk off (swp dk ((a + i)) ((b + i))) ((wr.setCell ⟨blk, off + iN1, none⟩ (enc y1)).setCell ⟨blk, off + jN1, none⟩ (enc x1)).drew) := by rw [hiN1, hjN1, hx1, hy1]; exact S1.out.swapped R ((a + i)) ((b + i)) (by omega) (by omega)
      have ca1 := S1.out.c1 R (by omega) ((a + i)) (by omega)
      have cb1 := S1.out.c1 R (by omega) ((b + i)) (by omega)
      have fa1 := S1.out.f1 R (by omega) ((a + i)) (by omega)
      have fb1 := S1.out.f1 R (by omega) ((b + i)) (by omega)
      obtain ⟨u1, cc1⟩ := S1.out.c2 R (by omega) ((a + i)) ((b + i)) (by omega) (by omega) (enc y1)
      rw [← hjN1, ← hiN1] at cc1
      rw [← hx1, ← hiN1] at ca1
      rw [← hy1, ← hjN1] at cb1
      rw [← hiN1] at fa1
      rw [← hjN1] at fb1
      clear S1 hx1 hy1 hiN1 hjN1
      go_wp2_with fail
      go_big_region_o
      clear ca1 cb1 cc1 fa1 fb1
      generalize ((wr.setCell ⟨blk, off + iN1, none⟩ (enc y1)).setCell ⟨blk, off + jN1, none⟩ (enc x1)).drew = w2 at S2 ⊢
      clear ea1 ec1 ra1 rc1 pa1 pc1 ba1 bc1
      go_wp2
      go_roundg (n - (i + 1))
      case measure => omega
      case rel => exact ⟨i + 1, swp dk (a + i) (b + i), by first | rfl | go_num | (congr 1; omega), by omega, Nat.le_refl _, by rw [size_swp]; exact hsk, S2, HM2⟩
    · have hltz : ¬ (i : Int) < (n : Int) := by omega
      have e : i = n := by omega
      subst e
      go_wp2
      go_end0
      exact ⟨rfl, dk, S1.out, HM.out.1, HM.out.2⟩

set_option maxHeartbeats 8000000 in
/-- [a, m) and [m, b) change places. -/
theorem rotate_c (enc : α → Value) (g : Nat) (cb : Array Value) (blk off cap a m b : Nat) (d0 d : Array α) (w0 w : World)
    (R : Row1 enc w0 blk off d0) (hs : d0.size = d.size) (S : SW enc w0 blk off d w) (ham : a < m) (hmb : m < b) (hb : b ≤ d.size) (hsz : d.size < 4611686018427387904) :
    Calls Tryz.prog 145 #[.slice (some ⟨blk, off, none⟩) d.size cap, .int .i64 a, .int .i64 m, .int .i64 b, .func (.func g) #[] cb] w fun e w' => e = .returned (.tuple #[]) ∧
      ∃ d', SW enc w0 blk off d' w' ∧ Moved d d' (rotI a m b) ∧ PermIn a b d d' := by
  have S0 : Aside (SW enc w0 blk off d w) := S
  clear S
  go_enter Tryz.func145, Tryz.ntmps145
  go_wp2
  go_loopg [10, 11] (b - a) (fun gx s t wr => ∃ (i j : Nat) (dk : Array α) (f : Nat → Nat), s = .int .i64 i ∧ t = .int .i64 j ∧ 0 < i ∧ 0 < j ∧ i ≤ m - a ∧ j ≤ b - m ∧ i + j ≤ gx ∧ dk.size = d.size ∧ Aside (SW enc w0 blk off dk wr) ∧
    Aside (Moved d dk f ∧ (∀ k, f (rotI (m - i) m (m + j) k) = rotI a m b k) ∧ PermIn a b d dk))
  case atStart => exact ⟨m - a, b - m, d, id, by first | rfl | go_num | (congr 1; omega), by first | rfl | go_num | (congr 1; omega), by omega, by omega, Nat.le_refl _, Nat.le_refl _, by omega, rfl, S0, Moved.refl d, fun k => by rw [show m - (m - a) = a by omega, show m + (b - m) = b by omega]; rfl, permIn_refl d a b⟩
  case round =>
    clear S0
    obtain ⟨i, j, dk, f, rfl, rfl, hi0, hj0, him, hjb, hg1, hsk, S1, HM⟩ := hrel
    by_cases heq : i = j
    · subst heq
      have hc := fun w1 (h : SW enc w0 blk off dk w1) => swapRange_c enc g cb blk off cap (m - i) m i d0 dk w0 w1 R (by omega) h (by omega) (by omega) (by omega)
      rw [hsk] at hc
      have HC := Lib.hid hc
      clear hc
      have e1 : ((m : Int) - (i : Int)) = ((m - i : Nat) : Int) := by omega
      go_wp2_with (go_at_call 151; refine (HC.out _ S1.out).mono ?_; rintro e w2 ⟨rfl, d2, S2, M2, P2⟩)
      go_end0
      refine ⟨rfl, d2, S2, ?_, permIn_trans _ _ _ a b HM.out.2.2 (P2 a b (by omega) (by omega) (by omega))⟩
      refine (moved_swr HM.out.1 (by omega) (by omega) M2).congr fun k => ?_
      rw [rot_eq (by omega), HM.out.2.1]
    · have hne : ((i : Int) != (j : Int)) = true := by simp; omega
      by_cases hgt : j < i
      · have hgz : (j : Int) < (i : Int) := by omega
        have hc := fun w1 (h : SW enc w0 blk off dk w1) => swapRange_c enc g cb blk off cap (m - i) m j d0 dk w0 w1 R (by omega) h (by omega) (by omega) (by omega)
        rw [hsk] at hc
        have HC := Lib.hid hc
        clear hc
        have e1 : ((m : Int) - (i : Int)) = ((m - i : Nat) : Int) := by omega
        go_wp2_with (go_at_call 151; refine (HC.out _ S1.out).mono ?_; rintro e w2 ⟨rfl, d2, S2, M2, P2⟩)
        go_roundg (i - j + j)
        case measure => omega
        case rel =>
          refine ⟨i - j, j, d2, fun k => f (swrI (m - i) m j k), by first | rfl | go_num | (congr 1; omega), rfl, by omega, hj0, by omega, hjb, Nat.le_refl _, M2.1.trans hsk, S2, moved_swr HM.out.1 (by omega) (by omega) M2, fun k => ?_, permIn_trans _ _ _ a b HM.out.2.2 (P2 a b (by omega) (by omega) (by omega))⟩
          show f (swrI _ _ _ _) = _
          rw [rot_gt (by omega) hgt, HM.out.2.1]
      · have hgz : ¬ (j : Int) < (i : Int) := by omega
        have hc := fun w1 (h : SW enc w0 blk off dk w1) => swapRange_c enc g cb blk off cap (m - i) (m + j - i) i d0 dk w0 w1 R (by omega) h (by omega) (by omega) (by omega)
        rw [hsk] at hc
        have HC := Lib.hid hc
        clear hc
        have e1 : ((m : Int) - (i : Int)) = ((m - i : Nat) : Int) := by omega
        have e2 : ((m : Int) + (j : Int) - (i : Int)) = ((m + j - i : Nat) : Int) := by omega
        go_wp2_with (go_at_call 151; refine (HC.out _ S1.out).mono ?_; rintro e w2 ⟨rfl, d2, S2, M2, P2⟩)
        go_roundg (i + (j - i))
        case measure => omega
        case rel =>
          refine ⟨i, j - i, d2, fun k => f (swrI (m - i) (m + j - i) i k), rfl, by first | rfl | go_num | (congr 1; omega), hi0, by omega, him, by omega, Nat.le_refl _, M2.1.trans hsk, S2, moved_swr HM.out.1 (by omega) (by omega) M2, fun k => ?_, permIn_trans _ _ _ a b HM.out.2.2 (P2 a b (by omega) (by omega) (by omega))⟩
          show f (swrI _ _ _ _) = _
          rw [rot_lt (by omega) (by omega), HM.out.2.1]
end Go.Proofs.YtafkifjebimdaaaGreat
