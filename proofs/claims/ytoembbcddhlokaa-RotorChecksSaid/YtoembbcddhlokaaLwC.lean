/- Plain law: the greatest weight with a margin. -/
import Derived.Test.YtoembbcddhlokaaDef
set_option linter.all false
namespace Go.Proofs.Ytoembbcddhlokaa
open Go Go.RowKit Go.Proofs

/-- The last of k numbers from a on for which f holds; a - 1: there is none. -/
def lastI (f : Int → Bool) (a : Int) : Nat → Int
  | 0 => a - 1
  | k + 1 => if f (a + k) = true then a + k else lastI f a k
theorem lastI_eq {f : Int → Bool} {a low : Int} : ∀ k : Nat, (∀ x y, a ≤ x → x ≤ y → y < a + k → f y = true → f x = true) → a - 1 ≤ low → low < a + k → (a ≤ low → f low = true) → (low + 1 < a + k → f (low + 1) = false) → lastI f a k = low
  | 0, _, h1, h2, _, _ => by unfold lastI; omega
  | k + 1, hm, h1, h2, h3, h4 => by
    unfold lastI
    by_cases e : low = a + k
    · have := h3 (by omega)
      rw [e] at this
      rw [if_pos this, e]
    · have hlt : low < a + k := by omega
      have hn : f (a + k) = false := by
        cases hf : f (a + k) with
        | false => rfl
        | true =>
          have := hm (low + 1) (a + k) (by omega) (by omega) (by omega) hf
          rw [h4 (by omega)] at this; cases this
      rw [if_neg (by simp [hn])]
      exact lastI_eq k (fun x y h1 h2 h3 => hm x y h1 h2 (by omega)) h1 hlt h3 (fun h => h4 (by omega))

theorem vspan_iff {l h : Int} : vspan l h = true ↔ -1000000 ≤ l ∧ l ≤ h ∧ h ≤ 1000000 := by
  unfold vspan inB; simp only [Bool.and_eq_true, decide_eq_true_eq]; omega
theorem Fits.sub {T : Tbl} {xl xh yl yh a b : Int} (h : Fits T xl xh yl yh) (h1 : xl ≤ a) (h2 : a ≤ b) (h3 : b ≤ xh) : Fits T a b yl yh := by
  have v := vspan_iff.1 h.vx
  refine ⟨h.t, vspan_iff.2 (by omega), h.vy, ?_, h.ly⟩
  have := h.lx
  unfold liesB at *
  simp only [Bool.and_eq_true, decide_eq_true_eq] at *
  omega

/-- The margin with weights up to n. -/
def marU (S : Tabs) (wl tl th el eh nl nh sl sh n : Int) : Int := margV S wl n tl th el eh nl nh sl sh
theorem marU_anti {S : Tabs} {wl wh tl th el eh nl nh sl sh : Int} (h1 : rightB S.h 0 100000 = true) (h2 : rightB S.g 0 100 = true) (hH : Fits S.h wl wh tl th) (hG : Fits S.g sl sh nl nh) {a b : Int} (ha : wl ≤ a) (hab : a ≤ b) (hb : b ≤ wh) :
    marU S wl tl th el eh nl nh sl sh b ≤ marU S wl tl th el eh nl nh sl sh a := by
  have fa := hH.sub (a := wl) (b := a) (by omega) ha (by omega)
  have fb := hH.sub (a := wl) (b := b) (by omega) (by omega) hb
  have s := (bnd_sub fb fa (by omega) hab (by omega) (by omega)).2
  have lg := bnd_lim h2 hG
  have la := bnd_lim h1 fa
  unfold marU margV needHi
  have m := Int.mul_le_mul_of_nonneg_right s (show 0 ≤ bHi S.g sl sh nl nh by omega)
  omega

def okW (S : Tabs) (wl tl th el eh nl nh sl sh res : Int) (n : Int) : Bool := decide (res ≤ marU S wl tl th el eh nl nh sl sh n)
def heavN (S : Tabs) (wl wh tl th el eh nl nh sl sh res : Int) : Int := lastI (okW S wl tl th el eh nl nh sl sh res) wl (wh - wl + 1).toNat
theorem heavN_eq {S : Tabs} {wl wh tl th el eh nl nh sl sh res low : Int} (h1 : rightB S.h 0 100000 = true) (h2 : rightB S.g 0 100 = true) (hH : Fits S.h wl wh tl th) (hG : Fits S.g sl sh nl nh)
    (g1 : wl - 1 ≤ low) (g2 : low ≤ wh) (g3 : wl ≤ low → okW S wl tl th el eh nl nh sl sh res low = true) (g4 : low < wh → okW S wl tl th el eh nl nh sl sh res (low + 1) = false) :
    heavN S wl wh tl th el eh nl nh sl sh res = low := by
  have hw := vspan_le hH.vx
  unfold heavN
  refine lastI_eq _ (fun x y hx hxy hy hf => ?_) g1 (by omega) g3 (fun h => g4 (by omega))
  unfold okW at *
  have := marU_anti h1 h2 hH hG (el := el) (eh := eh) hx hxy (by omega)
  simp only [decide_eq_true_eq] at *
  omega
end Go.Proofs.Ytoembbcddhlokaa
