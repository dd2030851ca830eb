/- What the functions of package rotor return, told plainly. -/
import Derived.Test.YtoembbcddhlokaaLwB
import Derived.Test.YtoembbcddhlokaaRoC
set_option linter.all false
namespace Go.Proofs.Ytoembbcddhlokaa
open Go Go.RowKit Go.Proofs

/-- A row of the lower table that exceeds the higher one's. -/
def overRow (ls hs : List Int) : Bool := (List.range ls.length).any fun k => decide (nth hs k < nth ls k)
def overB (A C : List (List Int)) : Bool := (List.range A.length).any fun i => overRow (nthR A i) (nthR C i)

/-- The k-th table that Check looks at, with its limits. -/
def limT (S : Tabs) : Nat → Tbl
  | 0 => S.h | 1 => S.g | 2 => S.l | 3 => S.p | 4 => S.n | 5 => S.a | 6 => S.c | _ => S.d
def limLo : Nat → Int
  | 7 => 1 | _ => 0
def limHi : Nat → Int
  | 0 => 100000 | 1 => 100 | 2 => 100000 | 3 => 100000 | _ => 10000
def limsB (S : Tabs) : Bool := (List.range 8).all fun k => rightB (limT S k) (limLo k) (limHi k)
def ringsB (S : Tabs) (cl bu : Int) : Bool := decide (S.a.X = S.c.X) && decide (S.a.Y = S.c.Y) && inB cl 1 1000 && inB bu 1 1000
def rotB (S : Tabs) (cl bu : Int) : Bool := limsB S && ringsB S cl bu && !overB S.a.V S.c.V
def rotE (b : Bool) : Int := if b then 0 else 20
theorem rotE_t : rotE true = 0 := rfl
theorem rotE_f : rotE false = 20 := rfl

theorem limsB_no {S : Tabs} {k : Nat} (hk : k < 8) (h : rightB (limT S k) (limLo k) (limHi k) = false) : limsB S = false := by
  unfold limsB; rw [List.all_eq_false]; exact ⟨k, by simpa using hk, by simp [h]⟩
theorem limsB_yes {S : Tabs} (h : ∀ k, k < 8 → rightB (limT S k) (limLo k) (limHi k) = true) : limsB S = true := by
  unfold limsB; rw [List.all_eq_true]; intro k hk; exact h k (by simpa using hk)
theorem limsB_at {S : Tabs} (h : limsB S = true) {k : Nat} (hk : k < 8) : rightB (limT S k) (limLo k) (limHi k) = true := by
  unfold limsB at h; rw [List.all_eq_true] at h; exact h k (by simpa using hk)
theorem rotB_lims {S : Tabs} {cl bu : Int} (h : rotB S cl bu = true) : limsB S = true := by unfold rotB at h; simp only [Bool.and_eq_true] at h; exact h.1.1
theorem rotB_rings {S : Tabs} {cl bu : Int} (h : rotB S cl bu = true) : ringsB S cl bu = true := by unfold rotB at h; simp only [Bool.and_eq_true] at h; exact h.1.2
theorem rotB_h {S : Tabs} {cl bu : Int} (h : rotB S cl bu = true) : rightB S.h 0 100000 = true := limsB_at (rotB_lims h) (k := 0) (by omega)
theorem rotB_g {S : Tabs} {cl bu : Int} (h : rotB S cl bu = true) : rightB S.g 0 100 = true := limsB_at (rotB_lims h) (k := 1) (by omega)
theorem rotB_l {S : Tabs} {cl bu : Int} (h : rotB S cl bu = true) : rightB S.l 0 100000 = true := limsB_at (rotB_lims h) (k := 2) (by omega)
theorem rotB_p {S : Tabs} {cl bu : Int} (h : rotB S cl bu = true) : rightB S.p 0 100000 = true := limsB_at (rotB_lims h) (k := 3) (by omega)
theorem rotB_n {S : Tabs} {cl bu : Int} (h : rotB S cl bu = true) : rightB S.n 0 10000 = true := limsB_at (rotB_lims h) (k := 4) (by omega)
theorem rotB_a {S : Tabs} {cl bu : Int} (h : rotB S cl bu = true) : rightB S.a 0 10000 = true := limsB_at (rotB_lims h) (k := 5) (by omega)
theorem rotB_c {S : Tabs} {cl bu : Int} (h : rotB S cl bu = true) : rightB S.c 0 10000 = true := limsB_at (rotB_lims h) (k := 6) (by omega)
theorem rotB_d {S : Tabs} {cl bu : Int} (h : rotB S cl bu = true) : rightB S.d 1 10000 = true := limsB_at (rotB_lims h) (k := 7) (by omega)
theorem rotB_cl {S : Tabs} {cl bu : Int} (h : rotB S cl bu = true) : 1 ≤ cl ∧ cl ≤ 1000 := by
  have := rotB_rings h; unfold ringsB at this; simp only [Bool.and_eq_true] at this; exact inB_iff.1 this.1.2
theorem rotB_bu {S : Tabs} {cl bu : Int} (h : rotB S cl bu = true) : 1 ≤ bu ∧ bu ≤ 1000 := by
  have := rotB_rings h; unfold ringsB at this; simp only [Bool.and_eq_true] at this; exact inB_iff.1 this.2
theorem rotB_axes {S : Tabs} {cl bu : Int} (h : rotB S cl bu = true) : S.a.X = S.c.X ∧ S.a.Y = S.c.Y := by
  have := rotB_rings h; unfold ringsB at this; simp only [Bool.and_eq_true, decide_eq_true_eq] at this; exact this.1.1

def sel8 {α : Type} (a b c d e f g h : α) : Nat → α
  | 0 => a | 1 => b | 2 => c | 3 => d | 4 => e | 5 => f | 6 => g | _ => h
def sel4 {α : Type} (a b c d : α) : Nat → α
  | 0 => a | 1 => b | 2 => c | _ => d

def airB (wl wh tl th el eh nl nh : Int) : Bool := vspan wl wh && vspan tl th && vspan el eh && vspan nl nh
/-- What check returns. -/
def chkE (rot air bad off : Bool) : Int := if rot then (if air then (if bad || off then 1 else 0) else 21) else 20
theorem chkE_rot {a b c : Bool} : chkE false a b c = 20 := rfl
theorem chkE_air {b c : Bool} : chkE true false b c = 21 := rfl
theorem chkE_bad {c : Bool} : chkE true true true c = 1 := by cases c <;> rfl
theorem chkE_off {b : Bool} : chkE true true b true = 1 := by cases b <;> rfl
theorem chkE_ok : chkE true true false false = 0 := rfl
theorem chkE_zero {r a b c : Bool} (h : chkE r a b c = 0) : r = true ∧ a = true ∧ b = false ∧ c = false := by
  cases r <;> cases a <;> cases b <;> cases c <;> simp [chkE] at h ⊢

theorem Fits.mk' {T : Tbl} {lo hi xl xh yl yh : Int} (h : rightB T lo hi = true) (vx : vspan xl xh = true) (vy : vspan yl yh = true) (hl : lkE T xl xh yl yh = true) : Fits T xl xh yl yh := by
  unfold lkE at hl; simp only [Bool.and_eq_true] at hl
  exact ⟨right_t h, vx, vy, hl.1, hl.2⟩
theorem lkE_pos {T : Tbl} {lo hi : Int} (h : rightB T lo hi = true) : 0 < T.X.length ∧ 0 < T.Y.length := by
  have h1 := axisB_len (tblB_X (right_t h))
  have h2 := axisB_len (tblB_Y (right_t h))
  omega

/-- The power that is needed, that there is, and the margin. -/
def needLo (S : Tabs) (wl wh tl th nl nh sl sh : Int) : Int := bLo S.h wl wh tl th * bLo S.g sl sh nl nh / 100
def needHi (S : Tabs) (wl wh tl th nl nh sl sh : Int) : Int := (bHi S.h wl wh tl th * bHi S.g sl sh nl nh + 99) / 100
def margV (S : Tabs) (wl wh tl th el eh nl nh sl sh : Int) : Int := bLo S.p tl th el eh - needHi S wl wh tl th nl nh sl sh
/-- The rate of climb. -/
def ratV (S : Tabs) (wl wh tl th el eh cl n : Int) : Int := (bLo S.p tl th el eh - bHi S.l n n wl wh) / cl
def wakV (S : Tabs) (wl wh sl sh kl kh : Int) : Bool := decide (bLo S.a sl sh wl wh ≤ kh) && decide (kl ≤ bHi S.c sl sh wl wh)
/-- A number, or 0 behind an error. -/
def okN (e n : Int) : Int := if e = 0 then n else 0
theorem okN_ok {n : Int} : okN 0 n = n := rfl
theorem okN_no {e n : Int} (h : e ≠ 0) : okN e n = 0 := by simp [okN, h]
end Go.Proofs.Ytoembbcddhlokaa
