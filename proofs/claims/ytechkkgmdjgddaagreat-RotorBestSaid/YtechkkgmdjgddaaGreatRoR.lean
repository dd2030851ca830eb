/- Contracts: Flow of package rotor. -/
import Derived.Test.YtechkkgmdjgddaaGreatRoP
set_option linter.all false
namespace Go.Proofs.YtechkkgmdjgddaaGreat
open Go Go.RowKit Go.Proofs
set_option maxRecDepth 100000
set_option maxHeartbeats 4000000

def floLo (S : Tabs) (cl bu : Int) (wl wh tl th el eh nl nh : Int) (sl sh : Int) : Int := okN (levE S cl bu wl wh tl th el eh nl nh sl sh) (partLo (bLo S.l sl sh wl wh) bu 1000)
def floHi (S : Tabs) (cl bu : Int) (wl wh tl th el eh nl nh : Int) (sl sh : Int) : Int := okN (levE S cl bu wl wh tl th el eh nl nh sl sh) (partHi (bHi S.l sl sh wl wh) bu 1000)
theorem part_ok {lo hi bu : Int} (h0 : 0 ≤ lo) (h1 : lo ≤ hi) (h2 : hi ≤ 100000) (b0 : 1 ≤ bu) (b1 : bu ≤ 1000) : vspan lo hi = true ∧ vspan (partLo lo bu 1000) (partHi hi bu 1000) = true := by
  have m1 : 0 ≤ lo * bu := Int.mul_nonneg h0 (by omega)
  have m2 : lo * bu ≤ hi * bu := Int.mul_le_mul_of_nonneg_right h1 (by omega)
  have m3 := mul_bd (a := hi) (b := bu) (A := 100000) (B := 1000) (by omega) (by omega) (by omega) (by omega)
  constructor
  · unfold vspan inB; simp only [Bool.and_eq_true, decide_eq_true_eq]; omega
  · unfold vspan inB partLo partHi cdiv; simp only [Bool.and_eq_true, decide_eq_true_eq]; omega

end Go.Proofs.YtechkkgmdjgddaaGreat
