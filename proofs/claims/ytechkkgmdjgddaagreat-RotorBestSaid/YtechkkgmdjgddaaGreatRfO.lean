/- Contracts: Margin, Flow, Rate of the reference of rotors. -/
import Derived.Test.YtechkkgmdjgddaaGreatRfN
import Derived.Test.YtechkkgmdjgddaaGreatRoQ
import Derived.Test.YtechkkgmdjgddaaGreatRoR
set_option linter.all false
namespace Go.Proofs.YtechkkgmdjgddaaGreat
open Go Go.RowKit Go.Proofs
set_option maxRecDepth 100000
set_option maxHeartbeats 4000000

theorem marg_no {S : Tabs} {cl bu wl wh tl th el eh nl nh sl sh : Int} (h : neeE S cl bu wl wh tl th el eh nl nh sl sh ≠ 0) : margE S cl bu wl wh tl th el eh nl nh sl sh = neeE S cl bu wl wh tl th el eh nl nh sl sh := by
  unfold neeE margE at *
  generalize rotB S cl bu = a1 at *
  generalize airB wl wh tl th el eh nl nh = a2 at *
  generalize vspan sl sh = a3 at *
  generalize lkE S.h wl wh tl th = a4 at *
  generalize lkE S.g sl sh nl nh = a5 at *
  generalize lkE S.p tl th el eh = a6 at *
  cases a1 <;> cases a2 <;> cases a3 <;> cases a4 <;> cases a5 <;> cases a6 <;> simp [chkE] at h ⊢
theorem marg_has {S : Tabs} {cl bu wl wh tl th el eh nl nh sl sh : Int} (h : neeE S cl bu wl wh tl th el eh nl nh sl sh = 0) : margE S cl bu wl wh tl th el eh nl nh sl sh = hasE S cl bu wl wh tl th el eh nl nh := by
  unfold neeE margE hasE at *
  generalize rotB S cl bu = a1 at *
  generalize airB wl wh tl th el eh nl nh = a2 at *
  generalize vspan sl sh = a3 at *
  generalize lkE S.h wl wh tl th = a4 at *
  generalize lkE S.g sl sh nl nh = a5 at *
  generalize lkE S.p tl th el eh = a6 at *
  cases a1 <;> cases a2 <;> cases a3 <;> cases a4 <;> cases a5 <;> cases a6 <;> simp [chkE] at h ⊢
theorem need_lim {S : Tabs} {wl wh tl th nl nh sl sh : Int} (h1 : rightB S.h 0 100000 = true) (h2 : rightB S.g 0 100 = true) (hH : Fits S.h wl wh tl th) (hG : Fits S.g sl sh nl nh) : 0 ≤ needLo S wl wh tl th nl nh sl sh ∧ needLo S wl wh tl th nl nh sl sh ≤ needHi S wl wh tl th nl nh sl sh ∧ needHi S wl wh tl th nl nh sl sh ≤ 100000 := by
  have l1 := bnd_lim h1 hH
  have l2 := bnd_lim h2 hG
  unfold needHi needLo
  have m1 := Int.mul_le_mul (show bLo S.h wl wh tl th ≤ bHi S.h wl wh tl th by omega) (show bLo S.g sl sh nl nh ≤ bHi S.g sl sh nl nh by omega) (by omega) (by omega)
  have m2 := Int.mul_nonneg (show 0 ≤ bLo S.h wl wh tl th by omega) (show 0 ≤ bLo S.g sl sh nl nh by omega)
  have m3 := Int.mul_le_mul (show bHi S.h wl wh tl th ≤ 100000 by omega) (show bHi S.g sl sh nl nh ≤ 100 by omega) (by omega) (by omega)
  generalize bLo S.h wl wh tl th * bLo S.g sl sh nl nh = a at *
  generalize bHi S.h wl wh tl th * bHi S.g sl sh nl nh = b at *
  omega

end Go.Proofs.YtechkkgmdjgddaaGreat
