/- The rotor lies in a world with one more block. -/
import Derived.Test.YtechkkgmdjgddaaGreatLaQ
set_option linter.all false
namespace Go.Proofs.YtechkkgmdjgddaaGreat
open Go Go.RowKit Go.Proofs

theorem RotAt.alloc {W : World} {hx hy hv gx gy gv lx ly lv px py pv nx ny nv ax ay av cx cy cv dx dy dv : Value} {cl bu : Int} {S : Tabs} (h : RotAt W hx hy hv gx gy gv lx ly lv px py pv nx ny nv ax ay av cx cy cv dx dy dv cl bu S) (o : Obj) : RotAt (W.alloc o) hx hy hv gx gy gv lx ly lv px py pv nx ny nv ax ay av cx cy cv dx dy dv cl bu S := h.below (bal (Below.refl _ _) o)

end Go.Proofs.YtechkkgmdjgddaaGreat
