/- Contracts: Level, Flow of package rotor. -/
import Derived.Test.YtechkkgmdjgddaaGreatRoL
set_option linter.all false
namespace Go.Proofs.YtechkkgmdjgddaaGreat
open Go Go.RowKit Go.Proofs
set_option maxRecDepth 100000
set_option maxHeartbeats 4000000

def levLo (S : Tabs) (cl bu : Int) (wl wh tl th el eh nl nh : Int) (sl sh : Int) : Int := okN (levE S cl bu wl wh tl th el eh nl nh sl sh) (bLo S.l sl sh wl wh)
def levHi (S : Tabs) (cl bu : Int) (wl wh tl th el eh nl nh : Int) (sl sh : Int) : Int := okN (levE S cl bu wl wh tl th el eh nl nh sl sh) (bHi S.l sl sh wl wh)

end Go.Proofs.YtechkkgmdjgddaaGreat
