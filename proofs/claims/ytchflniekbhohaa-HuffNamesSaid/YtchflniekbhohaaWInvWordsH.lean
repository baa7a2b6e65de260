/- Contracts and laws of the books, each proved once: texts of this claim joined in build order. -/
import Derived.Test.YtchflniekbhohaaWInvH
import Derived.Test.YtchflniekbhohaaWFootNeH

-- PRINTED BY print.sh 35421559b90ae4d0a3588c463048766b98c2df88dd9212a6774a882060cdf62d: not written by this session
namespace Go.Proofs.YtchflniekbhohaaW.PrintWords
open Go.RowKit
end Go.Proofs.YtchflniekbhohaaW.PrintWords
namespace Go.Proofs.YtchflniekbhohaaW.PrintLast
section
variable {ops : Array Oper} {a : Act} {o og : Oper} {g : Nat} {t : Tmp} {u : Bool}
end
end Go.Proofs.YtchflniekbhohaaW.PrintLast
