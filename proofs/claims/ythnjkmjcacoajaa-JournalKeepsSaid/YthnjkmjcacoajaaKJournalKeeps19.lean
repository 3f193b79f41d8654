import Derived.Test.YthnjkmjcacoajaaKJournalKeeps18
import Derived.Test.YthnjkmjcacoajaaKJournalKeeps14
-- PRINTED BY print.sh 35421559b90ae4d0a3588c463048766b98c2df88dd9212a6774a882060cdf62d: not written by this session
namespace Go.Proofs.YthnjkmjcacoajaaW.PrintWords
open Go.RowKit
end Go.Proofs.YthnjkmjcacoajaaW.PrintWords
namespace Go.Proofs.YthnjkmjcacoajaaW.PrintLast
section
variable {ops : Array Oper} {a : Act} {o og : Oper} {g : Nat} {t : Tmp} {u : Bool}
end
end Go.Proofs.YthnjkmjcacoajaaW.PrintLast

