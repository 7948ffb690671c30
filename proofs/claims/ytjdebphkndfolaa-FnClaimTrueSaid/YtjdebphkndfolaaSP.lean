/- What functions compute, as plain functions: laws.FnClaimTrue. Printed by a program of mine. -/
import Derived.Test.YtjdebphkndfolaaMv
import Derived.Test.YtjdebphkndfolaaSA
import Derived.Test.YtjdebphkndfolaaSC
import Derived.Test.YtjdebphkndfolaaSD
import Derived.Test.YtjdebphkndfolaaSO
namespace Go.Proofs.Ytjdebphkndfolaa
open Go.RowKit
set_option maxRecDepth 100000
def sh_laws_FnClaimTrue (s : (List Int × List Int × Unit)) : Option (Bool × Unit) := (bif decide (((1048576 : Int) < nI (List.length s.1))) then some ((true, ())) else (bif decide (((1048576 : Int) < nI (List.length s.2.1))) then some ((true, ())) else (sh_spec_DrawClaimGraph ((s.1, ()))).bind fun r0 => (sh_impl_ClaimGraph ((r0.1, (r0.2.2.1, (r0.2.1, (r0.2.2.2.1, ())))))).bind fun r1 => (sh_spec_ClaimGraph ((r0.1, (r0.2.2.1, (r0.2.1, (r0.2.2.2.1, ())))))).bind fun r2 => (bif (!((r1.2.1 == r2.2.1))) then (bif (r1.2.1 == r2.2.1) then (sh_laws_sameGraph ((r1.1, (r1.2.2.1, (r2.1, (r2.2.2.1, ())))))).bind fun r3 => some ((r3.1, ())) else some ((false, ()))) else (sh_laws_sameGraph ((r1.1, (r1.2.2.1, (r2.1, (r2.2.2.1, ())))))).bind fun r4 => (bif (!r4.1) then (bif (r1.2.1 == r2.2.1) then (sh_laws_sameGraph ((r1.1, (r1.2.2.1, (r2.1, (r2.2.2.1, ())))))).bind fun r5 => some ((r5.1, ())) else some ((false, ()))) else (bif (!r1.2.1) then (bif (r1.2.1 == r2.2.1) then (sh_laws_sameGraph ((r1.1, (r1.2.2.1, (r2.1, (r2.2.2.1, ())))))).bind fun r6 => some ((r6.1, ())) else some ((false, ()))) else (sh_impl_LsaOf ((r0.1, (r0.2.2.1, (r0.2.1, ((1 : Int), ())))))).bind fun r7 => (sh_impl_ClaimGraph ((r0.1, (r0.2.2.1, (r0.2.1, (r7.2.2.2.1, ())))))).bind fun r8 => (bif r7.2.2.1 then (bif r8.2.1 then (sh_laws_sameGraph ((r8.1, (r8.2.2.1, (r0.1, (r0.2.2.1, ())))))).bind fun r9 => (bif r9.1 then (bif (!(decide ((r0.1 = (0 : Int))))) then (sh_impl_ClaimMoved ((r0.1, (r0.2.2.1, (r0.2.1, (r7.2.2.2.1, (Int.tmod (nI (List.length s.2.1)) r0.1, ()))))))).bind fun r10 => some ((decide ((nI (List.length r10.1) = (0 : Int))), ())) else none) else some ((false, ()))) else some ((false, ()))) else some ((false, ()))))))))
end Go.Proofs.Ytjdebphkndfolaa
