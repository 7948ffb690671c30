/- That functions of the program compute what the plain functions say: laws.FnClaimTrue. Printed by a program of mine. -/
import Derived.Test.YtjdebphkndfolaaMv
import Derived.Test.YtjdebphkndfolaaKA
import Derived.Test.YtjdebphkndfolaaKC
import Derived.Test.YtjdebphkndfolaaKD
import Derived.Test.YtjdebphkndfolaaKO
import Derived.Test.YtjdebphkndfolaaSP
namespace Go.Proofs.Ytjdebphkndfolaa
open Go.RowKit
set_option maxRecDepth 100000
def e_laws_FnClaimTrue : Entry := ⟨⟨[.c (.one (.b (.sl true .u8))), .c (.one (.b (.sl false .u8)))], []⟩, [.ls .u8, .ls .u8], ⟨[.c (.one (.b .bool))], []⟩, [.bool], sh_laws_FnClaimTrue⟩
def g_laws_FnClaimTrue : Env := mkEnv tab [(18, [], e_laws_sameGraph), (38, [], e_spec_ClaimGraph), (36, [], e_spec_DrawClaimGraph), (45, [], e_impl_LsaOf), (37, [], e_impl_ClaimGraph), (46, [], e_impl_ClaimMoved)] 102 0 [(10, 19, [(0, true), (1, true), (2, true), (3, true), (4, true), (5, true), (6, true), (7, false), (8, true), (9, true), (10, true), (11, true), (12, true), (13, true), (14, true), (15, true), (16, true), (17, true), (18, true)], [])] []
theorem t_laws_FnClaimTrue : CtrOk Try.prog g_laws_FnClaimTrue.Γ := ctr_ok (l := [(18, [], e_laws_sameGraph), (38, [], e_spec_ClaimGraph), (36, [], e_spec_DrawClaimGraph), (45, [], e_impl_LsaOf), (37, [], e_impl_ClaimGraph), (46, [], e_impl_ClaimMoved)]) ⟨⟨p_laws_sameGraph, Try.call18⟩, ⟨⟨p_spec_ClaimGraph, Try.call38⟩, ⟨⟨p_spec_DrawClaimGraph, Try.call36⟩, ⟨⟨p_impl_LsaOf, Try.call45⟩, ⟨⟨p_impl_ClaimGraph, Try.call37⟩, ⟨⟨p_impl_ClaimMoved, Try.call46⟩, trivial⟩⟩⟩⟩⟩⟩
theorem p_laws_FnClaimTrue : GC Try.prog 14 e_laws_FnClaimTrue := gc_of (G := g_laws_FnClaimTrue) (c := Try.f14.body.getD .skip) bad_ok tabOk t_laws_FnClaimTrue mixed Try.func14 (by kernel_rfl) Try.ntmps14 (code_ok' (G := g_laws_FnClaimTrue) (n := 0) (by kernel_rfl) (by kernel_rfl) trivial (by kernel_rfl)) (fun s => by kernel_rfl)
end Go.Proofs.Ytjdebphkndfolaa
