/- What every row's proof of this family shares: bytes that came in. -/
import Derived.Test.YtkeihpihphefgaaRows
import Derived.Test.YtkeihpihphefgaaD1
import Derived.ProofKit
import Derived.OpenShut
import Derived.Carry
namespace Go.Proofs.Ytkeihpihphefgaa
open Go.ChangeShapes Go.WideShapes Go.ChangeAt Go.RowKit

theorem row_own : ownKnob Try.prog.godebug = none := by kernel_rfl
theorem row_laid : laidOutB Try.prog = true := by kernel_rfl
theorem cellsByte : Try.prog.cellsOf 5 = 1 := by kernel_rfl
theorem open_bytes {H : Type} {enc : TypeId × Value → H} {W : World} {a : Option Addr} {len cap : Nat} {d : DataW H} {p : List MemPlace}
    (h : DataW.Trod enc Try.prog W 0 (fun _ => true) true 22 (.slice a len cap) d p) : RdB W a len cap := by
  obtain ⟨fuel, hf⟩ := h
  rcases open_ints Try.underlying22 Try.underlying5 cellsByte hf with ⟨hcs, hx⟩ | ⟨a', len', cap', zs, hcs, _, hl, hm, hz, hx, hcell, hwz⟩
  · simp [Value.cells] at hcs
    obtain ⟨rfl, rfl, rfl⟩ := hcs
    exact ⟨Nat.le_refl _, Nat.zero_le _, fun h => absurd h (by omega)⟩
  · simp [Value.cells] at hcs
    obtain ⟨rfl, rfl, rfl⟩ := hcs
    simp only [if_true] at hz
    exact rdB_of (zs := zs) (.inr ⟨a', rfl, hl, hm, hz, hcell, hwz⟩)
/-- The law's walk: it returns true; nothing that was there has turned. -/
def Holds (f : FuncId) (args : Array Value) (W : World) : Prop := Calls Try.prog f args W fun e W' => e = .returned (.bool true) ∧ Below W.heap.size W W'
end Go.Proofs.Ytkeihpihphefgaa
