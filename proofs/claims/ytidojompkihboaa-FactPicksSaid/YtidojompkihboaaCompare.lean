/- strings.Compare, as the shelf has it. -/
import Derived.Test.YtidojompkihboaaXx0
import Derived.Test.YtidojompkihboaaShelf
namespace Go.Proofs.Ytidojompkihboaa.X
open Go.RowKit Go.Proofs.YtidojompkihboaaW.PrintWords Go.Proofs.YtidojompkihboaaW.PrintLast
def cmpB (a b : ByteArray) : Int := Lib.compareBytes a.data.toList b.data.toList
def strings_Compare.f (a0 a1 : ByteArray) : Option Int := some (cmpB a0 a1)
theorem strings_Compare.calls (a0 a1 : ByteArray) (r : Int) (w : World) (h : strings_Compare.f a0 a1 = some r) :
    Calls Try.prog 20 #[.string a0, .string a1] w fun e w' => e = .returned (.int .i64 r) ∧ Drawn0 w w' := by
  obtain rfl : cmpB a0 a1 = r := Option.some.inj h
  exact (Try.strings_Compare a0 a1 w).mono (fun e w' ⟨h1, h2⟩ => ⟨h1, ⟨0, by rw [h2]; rfl⟩⟩)
end Go.Proofs.Ytidojompkihboaa.X
