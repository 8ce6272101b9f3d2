import Derived.Test.YtidojompkihboaaDoorXx2
namespace Go.Proofs.YtidojompkihboaaDoor.X
open Go.RowKit Go.Proofs.YtidojompkihboaaDoorW.PrintWords Go.Proofs.YtidojompkihboaaDoorW.PrintLast
theorem t1 : (lexLines ⟨#[0]⟩).2 = 5 := by kernel_rfl
theorem t2 : (splitB 11 (⟨#[97, 32, 98, 32, 35, 32, 99, 10, 10, 32, 100]⟩ : ByteArray)).length = 3 := by kernel_rfl
theorem t3 : Lib.goFieldsP blankB ⟨#[97, 32, 98]⟩ = [⟨#[97]⟩, ⟨#[98]⟩] := by kernel_rfl
theorem alive20 : comptrollerlaw05_alive.f 20 = some true := by kernel_rfl
end Go.Proofs.YtidojompkihboaaDoor.X
