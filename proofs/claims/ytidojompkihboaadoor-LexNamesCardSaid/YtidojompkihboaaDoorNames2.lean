/- LexNames, walked, where the text is too long or no name. -/
import Derived.Test.YtidojompkihboaaDoorNamesPure
import Derived.Test.YtidojompkihboaaDoorXx2
import Derived.Test.YtidojompkihboaaDoorName
namespace Go.Proofs.YtidojompkihboaaDoor.X
open Go.RowKit Go.Proofs.YtidojompkihboaaDoorW.PrintWords Go.Proofs.YtidojompkihboaaDoorW.PrintLast Go.Proofs.YtidojompkihboaaDoorW.PrintMore
set_option maxHeartbeats 1000000 in
set_option maxRecDepth 100000 in
theorem names_long (k : Nat) (a0 : ByteArray) (a1 a2 : Int) (w : World) (hal : comptrollerlaw05_alive.f k = some true) (c8 : (a0.size : Int) > 3000) :
    Calls Tryd.prog 4 #[.string a0, .int .u8 a1, .int .u8 a2] w fun e w' => e = .returned (.bool true) ∧ Below w.heap.size w w' := by
  have A4 := Aside0.mk hal
  clear hal
  have c8b0 : decide (3000 < (a0.size : Int)) = true := decide_eq_true c8
  clear c8
  go_enter Tryd.func4, Tryd.ntmps4
  go_upto_region 3 with (first | (go_at_call 8; refine (comptrollerlaw05_alive.calls k true _ A4.out).mono ?_; rintro e w7 ⟨rfl, hb⟩) | ((with_reducible refine gate_callee (f := 8) rfl ?_); refine goesL_ (some 12) rfl rfl Tryd.func8 (by kernel_rfl) rfl #[] rfl (by first | done | rfl) ?_; (with_reducible refine (comptrollerlaw05_alive.calls k true _ A4.out).mono ?_); rintro e w7 ⟨rfl, hb⟩; refine ⟨_, rfl, ?_⟩))
  (try simp only [Act.put, List.setIfInBounds_toArray, List.set_cons_zero, List.set_cons_succ])
  (first | rw [c8b0] | (simp only [i64_w, i32_w]; rw [c8b0]) | skip)
  go_wp2
  go_ret
  exact ⟨rfl, hb⟩
set_option maxHeartbeats 1000000 in
set_option maxRecDepth 100000 in
theorem names_none (k : Nat) (a0 : ByteArray) (a1 a2 : Int) (w : World) (hal : comptrollerlaw05_alive.f k = some true) (c8 : ¬ (a0.size : Int) > 3000) (hnm : lex_Name.f a0 = some false) :
    Calls Tryd.prog 4 #[.string a0, .int .u8 a1, .int .u8 a2] w fun e w' => e = .returned (.bool true) ∧ Below w.heap.size w w' := by
  have A4 := Aside0.mk hal
  have A9 := Aside0.mk hnm
  clear hal hnm
  have c8b0 : decide (3000 < (a0.size : Int)) = false := decide_eq_false c8
  clear c8
  go_enter Tryd.func4, Tryd.ntmps4
  go_upto_region 3 with (first | (go_at_call 8; refine (comptrollerlaw05_alive.calls k true _ A4.out).mono ?_; rintro e w7 ⟨rfl, hb⟩) | ((with_reducible refine gate_callee (f := 8) rfl ?_); refine goesL_ (some 12) rfl rfl Tryd.func8 (by kernel_rfl) rfl #[] rfl (by first | done | rfl) ?_; (with_reducible refine (comptrollerlaw05_alive.calls k true _ A4.out).mono ?_); rintro e w7 ⟨rfl, hb⟩; refine ⟨_, rfl, ?_⟩))
  (try simp only [Act.put, List.setIfInBounds_toArray, List.set_cons_zero, List.set_cons_succ])
  (first | rw [c8b0] | (simp only [i64_w, i32_w]; rw [c8b0]) | skip)
  have HB := Aside0.mk hb
  clear hb
  go_wp2_with (go_at_call 14; refine (lex_Name.calls a0 false _ A9.out).mono ?_; rintro e w10 ⟨rfl, hb⟩)
  go_ret
  exact ⟨rfl, HB.out.trans (hb.mono HB.out.size)⟩
end Go.Proofs.YtidojompkihboaaDoor.X
