import Derived.Test.YtidojompkihboaaDoorSplit
import Derived.Test.YtidojompkihboaaDoorName
import Derived.Deep.QuietTactic
import Derived.BigQuiet
namespace Go.Proofs.YtidojompkihboaaDoor.X
open Go.RowKit Go.Shelf Go.Proofs.YtidojompkihboaaDoorW.PrintWords Go.Proofs.YtidojompkihboaaDoorW.PrintLast Go.Proofs.YtidojompkihboaaDoorW.PrintMore

/-- What stands ahead of the first '#'. -/
def cutB (s : ByteArray) : ByteArray := if Lib.indexByte s.data.toList 35 < 0 then s else s.extract 0 (Lib.indexByte s.data.toList 35).toNat
set_option maxHeartbeats 800000 in
theorem cut_inner (s : ByteArray) (hs : s.size ≤ 4294967296) (w : World) :
    Calls Tryd.prog 39 #[.string s, .string ⟨#[35]⟩] w fun e w' => ∃ (y : ByteArray) (b : Bool) (n : Nat), e = .returned (.tuple #[.string (cutB s), .string y, .bool b]) ∧ w' = w.drewN n := by
  obtain ⟨q, hq⟩ : ∃ q, q = Lib.indexByte s.data.toList 35 := ⟨_, rfl⟩
  have hidx : ∀ w, Aside0 (Calls Tryd.prog 43 #[.string s, .string ⟨#[35]⟩] w fun e w' => e = .returned (.int .i64 q) ∧ w = w') := fun w => ⟨by rw [hq]; exact (Tryd.stringslite_Index_one s 35 w).mono (fun _ _ ⟨a, b⟩ => ⟨a, b.symm⟩)⟩
  have hge := Lib.indexByte_ge s.data.toList 35
  rw [← hq] at hge
  by_cases hneg : q < 0
  · have HC := Aside0.mk (show cutB s = s by unfold cutB; rw [← hq, if_pos hneg])
    clear hq
    go_enter Tryd.func39, Tryd.ntmps39
    go_wp2_with (go_at_call 43; refine (hidx _).out.mono ?_; rintro e w' ⟨rfl, rfl⟩)
    go_ret3
    exact ⟨_, _, 0, by rw [HC.out]; rfl, rfl⟩
  · have HC := Aside0.mk (show cutB s = s.extract 0 q.toNat by unfold cutB; rw [← hq, if_neg hneg])
    obtain ⟨i, hi⟩ : ∃ i : Nat, q = (i : Int) := ⟨q.toNat, by omega⟩
    subst hi
    have hlt : i < s.size := by
      have := (Lib.indexByte_some (hq.symm)).1
      have hl := (List.getElem?_eq_some_iff.1 this).1
      rw [data_length] at hl
      exact hl
    rw [Int.toNat_natCast] at HC
    clear hq hge hneg
    go_enter Tryd.func39, Tryd.ntmps39
    go_wp2_with (go_at_call 43; refine (hidx _).out.mono ?_; rintro e w' ⟨rfl, rfl⟩)
    go_quiet (fail)
    go_wp2
    go_ret3
    exact ⟨_, _, _, by rw [HC.out]; rfl, rfl⟩
set_option maxHeartbeats 400000 in
theorem cut_any (s : ByteArray) (hs : s.size ≤ 4294967296) (w : World) :
    Calls Tryd.prog 24 #[.string s, .string ⟨#[35]⟩] w fun e w' => ∃ (y : ByteArray) (b : Bool) (n : Nat), e = .returned (.tuple #[.string (cutB s), .string y, .bool b]) ∧ w' = w.drewN n := by
  go_enter Tryd.func24, Tryd.ntmps24
  go_wp2_with (go_at_call 39; refine (cut_inner s hs _).mono ?_; rintro e w' ⟨y, b, n, rfl, rfl⟩)
  go_ret3
  exact ⟨_, _, _, rfl, rfl⟩
def oddB (c : Int) : Bool := decide (c ≠ 9) && decide (c ≠ 10) && (decide (c < 32) || decide (126 < c))
set_option maxHeartbeats 400000 in
theorem odd_any (c : Int) (w : World) :
    Calls Tryd.prog 22 #[.int .u8 c] w fun e w' => e = .returned (.bool (oddB c)) ∧ w = w' := by
  go_enter Tryd.func22, Tryd.ntmps22
  go_wp2
  all_goals go_ret
  all_goals refine ⟨ret_bool ?_, rfl⟩
  all_goals (rw [Bool.eq_iff_iff]; unfold oddB; simp [*]; try omega)
def blankB (c : Nat) : Bool := decide (c = 32) || decide (c = 9)
set_option maxHeartbeats 400000 in
theorem blank_any (c : Nat) (w : World) :
    Calls Tryd.prog 26 #[.int .i32 c] w fun e w' => e = .returned (.bool (blankB c)) ∧ w = w' := by
  go_enter Tryd.func26, Tryd.ntmps26
  go_wp2
  all_goals go_ret
  all_goals refine ⟨ret_bool ?_, rfl⟩
  all_goals (rw [Bool.eq_iff_iff]; unfold blankB; simp [*]; try omega)
end Go.Proofs.YtidojompkihboaaDoor.X
