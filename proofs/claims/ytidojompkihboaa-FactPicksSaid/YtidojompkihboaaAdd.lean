/- cent.Add where the sum fits. -/
import Derived.Test.YtidojompkihboaaXx0
import Derived.Laws.Bits64b
namespace Go.Proofs.Ytidojompkihboaa.X
open Go.RowKit Go.Proofs.YtidojompkihboaaW.PrintWords Go.Proofs.YtidojompkihboaaW.PrintLast Go.Proofs.YtidojompkihboaaW.PrintMore

theorem wrap_bv (x : BitVec 64) : IntKind.i64.wrap (x.toNat : Int) = x.toInt := by
  have h := x.isLt
  rw [IntKind.wrap_i64, BitVec.toInt_eq_toNat_cond]
  generalize x.toNat = n at h
  by_cases hc : 2 * n < 2 ^ 64
  · rw [if_pos hc]; omega
  · rw [if_neg hc]; omega
theorem bv_toInt (a : Int) (h1 : -9223372036854775808 ≤ a) (h2 : a ≤ 9223372036854775807) : (BitVec.ofInt 64 a).toInt = a := by
  rw [BitVec.toInt_ofInt]
  exact Int.bmod_eq_of_le (by omega) (by omega)
theorem bits_xor_bv (a b : Int) : BitVec.ofInt 64 (bits .xor .i64 a b) = BitVec.ofInt 64 a ^^^ BitVec.ofInt 64 b := by
  show BitVec.ofInt 64 (IntKind.i64.wrap ((BitVec.ofInt 64 a ^^^ BitVec.ofInt 64 b).toNat : Int)) = _
  rw [wrap_bv, BitVec.ofInt_toInt]
theorem bits_and_bv (a b : Int) : bits .and .i64 a b = (BitVec.ofInt 64 a &&& BitVec.ofInt 64 b).toInt := by
  show IntKind.i64.wrap ((BitVec.ofInt 64 a &&& BitVec.ofInt 64 b).toNat : Int) = _
  rw [wrap_bv]
theorem msb_int (a : Int) (h1 : -9223372036854775808 ≤ a) (h2 : a ≤ 9223372036854775807) : (BitVec.ofInt 64 a).msb = decide (a < 0) := by
  rw [BitVec.msb_eq_toInt, bv_toInt a h1 h2]
theorem add_fits (a b : Int) (ha : -4611686018427387904 ≤ a ∧ a ≤ 4611686018427387904) (hb : -4611686018427387904 ≤ b ∧ b < 4611686018427387904) :
    ¬ bits .and .i64 (bits .xor .i64 a (a + b)) (bits .xor .i64 b (a + b)) < 0 := by
  rw [bits_and_bv, bits_xor_bv, bits_xor_bv]
  intro h
  have hm : (((BitVec.ofInt 64 a ^^^ BitVec.ofInt 64 (a + b)) &&& (BitVec.ofInt 64 b ^^^ BitVec.ofInt 64 (a + b)))).msb = true := by
    rw [BitVec.msb_eq_toInt]; exact decide_eq_true h
  rw [BitVec.msb_and, BitVec.msb_xor, BitVec.msb_xor, msb_int a (by omega) (by omega), msb_int b (by omega) (by omega), msb_int (a + b) (by omega) (by omega)] at hm
  by_cases h1 : a < 0 <;> by_cases h2 : b < 0 <;> by_cases h3 : a + b < 0 <;> simp [h1, h2, h3] at hm <;> omega
set_option maxHeartbeats 400000 in
theorem add_any (a b : Int) (w : World) (ha : -4611686018427387904 ≤ a ∧ a ≤ 4611686018427387904) (hb : -4611686018427387904 ≤ b ∧ b < 4611686018427387904) :
    Calls Try.prog 26 #[.int .i64 a, .int .i64 b] w fun e w' => e = .returned (.tuple #[.int .i64 (a + b), .int .i64 0]) ∧ Drawn0 w w' := by
  have hw : wrap64 (a + b) = a + b := by unfold wrap64; omega
  have hf := add_fits a b ha hb
  rw [← hw] at hf
  have hfb : decide (bits .and .i64 (bits .xor .i64 a (wrap64 (a + b))) (bits .xor .i64 b (wrap64 (a + b))) < 0) = false := decide_eq_false hf
  have HW := Aside0.mk hw
  clear hw hf ha hb
  go_enter Try.func26, Try.ntmps26
  go_wp2
  go_ret2
  exact ⟨by rw [HW.out]; rfl, 0, rfl⟩
end Go.Proofs.Ytidojompkihboaa.X
