/- FactKeys, in plain Lean: keys stand in one order, so the law's answer is true, whatever the three keys. -/
import Derived.Test.YtidojompkihboaaKeys
import Derived.Test.YtidojompkihboaaOrd
import Derived.Test.YtidojompkihboaaCanon
namespace Go.Proofs.Ytidojompkihboaa.X
open Go.RowKit Go.Proofs.YtidojompkihboaaW.PrintWords Go.Proofs.YtidojompkihboaaW.PrintLast Go.Proofs.YtidojompkihboaaW.PrintMore
theorem few_l0 (x0 l : List S27) (hl : l.length ≤ 1000000000) : ∀ (n i : Nat), l.length - i = n → ∀ k, n < k → ∃ r, comptrollerlaw09_Few.l0 k x0 l (l.length : Int) (i : Int) = some r ∧ (r = true → x0.length ≤ 150)
  | n, i, hn, 0, hk => absurd hk (Nat.not_lt_zero _)
  | n, i, hn, k + 1, hk => by
    rw [comptrollerlaw09_Few.l0]
    by_cases h : (i : Int) < (l.length : Int)
    · rw [if_pos h, if_pos (by omega), if_pos h]
      split
      · exact ⟨false, rfl, fun h => by cases h⟩
      · split
        · exact ⟨false, rfl, fun h => by cases h⟩
        · split
          · exact ⟨false, rfl, fun h => by cases h⟩
          · split
            · exact ⟨false, rfl, fun h => by cases h⟩
            · rw [show wrap64 ((i : Int) + 1) = ((i + 1 : Nat) : Int) by unfold wrap64; omega]
              exact few_l0 x0 l hl (n - 1) (i + 1) (by omega) k (by omega)
    · rw [if_neg h]
      exact ⟨_, rfl, fun h => by have := of_decide_eq_true h; omega⟩
theorem few_tot (l : List S27) (hl : l.length ≤ 1000000000) (k : Nat) (hk : l.length < k) : ∃ r, comptrollerlaw09_Few.f k l = some r ∧ (r = true → l.length ≤ 150) := few_l0 l l hl l.length 0 (by omega) k hk
theorem or_l0 (l : List Int) (hl : l.length ≤ 1000000000) : ∀ (n i : Nat), l.length - i = n → ∀ k, n < k → cmp_Or_int.l0 k 0 l (l.length : Int) (i : Int) = some (orL (l.drop i))
  | n, i, hn, 0, hk => absurd hk (Nat.not_lt_zero _)
  | n, i, hn, k + 1, hk => by
    rw [cmp_Or_int.l0]
    by_cases h : (i : Int) < (l.length : Int)
    · have hi : i < l.length := by omega
      have hr : rd l (i : Int) = l[i] := by simp [rd, List.getD_eq_getElem?_getD, List.getElem?_eq_getElem hi]
      rw [if_pos h, if_pos (by omega), if_pos h, List.drop_eq_getElem_cons hi, orL, hr]
      by_cases h0 : l[i] = 0
      · rw [if_pos h0, if_pos h0, show wrap64 ((i : Int) + 1) = ((i + 1 : Nat) : Int) by unfold wrap64; omega]
        exact or_l0 l hl (n - 1) (i + 1) (by omega) k (by omega)
      · rw [if_neg h0, if_neg h0]
    · rw [if_neg h, List.drop_eq_nil_of_le (by omega), orL]
theorem cmpInt_f (x y : Int) : cmp_Compare_int.f x y = some (cmpI x y) := by
  unfold cmp_Compare_int.f cmp_isNaN_int.f cmpI
  simp only [bne_self_eq_false, Option.bind_some, Bool.false_eq_true, if_false, gt_iff_lt]
  by_cases h : x < y
  · rw [if_pos h, if_pos h]
  · rw [if_neg h, if_neg h]
    by_cases h2 : y < x
    · rw [if_pos h2, if_pos h2]
    · rw [if_neg h2, if_neg h2]
theorem cmp_f (k : Nat) (hk : 5 < k) (x y : S30) : fact_Cmp.f k x.f0 x.f1 x.f2 x.f3 x.f4 y.f0 y.f1 y.f2 y.f3 y.f4 = some (cmpK x y) := by
  unfold fact_Cmp.f strings_Compare.f
  simp only [Option.bind_some, cmpInt_f]
  unfold cmp_Or_int.f
  have := or_l0 [cmpB x.f0 y.f0, cmpB x.f1 y.f1, cmpB x.f2 y.f2, cmpB x.f3 y.f3, cmpI x.f4 y.f4] (by simp) 5 0 rfl k hk
  rw [show ((0 : Nat) : Int) = 0 from rfl] at this
  rw [this]
  rfl
theorem bytes_rng : ∀ a b : List UInt8, -1 ≤ Lib.compareBytes a b ∧ Lib.compareBytes a b ≤ 1
  | [], [] => by simp [Lib.compareBytes]
  | [], _ :: _ => by simp [Lib.compareBytes]
  | _ :: _, [] => by simp [Lib.compareBytes]
  | a :: r, b :: t => by
    unfold Lib.compareBytes
    split
    · omega
    · split
      · omega
      · exact bytes_rng r t
theorem orL_rng : ∀ l : List Int, (∀ x ∈ l, -1 ≤ x ∧ x ≤ 1) → -1 ≤ orL l ∧ orL l ≤ 1
  | [], _ => by unfold orL; omega
  | x :: r, h => by
    unfold orL
    by_cases h0 : x = 0
    · rw [if_pos h0]; exact orL_rng r fun y hy => h y (List.mem_cons_of_mem _ hy)
    · rw [if_neg h0]; exact h x List.mem_cons_self
theorem key_rng (x y : S30) : -1 ≤ cmpK x y ∧ cmpK x y ≤ 1 := by
  refine orL_rng _ fun z hz => ?_
  simp only [List.mem_cons, List.not_mem_nil, or_false] at hz
  rcases hz with rfl | rfl | rfl | rfl | rfl
  · exact bytes_rng _ _
  · exact bytes_rng _ _
  · exact bytes_rng _ _
  · exact bytes_rng _ _
  · unfold cmpI
    by_cases h : x.f4 < y.f4
    · rw [if_pos h]; omega
    · by_cases h2 : y.f4 < x.f4
      · rw [if_neg h, if_pos h2]; omega
      · rw [if_neg h, if_neg h2]; omega
theorem keys_true (a b c : S30) : ∃ k, keysP.f k a.f0 a.f1 a.f2 a.f3 a.f4 b.f0 b.f1 b.f2 b.f3 b.f4 c.f0 c.f1 c.f2 c.f3 c.f4 = some true := by
  obtain ⟨r, hr, _⟩ := few_tot [⟨⟨a.f0, a.f1, a.f2, a.f3, a.f4⟩, 0⟩, ⟨⟨b.f0, b.f1, b.f2, b.f3, b.f4⟩, 0⟩, ⟨⟨c.f0, c.f1, c.f2, c.f3, c.f4⟩, 0⟩] (by simp) 10 (by simp)
  refine ⟨10, ?_⟩
  unfold keysP.f comptrollerlaw09_alive.f
  simp only [Option.bind_some, if_true, hr]
  cases r with
  | false => rfl
  | true =>
    simp only [if_true, cmp_f 10 (by omega), Option.bind_some]
    have e1 : sameK a b = (cmpK a b == 0) := by
      rw [Bool.eq_iff_iff, sameK_iff, beq_iff_eq, key3.eq]
    have r1 := key_rng a b
    have r2 := key3.anti a b
    rw [if_pos (show cmpK a b = wrap64 (-cmpK b a) by unfold wrap64; omega)]
    rw [if_pos (show ((cmpK a b == 0) == (a.f0.toList == b.f0.toList && (a.f1.toList == b.f1.toList && (a.f2.toList == b.f2.toList && (a.f3.toList == b.f3.toList && (a.f4 == b.f4)))))) = true from (by
      show ((cmpK a b == 0) == sameK a b) = true
      rw [e1]; exact beq_self_eq_true _))]
    have t1 : cmpK a b ≤ 0 → cmpK b c ≤ 0 → cmpK a c ≤ 0 := key3.tr a b c
    have t2 : cmpK a b < 0 → cmpK b c < 0 → cmpK a c < 0 := fun h1 h2 => key3.lt h1 (by omega)
    generalize cmpK a b = x at *
    generalize cmpK b c = y at *
    generalize cmpK a c = z at *
    by_cases hx : x > 0
    · rw [if_pos hx, if_pos (show x ≥ 0 by omega)]
    · rw [if_neg hx]
      by_cases hy : y > 0
      · rw [if_pos hy]
        by_cases hx2 : x ≥ 0
        · rw [if_pos hx2]
        · rw [if_neg hx2, if_pos (show y ≥ 0 by omega)]
      · rw [if_neg hy, if_pos (show z ≤ 0 from t1 (by omega) (by omega))]
        by_cases hx2 : x ≥ 0
        · rw [if_pos hx2]
        · rw [if_neg hx2]
          by_cases hy2 : y ≥ 0
          · rw [if_pos hy2]
          · rw [if_neg hy2, decide_eq_true (t2 (by omega) (by omega))]
end Go.Proofs.Ytidojompkihboaa.X
