/- fact.Get: the amount of a key, by the binary search. -/
import Derived.Test.YtidojompkihboaaBs
namespace Go.Proofs.Ytidojompkihboaa.X
open Go.RowKit Go.Shelf Go.Sort Go.Proofs.YtidojompkihboaaW.PrintWords Go.Proofs.YtidojompkihboaaW.PrintLast Go.Proofs.YtidojompkihboaaW.PrintMore
theorem bsL_in (l : List S40) (y : S30) : ∀ (n : Nat) (i j : Int), i ≤ j → i ≤ bsL l y n i j ∧ bsL l y n i j ≤ j
  | 0, i, j, h => ⟨Int.le_refl _, h⟩
  | n + 1, i, j, h => by
    rw [bsL]
    split
    · split
      · have := bsL_in l y n ((i + j) / 2 + 1) j (by omega); omega
      · have := bsL_in l y n i ((i + j) / 2) (by omega); omega
    · exact ⟨Int.le_refl _, h⟩
def fact_Get.f (l0 : List S40) (a1_0 a1_1 a1_2 a1_3 : ByteArray) (a1_4 : Int) : Option Int :=
  if l0.length ≤ 1000000 then some (if bsL l0 ⟨a1_0, a1_1, a1_2, a1_3, a1_4⟩ l0.length 0 l0.length < l0.length ∧ cmpK (rd_T40 l0 (bsL l0 ⟨a1_0, a1_1, a1_2, a1_3, a1_4⟩ l0.length 0 l0.length)).f0 ⟨a1_0, a1_1, a1_2, a1_3, a1_4⟩ = 0
    then (rd_T40 l0 (bsL l0 ⟨a1_0, a1_1, a1_2, a1_3, a1_4⟩ l0.length 0 l0.length)).f1 else 0) else none
set_option maxHeartbeats 2000000 in
set_option maxRecDepth 100000 in
theorem get_any (l : List S40) (y : S30) (A : Option Addr) (c : Nat) (w : World) (hr : Kd.C k40 w A l.length l) (hn : l.length ≤ 1000000) :
    Calls Try.prog 18 #[.slice A l.length c, .agg #[.string y.f0, .string y.f1, .string y.f2, .string y.f3, .int .i64 y.f4]] w fun e w' =>
      e = .returned (.int .i64 (if bsL l y l.length 0 l.length < l.length ∧ cmpK (rd_T40 l (bsL l y l.length 0 l.length)).f0 y = 0 then (rd_T40 l (bsL l y l.length 0 l.length)).f1 else 0)) ∧ Below w.heap.size w w' := by
  have HC := Aside0.mk hr
  have hbs : ∀ W, Kd.C k40 W A l.length l → Aside0 (Calls Try.prog 29 #[.slice A l.length c, .agg #[.string y.f0, .string y.f1, .string y.f2, .string y.f3, .int .i64 y.f4], .func (.func 30) #[] #[]] W fun e w' =>
      e = .returned (.tuple #[.int .i64 (bsL l y l.length 0 l.length), .bool (decide (bsL l y l.length 0 l.length < l.length) && (cmpK (rd_T40 l (bsL l y l.length 0 l.length)).f0 y == 0))]) ∧ G W w') := fun W hW => ⟨bs_any l y A c W hW hn⟩
  obtain ⟨r, hrd⟩ : ∃ r, r = bsL l y l.length 0 l.length := ⟨_, rfl⟩
  have hr0 : 0 ≤ r := by rw [hrd]; exact (bsL_in l y l.length 0 l.length (by omega)).1
  rw [← hrd] at hbs ⊢
  clear hrd hr
  by_cases hin : r < (l.length : Int) ∧ cmpK (rd_T40 l r).f0 y = 0
  · have hb : (decide (r < (l.length : Int)) && (cmpK (rd_T40 l r).f0 y == 0)) = true := by rw [decide_eq_true hin.1, hin.2]; rfl
    rw [if_pos hin]
    rw [hb] at hbs
    have hlt := hin.1
    clear hin hb
    go_enter Try.func18, Try.ntmps18
    go_wp2_with (go_at_call 29; refine (hbs _ (Kd.C_below HC.out ((Below.refl _ _).alloc (Nat.le_refl _) _))).out.mono ?_; rintro e w' ⟨rfl, hG⟩)
    have hB := Aside0.mk (((Below.refl w.heap.size w).alloc (Nat.le_refl _) _).trans ((G_below hG).mono (by simp)))
    obtain ⟨ad, rfl, z0, z1, z2, z3, z4, z5⟩ := at_T40 (Kd.C_below HC.out hB.out) r hr0 hlt
    clear hG hbs HC
    go_wp2
    go_simp
    rename_i K1 a1 K2 a2
    refine a2 _ _ ?_
    clear a2 K2
    go_wp2
    go_ret
    exact ⟨rfl, hB.out⟩
  · have hb : (decide (r < (l.length : Int)) && (cmpK (rd_T40 l r).f0 y == 0)) = false := by
      by_cases h : r < (l.length : Int)
      · have h2 : ¬ cmpK (rd_T40 l r).f0 y = 0 := fun e => hin ⟨h, e⟩
        simp [h2]
      · rw [decide_eq_false h]; rfl
    rw [if_neg hin]
    rw [hb] at hbs
    clear hin hb
    go_enter Try.func18, Try.ntmps18
    go_wp2_with (go_at_call 29; refine (hbs _ (Kd.C_below HC.out ((Below.refl _ _).alloc (Nat.le_refl _) _))).out.mono ?_; rintro e w' ⟨rfl, hG⟩)
    have hB := Aside0.mk (((Below.refl w.heap.size w).alloc (Nat.le_refl _) _).trans ((G_below hG).mono (by simp)))
    clear hG
    go_wp2
    go_ret
    exact ⟨rfl, hB.out⟩
theorem fact_Get.calls (A0 : Option Addr) (c0 : Nat) (l0 : List S40) (a1_0 a1_1 a1_2 a1_3 : ByteArray) (a1_4 : Int) (r : Int) (w : World) (hr0 : Kd.C k40 w A0 l0.length l0) (_hc0 : l0.length ≤ c0) (h : fact_Get.f l0 a1_0 a1_1 a1_2 a1_3 a1_4 = some r) :
    Calls Try.prog 18 #[.slice A0 l0.length c0, .agg #[.string a1_0, .string a1_1, .string a1_2, .string a1_3, .int .i64 a1_4]] w fun e w' => e = .returned (.int .i64 r) ∧ Below w.heap.size w w' := by
  unfold fact_Get.f at h
  split at h
  · rename_i hn
    injection h with h
    rw [← h]
    exact get_any l0 ⟨a1_0, a1_1, a1_2, a1_3, a1_4⟩ A0 c0 w hr0 hn
  · cases h
end Go.Proofs.Ytidojompkihboaa.X
