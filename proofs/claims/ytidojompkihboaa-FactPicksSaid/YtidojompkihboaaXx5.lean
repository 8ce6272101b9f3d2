-- PRINTED by print.py (a twelfth state) out of the translation. Not trusted: Lean checks it.
import Derived.Test.YtidojompkihboaaXx0
import Derived.Test.YtidojompkihboaaXx1
import Derived.Test.YtidojompkihboaaXx3
namespace Go.Proofs.Ytidojompkihboaa.X
open Go.RowKit Go.Proofs.YtidojompkihboaaW.PrintWords Go.Proofs.YtidojompkihboaaW.PrintLast Go.Proofs.YtidojompkihboaaW.PrintMore
attribute [local go_sem] max2_int min2_int max_two min_two max_three min_three max_four min_four   -- for this text's walks alone
set_option linter.unusedVariables false
set_option linter.unusedSimpArgs false

attribute [local go_sem high] eqA27
/-! ### comptrollerref09_Same: function 15 -/
def comptrollerref09_Same.l0 : Nat → List (S27) → List (S27) → Int → Option (Bool)
  | 0, _, _, _ => none
  | k + 1, x0, x1, x5 => if x5 < (x0.length : Int) then (if 0 ≤ x5 then (if x5 < (x1.length : Int) then (if ((!((((rd_T27 x0 x5).f0.f0).toList) == (((rd_T27 x1 x5).f0.f0).toList)) || (!((((rd_T27 x0 x5).f0.f1).toList) == (((rd_T27 x1 x5).f0.f1).toList)) || (!((((rd_T27 x0 x5).f0.f2).toList) == (((rd_T27 x1 x5).f0.f2).toList)) || (!((((rd_T27 x0 x5).f0.f3).toList) == (((rd_T27 x1 x5).f0.f3).toList)) || (!(((rd_T27 x0 x5).f0.f4) == ((rd_T27 x1 x5).f0.f4))))))) || (!(((rd_T27 x0 x5).f1) == ((rd_T27 x1 x5).f1)))) = true then (some false) else (comptrollerref09_Same.l0 k x0 x1 (wrap64 (x5 + 1)))) else (none)) else (none)) else (some true)
def comptrollerref09_Same.f (k : Nat) (l0 : List (S27)) (l1 : List (S27)) : Option (Bool) := if (l0.length : Int) = (l1.length : Int) then (comptrollerref09_Same.l0 k l0 l1 0) else (some false)
theorem comptrollerref09_Same.mono_l : ∀ k, (∀ y0 y1 y2, LeO (comptrollerref09_Same.l0 k y0 y1 y2) (comptrollerref09_Same.l0 (k + 1) y0 y1 y2))
  | 0 => fun _ _ _ r h => by simp [comptrollerref09_Same.l0] at h
  | k + 1 => by
    have ih0 := comptrollerref09_Same.mono_l k
    · intro y0 y1 y2
      unfold comptrollerref09_Same.l0
      repeat' first
      | (with_reducible exact ih0 _ _ _)
      | (with_reducible exact LeO.refl _)
      | (with_reducible exact LeO.none _)
      | (with_reducible refine LeO.ite ?_ ?_)
      | (with_reducible refine LeO.bind ?_ (fun _ => ?_))
      | exact ih0 _ _ _
      | exact LeO.none _
      | refine LeO.ite ?_ ?_
      | refine LeO.bind ?_ (fun _ => ?_)
theorem comptrollerref09_Same.mono : ∀ a0 a1 k, LeO (comptrollerref09_Same.f k a0 a1) (comptrollerref09_Same.f (k + 1) a0 a1) := by
  intro a0 a1 k
  have ih0 := comptrollerref09_Same.mono_l k
  unfold comptrollerref09_Same.f
  repeat' first
      | (with_reducible exact ih0 _ _ _)
      | (with_reducible exact LeO.refl _)
      | (with_reducible exact LeO.none _)
      | (with_reducible refine LeO.ite ?_ ?_)
      | (with_reducible refine LeO.bind ?_ (fun _ => ?_))
      | exact ih0 _ _ _
      | exact LeO.none _
      | refine LeO.ite ?_ ?_
      | refine LeO.bind ?_ (fun _ => ?_)
set_option maxHeartbeats 8000000 in
set_option maxRecDepth 100000 in
theorem comptrollerref09_Same.calls (k : Nat) (A0 : Option Addr) (c0 : Nat) (l0 : List (S27)) (A1 : Option Addr) (c1 : Nat) (l1 : List (S27)) (r : Bool) (w : World) (hr0 : Kd.C k27 w A0 l0.length l0) (hc0 : l0.length ≤ c0) (hr1 : Kd.C k27 w A1 l1.length l1) (hc1 : l1.length ≤ c1) (h : comptrollerref09_Same.f k l0 l1 = some r) :
    Calls Try.prog 15 #[.slice A0 l0.length c0, .slice A1 l1.length c1] w fun e w' => e = .returned (.bool r) ∧ Drawn0 w w' := by
  have hu27 := Try.underlying27
  have HR0 := Aside0.mk hr0
  have HC0 := Aside0.mk hc0
  clear hr0 hc0
  have HR1 := Aside0.mk hr1
  have HC1 := Aside0.mk hc1
  clear hr1 hc1
  have H : (if (l0.length : Int) = (l1.length : Int) then (comptrollerref09_Same.l0 k l0 l1 0) else (some false)) = some r := h
  clear h
  by_cases c3 : (l0.length : Int) = (l1.length : Int)
  · rw [if_pos c3] at H
    have c3b0 : ((l0.length : Int) == (l1.length : Int)) = true := beq_iff_eq.mpr c3
    have c3b1 : ((l0.length : Int) != (l1.length : Int)) = false := bne_eq_false_iff_eq.mpr c3
    have c3b2 : (l0.length == l1.length) = true := by first | simpa using c3 | (simp at c3 ⊢; omega)
    clear c3
    have H' := Aside0.mk H
    clear H
    go_enter Try.func15, Try.ntmps15
    go_wp2
    repeat (go_quiet (fail); try go_wp2)
    go_loopg [5] k (fun kq v5 w' => ∃ (x5_1 : Int), v5 = .int .i64 x5_1 ∧ Aside0 (comptrollerref09_Same.l0 kq l0 l1 x5_1 = some r) ∧ Aside0 (kq ≤ k) ∧ Drawn0 w w')
    case atStart => exact ⟨(0), (by first | rfl | (simp; done) | (simp [*]; done)), H', ⟨Nat.le_refl _⟩, by repeat (first | exact Drawn0.refl _ | apply Drawn0.step)⟩
    case round =>
      clear H'
      try clear c1
      try clear p2
      try clear c3
      try clear c3b0
      try clear c3b1
      try clear c3b2
      obtain ⟨x5_1, rfl, HA, HK1, ⟨m1, rfl⟩⟩ := hrel
      cases gk with
      | zero => exact absurd HA.out (by simp [comptrollerref09_Same.l0])
      | succ k1 =>
        have H := HA.out
        clear HA
        simp only [comptrollerref09_Same.l0] at H
        by_cases c4 : x5_1 < (l0.length : Int)
        · rw [if_pos c4] at H
          have c4b0 : decide (x5_1 < (l0.length : Int)) = true := decide_eq_true c4
          clear c4
          by_cases c5 : 0 ≤ x5_1
          · rw [if_pos c5] at H
            have c5b0 : decide (0 ≤ x5_1) = true := decide_eq_true c5
            clear c5
            by_cases c6 : x5_1 < (l1.length : Int)
            · rw [if_pos c6] at H
              have c6b0 : decide (x5_1 < (l1.length : Int)) = true := decide_eq_true c6
              clear c6
              by_cases c7 : ((!((((rd_T27 l0 x5_1).f0.f0).toList) == (((rd_T27 l1 x5_1).f0.f0).toList)) || (!((((rd_T27 l0 x5_1).f0.f1).toList) == (((rd_T27 l1 x5_1).f0.f1).toList)) || (!((((rd_T27 l0 x5_1).f0.f2).toList) == (((rd_T27 l1 x5_1).f0.f2).toList)) || (!((((rd_T27 l0 x5_1).f0.f3).toList) == (((rd_T27 l1 x5_1).f0.f3).toList)) || (!(((rd_T27 l0 x5_1).f0.f4) == ((rd_T27 l1 x5_1).f0.f4))))))) || (!(((rd_T27 l0 x5_1).f1) == ((rd_T27 l1 x5_1).f1)))) = true
              · rw [if_pos c7] at H
                have c7b0 : ((!((((rd_T27 l0 x5_1).f0.f0).toList) == (((rd_T27 l1 x5_1).f0.f0).toList)) || (!((((rd_T27 l0 x5_1).f0.f1).toList) == (((rd_T27 l1 x5_1).f0.f1).toList)) || (!((((rd_T27 l0 x5_1).f0.f2).toList) == (((rd_T27 l1 x5_1).f0.f2).toList)) || (!((((rd_T27 l0 x5_1).f0.f3).toList) == (((rd_T27 l1 x5_1).f0.f3).toList)) || (!(((rd_T27 l0 x5_1).f0.f4) == ((rd_T27 l1 x5_1).f0.f4))))))) || (!(((rd_T27 l0 x5_1).f1) == ((rd_T27 l1 x5_1).f1)))) = true := c7
                clear c7
                obtain rfl := Option.some.inj H
                have p160 : 0 ≤ (x5_1 : Int) := of_decide_eq_true (by first | (with_reducible assumption) | assumption)
                have q160 : x5_1 < (l0.length : Int) := of_decide_eq_true (by first | (with_reducible assumption) | assumption)
                obtain ⟨ad160, e160, hx160_0, hx160_1, hx160_2, hx160_3, hx160_4, hx160_5⟩ := at_T27 HR0.out x5_1 p160 q160
                cases e160
                replace p160 := eq_true p160
                replace q160 := eq_true q160
                have p161 : 0 ≤ (x5_1 : Int) := of_decide_eq_true (by first | (with_reducible assumption) | assumption)
                have q161 : x5_1 < (l1.length : Int) := of_decide_eq_true (by first | (with_reducible assumption) | assumption)
                obtain ⟨ad161, e161, hx161_0, hx161_1, hx161_2, hx161_3, hx161_4, hx161_5⟩ := at_T27 HR1.out x5_1 p161 q161
                cases e161
                replace p161 := eq_true p161
                replace q161 := eq_true q161
                go_wp2
                repeat (go_quiet (fail); try go_wp2)
                go_ret
                exact ⟨by first | rfl | (simp; done) | (simp [*]; done), by repeat (first | exact Drawn0.refl _ | apply Drawn0.step)⟩
              · rw [if_neg c7] at H
                have c7b0 : ((!((((rd_T27 l0 x5_1).f0.f0).toList) == (((rd_T27 l1 x5_1).f0.f0).toList)) || (!((((rd_T27 l0 x5_1).f0.f1).toList) == (((rd_T27 l1 x5_1).f0.f1).toList)) || (!((((rd_T27 l0 x5_1).f0.f2).toList) == (((rd_T27 l1 x5_1).f0.f2).toList)) || (!((((rd_T27 l0 x5_1).f0.f3).toList) == (((rd_T27 l1 x5_1).f0.f3).toList)) || (!(((rd_T27 l0 x5_1).f0.f4) == ((rd_T27 l1 x5_1).f0.f4))))))) || (!(((rd_T27 l0 x5_1).f1) == ((rd_T27 l1 x5_1).f1)))) = false := by simpa using c7
                clear c7
                have H' := Aside0.mk H
                clear H
                have p160 : 0 ≤ (x5_1 : Int) := of_decide_eq_true (by first | (with_reducible assumption) | assumption)
                have q160 : x5_1 < (l0.length : Int) := of_decide_eq_true (by first | (with_reducible assumption) | assumption)
                obtain ⟨ad160, e160, hx160_0, hx160_1, hx160_2, hx160_3, hx160_4, hx160_5⟩ := at_T27 HR0.out x5_1 p160 q160
                cases e160
                replace p160 := eq_true p160
                replace q160 := eq_true q160
                have p161 : 0 ≤ (x5_1 : Int) := of_decide_eq_true (by first | (with_reducible assumption) | assumption)
                have q161 : x5_1 < (l1.length : Int) := of_decide_eq_true (by first | (with_reducible assumption) | assumption)
                obtain ⟨ad161, e161, hx161_0, hx161_1, hx161_2, hx161_3, hx161_4, hx161_5⟩ := at_T27 HR1.out x5_1 p161 q161
                cases e161
                replace p161 := eq_true p161
                replace q161 := eq_true q161
                go_wp2
                repeat (go_quiet (fail); try go_wp2)
                go_roundg k1
                case measure => have := HK1.out; omega
                case rel => exact ⟨(wrap64 (x5_1 + 1)), (by first | rfl | (simp; done) | (simp [*]; done)), H', ⟨by have := HK1.out; omega⟩, by repeat (first | exact Drawn0.refl _ | apply Drawn0.step)⟩
            · rw [if_neg c6] at H
              exact absurd H (by simp)
          · rw [if_neg c5] at H
            exact absurd H (by simp)
        · rw [if_neg c4] at H
          have c4b0 : decide (x5_1 < (l0.length : Int)) = false := decide_eq_false c4
          clear c4
          obtain rfl := Option.some.inj H
          go_wp2
          repeat (go_quiet (fail); try go_wp2)
          go_ret
          exact ⟨by first | rfl | (simp; done) | (simp [*]; done), by repeat (first | exact Drawn0.refl _ | apply Drawn0.step)⟩
  · rw [if_neg c3] at H
    have c3b0 : ((l0.length : Int) == (l1.length : Int)) = false := beq_eq_false_iff_ne.mpr c3
    have c3b1 : ((l0.length : Int) != (l1.length : Int)) = true := bne_iff_ne.mpr c3
    have c3b2 : (l0.length == l1.length) = false := by first | simpa using c3 | (simp at c3 ⊢; omega)
    obtain rfl := Option.some.inj H
    go_enter Try.func15, Try.ntmps15
    go_wp2
    repeat (go_quiet (fail); try go_wp2)
    go_ret
    exact ⟨by first | rfl | (simp; done) | (simp [*]; done), by repeat (first | exact Drawn0.refl _ | apply Drawn0.step)⟩

/-! ### comptrollerlaw09_Ours: function 16 -/
def comptrollerlaw09_Ours.l0 : Nat → List (S27) → List (S40) → Int → Int → Option ((List (S27)))
  | 0, _, _, _, _ => none
  | k + 1, x3, x6, x7, x8 => if x8 < x7 then (if 0 ≤ x8 then (if x8 < (x6.length : Int) then (if x3.length < 1759218604441 then (comptrollerlaw09_Ours.l0 k (x3 ++ [(⟨(⟨(rd_T40 x6 x8).f0.f0, (rd_T40 x6 x8).f0.f1, (rd_T40 x6 x8).f0.f2, (rd_T40 x6 x8).f0.f3, (rd_T40 x6 x8).f0.f4⟩ : S23), (rd_T40 x6 x8).f1⟩ : S27)]) x6 x7 (wrap64 (x8 + 1))) else (none)) else (none)) else (none)) else (some x3)
def comptrollerlaw09_Ours.f (k : Nat) (l0 : List (S40)) : Option ((List (S27))) := comptrollerlaw09_Ours.l0 k ([] : List (S27)) l0 (l0.length : Int) 0
theorem comptrollerlaw09_Ours.mono_l : ∀ k, (∀ y0 y1 y2 y3, LeO (comptrollerlaw09_Ours.l0 k y0 y1 y2 y3) (comptrollerlaw09_Ours.l0 (k + 1) y0 y1 y2 y3))
  | 0 => fun _ _ _ _ r h => by simp [comptrollerlaw09_Ours.l0] at h
  | k + 1 => by
    have ih0 := comptrollerlaw09_Ours.mono_l k
    · intro y0 y1 y2 y3
      unfold comptrollerlaw09_Ours.l0
      repeat' first
      | (with_reducible exact ih0 _ _ _ _)
      | (with_reducible exact LeO.refl _)
      | (with_reducible exact LeO.none _)
      | (with_reducible refine LeO.ite ?_ ?_)
      | (with_reducible refine LeO.bind ?_ (fun _ => ?_))
      | exact ih0 _ _ _ _
      | exact LeO.none _
      | refine LeO.ite ?_ ?_
      | refine LeO.bind ?_ (fun _ => ?_)
theorem comptrollerlaw09_Ours.mono : ∀ a0 k, LeO (comptrollerlaw09_Ours.f k a0) (comptrollerlaw09_Ours.f (k + 1) a0) := by
  intro a0 k
  have ih0 := comptrollerlaw09_Ours.mono_l k
  unfold comptrollerlaw09_Ours.f
  repeat' first
      | (with_reducible exact ih0 _ _ _ _)
      | (with_reducible exact LeO.refl _)
      | (with_reducible exact LeO.none _)
      | (with_reducible refine LeO.ite ?_ ?_)
      | (with_reducible refine LeO.bind ?_ (fun _ => ?_))
      | exact ih0 _ _ _ _
      | exact LeO.none _
      | refine LeO.ite ?_ ?_
      | refine LeO.bind ?_ (fun _ => ?_)
set_option maxHeartbeats 8000000 in
set_option maxRecDepth 100000 in
theorem comptrollerlaw09_Ours.calls (k : Nat) (A0 : Option Addr) (c0 : Nat) (l0 : List (S40)) (r : List (S27)) (w : World) (hr0 : Kd.C k40 w A0 l0.length l0) (hc0 : l0.length ≤ c0) (h : comptrollerlaw09_Ours.f k l0 = some r) :
    Calls Try.prog 16 #[.slice A0 l0.length c0] w fun e w' => ∃ v0_ : Value, e = .returned (v0_) ∧ Kd.R k27 27 w' w.heap.size (fun _ => True) v0_ r ∧ Below w.heap.size w w' := by
  have hu40 := Try.underlying40
  have hu30 := Try.underlying30
  have hu27 := Try.underlying27
  have HR0 := Aside0.mk hr0
  have HC0 := Aside0.mk hc0
  clear hr0 hc0
  have HB := Aside0.mk (Below.refl w.heap.size w)
  have H : (comptrollerlaw09_Ours.l0 k ([] : List (S27)) l0 (l0.length : Int) 0) = some r := h
  clear h
  have H' := Aside0.mk H
  clear H
  go_enter Try.func16, Try.ntmps16
  go_wp2
  go_loopg [3, 8] k (fun kq v3 v8 w' => ∃ (x3_1 : List (S27)) (x8_1 : Int), v8 = .int .i64 x8_1 ∧ Aside0 (comptrollerlaw09_Ours.l0 kq x3_1 l0 (l0.length : Int) x8_1 = some r) ∧ Aside0 (kq ≤ k) ∧ Aside0 (Kd.R k27 27 w' w.heap.size (fun _ => True) v3 x3_1) ∧ Aside0 (Below w.heap.size w w'))
  case atStart => exact ⟨(([] : List (S27))), (0), (by first | rfl | (simp; done) | (simp [*]; done)), H', ⟨Nat.le_refl _⟩, ⟨by first | exact Kd.R_nil _ _ _ _ _ | exact Kd.N_nil _ _ _ _ _ | exact Kd.V_nil _ _ _ _ _ | exact Kd.Q_nil _ _ _ _ _ | exact Kd.S_nil _ _ _ _ _⟩, ⟨by repeat (first | (with_reducible first | exact HB.out | apply below_alloc | apply pw_below_drewN | apply below_drew1) | exact HB.out)⟩⟩
  case round =>
    clear H'
    try clear c1
    obtain ⟨x3_1, x8_1, rfl, HA, HK1, HO_3, HB⟩ := hrel
    cases gk with
    | zero => exact absurd HA.out (by simp [comptrollerlaw09_Ours.l0])
    | succ k1 =>
      have H := HA.out
      clear HA
      simp only [comptrollerlaw09_Ours.l0] at H
      by_cases c2 : x8_1 < (l0.length : Int)
      · rw [if_pos c2] at H
        have c2b0 : decide (x8_1 < (l0.length : Int)) = true := decide_eq_true c2
        clear c2
        by_cases c3 : 0 ≤ x8_1
        · rw [if_pos c3] at H
          have c3b0 : decide (0 ≤ x8_1) = true := decide_eq_true c3
          clear c3
          by_cases c4 : x8_1 < (l0.length : Int)
          · rw [if_pos c4] at H
            have c4b0 : decide (x8_1 < (l0.length : Int)) = true := decide_eq_true c4
            clear c4
            by_cases c5 : x3_1.length < 1759218604441
            · rw [if_pos c5] at H
              have LMc5 := Aside0.mk c5
              clear c5
              obtain ⟨y164, hy164⟩ : ∃ y_ : List (S27), y_ = (x3_1 ++ [(⟨(⟨(rd_T40 l0 x8_1).f0.f0, (rd_T40 l0 x8_1).f0.f1, (rd_T40 l0 x8_1).f0.f2, (rd_T40 l0 x8_1).f0.f3, (rd_T40 l0 x8_1).f0.f4⟩ : S23), (rd_T40 l0 x8_1).f1⟩ : S27)]) := ⟨_, rfl⟩
              replace H : (comptrollerlaw09_Ours.l0 k1 y164 l0 (l0.length : Int) (wrap64 (x8_1 + 1))) = some r := by first | (rw [hy164]; with_reducible exact H) | (have H2_ := (Option.bind_some _ _).symm.trans H; rw [hy164]; with_reducible exact H2_) | (have H2_ := (Option.bind_some _ _).symm.trans H; with_reducible exact H2_) | with_reducible exact H | (rw [hy164]; exact H) | exact H
              have Ny164 := Aside0.mk hy164
              clear hy164
              have H' := Aside0.mk H
              clear H
              have p162 : 0 ≤ (x8_1 : Int) := of_decide_eq_true (by first | (with_reducible assumption) | assumption)
              have q162 : x8_1 < (l0.length : Int) := of_decide_eq_true (by first | (with_reducible assumption) | assumption)
              obtain ⟨ad162, e162, hx162_0, hx162_1, hx162_2, hx162_3, hx162_4, hx162_5⟩ := at_T40 HR0.out x8_1 p162 q162
              cases e162
              replace hx162_0 := (HB.out.cell (World.block_lt_of_cell? w _ hx162_0)).trans hx162_0
              replace hx162_1 := (HB.out.cell (World.block_lt_of_cell? w _ hx162_1)).trans hx162_1
              replace hx162_2 := (HB.out.cell (World.block_lt_of_cell? w _ hx162_2)).trans hx162_2
              replace hx162_3 := (HB.out.cell (World.block_lt_of_cell? w _ hx162_3)).trans hx162_3
              replace hx162_4 := (HB.out.cell (World.block_lt_of_cell? w _ hx162_4)).trans hx162_4
              replace hx162_5 := (HB.out.cell (World.block_lt_of_cell? w _ hx162_5)).trans hx162_5
              replace p162 := eq_true p162
              replace q162 := eq_true q162
              go_wp2_with (first | ((with_reducible refine gate_dst (N := 5) rfl ?_); refine box_event ?hg (N := 5) ?hd (cs := #[.string (⟨#[]⟩ : ByteArray), .string (⟨#[]⟩ : ByteArray), .string (⟨#[]⟩ : ByteArray), .string (⟨#[]⟩ : ByteArray), .int .i64 0, .int .i64 0]) (t := 40) ?hr ?_; (case hd => rfl); (case hg => rfl); (case hr => first | (go_simp; done) | (go_simp; rfl)); intro gb163 hg w6 hbox hb; have n0_ := Aside0.mk (Kd.R_below (by (with_reducible repeat (first | apply Kd.R_alloc | apply Kd.R_drewN | apply Kd.R_drew)); exact HO_3.out) hb); have n1_ := Aside0.mk (below_step (by repeat (first | (with_reducible first | exact HB.out | apply below_alloc | apply pw_below_drewN | apply below_drew1) | exact HB.out)) hb); have n2_ := Aside0.mk (hbox); have n3_ := Aside0.mk ((by rw [hg]; exact (below_size (by repeat (first | (with_reducible first | exact HB.out | apply below_alloc | apply pw_below_drewN | apply below_drew1) | exact HB.out))) : w.heap.size ≤ gb163)); have n4_ := Aside0.mk ((by rw [hg]; exact (below_size (by repeat (first | (with_reducible first | exact HB.out | apply below_alloc | apply pw_below_drewN | apply below_drew1) | exact HB.out))) : w.heap.size ≤ gb163)); clear HO_3; clear HB; have HO_3 := n0_; have HB := n1_; have BK163 := n2_; have GW163 := n3_; have GE163 := n4_; clear n0_ n1_ n2_ n3_ n4_; clear hb hbox hg; have hcz7_0 : w6.cell? ⟨gb163, 0, none⟩ = some (.string (⟨#[]⟩ : ByteArray)) := (blk_cell BK163.out 0).trans rfl; have hcz7_1 : w6.cell? ⟨gb163, 1, none⟩ = some (.string (⟨#[]⟩ : ByteArray)) := (blk_cell BK163.out 1).trans rfl; have hcz7_2 : w6.cell? ⟨gb163, 2, none⟩ = some (.string (⟨#[]⟩ : ByteArray)) := (blk_cell BK163.out 2).trans rfl; have hcz7_3 : w6.cell? ⟨gb163, 3, none⟩ = some (.string (⟨#[]⟩ : ByteArray)) := (blk_cell BK163.out 3).trans rfl; have hcz7_4 : w6.cell? ⟨gb163, 4, none⟩ = some (.int .i64 0) := (blk_cell BK163.out 4).trans rfl; have hcz7_5 : w6.cell? ⟨gb163, 5, none⟩ = some (.int .i64 0) := (blk_cell BK163.out 5).trans rfl; have hfz7_0 := blk_frozen BK163.out 0; have hfz7_1 := blk_frozen BK163.out 1; have hfz7_2 := blk_frozen BK163.out 2; have hfz7_3 := blk_frozen BK163.out 3; have hfz7_4 := blk_frozen BK163.out 4; have hfz7_5 := blk_frozen BK163.out 5) | ((with_reducible refine gate_builtin (b := .append) (xs := #[.tmp 12, .tmp 18]) rfl ?_); at_builtin; refine Kd.R_append k27 (w0 := w) w.heap.size rfl (.tmp 12) (.tmp 18) 28 27 (.agg #[(.string ⟨#[]⟩), (.string ⟨#[]⟩), (.string ⟨#[]⟩), (.string ⟨#[]⟩), (.int .i64 0), (.int .i64 0)]) 80 rfl Try.underlying28 info27 rfl (by decide) (by omega) u3 x3_1 (⟨(⟨(rd_T40 l0 x8_1).f0.f0, (rd_T40 l0 x8_1).f0.f1, (rd_T40 l0 x8_1).f0.f2, (rd_T40 l0 x8_1).f0.f3, (rd_T40 l0 x8_1).f0.f4⟩ : S23), (rd_T40 l0 x8_1).f1⟩ : S27) [.string ((rd_T40 l0 x8_1).f0.f0), .string ((rd_T40 l0 x8_1).f0.f1), .string ((rd_T40 l0 x8_1).f0.f2), .string ((rd_T40 l0 x8_1).f0.f3), .int .i64 ((rd_T40 l0 x8_1).f0.f4), .int .i64 ((rd_T40 l0 x8_1).f1)] (fun _ => True) (fun _ => False) rfl (by first | (go_simp; done) | (go_simp; rfl)) ?aP (fun _ hk => hk.elim) ?aF ?aO ?aB ?aS ?aL ?_; (case aP => exact k27_mkM _ _ _ (⟨(⟨(rd_T40 l0 x8_1).f0.f0, (rd_T40 l0 x8_1).f0.f1, (rd_T40 l0 x8_1).f0.f2, (rd_T40 l0 x8_1).f0.f3, (rd_T40 l0 x8_1).f0.f4⟩ : S23), (rd_T40 l0 x8_1).f1⟩ : S27)); (case aB => exact (by repeat (first | (with_reducible first | exact HB.out | apply below_alloc | apply pw_below_drewN | apply below_drew1 | refine below_set ?_ GE163.out) | exact HB.out))); (case aF => exact (fun _ _ => trivial)); (case aO => exact (by (with_reducible repeat (first | apply Kd.R_alloc | apply Kd.R_drewN | apply Kd.R_drew)); exact Kd.R_mono (Kd.R_far (p := ⟨gb163, 5, none⟩) (Kd.R_far (p := ⟨gb163, 4, none⟩) (Kd.R_far (p := ⟨gb163, 3, none⟩) (Kd.R_far (p := ⟨gb163, 2, none⟩) (Kd.R_far (p := ⟨gb163, 1, none⟩) (Kd.R_far (p := ⟨gb163, 0, none⟩) (Kd.R_types HO_3.out BK163.out (by decide)) (fun _ hk => hk.2) (.string ((rd_T40 l0 x8_1).f0.f0))) (fun _ hk => hk.2) (.string ((rd_T40 l0 x8_1).f0.f1))) (fun _ hk => hk.2) (.string ((rd_T40 l0 x8_1).f0.f2))) (fun _ hk => hk.2) (.string ((rd_T40 l0 x8_1).f0.f3))) (fun _ hk => hk.2) (.int .i64 ((rd_T40 l0 x8_1).f0.f4))) (fun _ hk => hk.2) (.int .i64 ((rd_T40 l0 x8_1).f1))) (fun _ hk => trivial))); (case aS => exact (below_size (by repeat (first | (with_reducible first | exact HB.out | apply below_alloc | apply pw_below_drewN | apply below_drew1 | refine below_set ?_ GE163.out) | exact HB.out)))); (case aL => have := LMc5.out; omega); intro v165 w8 ho hb hg hat; rw [← Ny164.out] at ho; have n0_ := Aside0.mk (blk_grown (g := gb163) (o := .cells #[.string ((rd_T40 l0 x8_1).f0.f0), .string ((rd_T40 l0 x8_1).f0.f1), .string ((rd_T40 l0 x8_1).f0.f2), .string ((rd_T40 l0 x8_1).f0.f3), .int .i64 ((rd_T40 l0 x8_1).f0.f4), .int .i64 ((rd_T40 l0 x8_1).f1)] 40 (0, 0)) (by (with_reducible repeat (first | refine blk_drewN ?_ _ | refine blk_drew ?_ | refine blk_alloc ?_ _)); refine blk_put (cs := #[.string ((rd_T40 l0 x8_1).f0.f0), .string ((rd_T40 l0 x8_1).f0.f1), .string ((rd_T40 l0 x8_1).f0.f2), .string ((rd_T40 l0 x8_1).f0.f3), .int .i64 ((rd_T40 l0 x8_1).f0.f4), .int .i64 0]) ?_ 5 _ rfl; (with_reducible repeat (first | refine blk_drewN ?_ _ | refine blk_drew ?_ | refine blk_alloc ?_ _)); refine blk_put (cs := #[.string ((rd_T40 l0 x8_1).f0.f0), .string ((rd_T40 l0 x8_1).f0.f1), .string ((rd_T40 l0 x8_1).f0.f2), .string ((rd_T40 l0 x8_1).f0.f3), .int .i64 0, .int .i64 0]) ?_ 4 _ rfl; (with_reducible repeat (first | refine blk_drewN ?_ _ | refine blk_drew ?_ | refine blk_alloc ?_ _)); refine blk_put (cs := #[.string ((rd_T40 l0 x8_1).f0.f0), .string ((rd_T40 l0 x8_1).f0.f1), .string ((rd_T40 l0 x8_1).f0.f2), .string (⟨#[]⟩ : ByteArray), .int .i64 0, .int .i64 0]) ?_ 3 _ rfl; (with_reducible repeat (first | refine blk_drewN ?_ _ | refine blk_drew ?_ | refine blk_alloc ?_ _)); refine blk_put (cs := #[.string ((rd_T40 l0 x8_1).f0.f0), .string ((rd_T40 l0 x8_1).f0.f1), .string (⟨#[]⟩ : ByteArray), .string (⟨#[]⟩ : ByteArray), .int .i64 0, .int .i64 0]) ?_ 2 _ rfl; (with_reducible repeat (first | refine blk_drewN ?_ _ | refine blk_drew ?_ | refine blk_alloc ?_ _)); refine blk_put (cs := #[.string ((rd_T40 l0 x8_1).f0.f0), .string (⟨#[]⟩ : ByteArray), .string (⟨#[]⟩ : ByteArray), .string (⟨#[]⟩ : ByteArray), .int .i64 0, .int .i64 0]) ?_ 1 _ rfl; (with_reducible repeat (first | refine blk_drewN ?_ _ | refine blk_drew ?_ | refine blk_alloc ?_ _)); refine blk_put (cs := #[.string (⟨#[]⟩ : ByteArray), .string (⟨#[]⟩ : ByteArray), .string (⟨#[]⟩ : ByteArray), .string (⟨#[]⟩ : ByteArray), .int .i64 0, .int .i64 0]) ?_ 0 _ rfl; (with_reducible repeat (first | refine blk_drewN ?_ _ | refine blk_drew ?_ | refine blk_alloc ?_ _)); exact BK163.out) hg (Kd.R_ne HO_3.out BK163.out (by decide))); have n1_ := Aside0.mk (hb); have n2_ := Aside0.mk (ho); clear BK163; clear HB; clear HO_3; have BK163 := n0_; have HB := n1_; have HO166 := n2_; clear n0_ n1_ n2_; clear ho hb hg hat))
              go_roundg k1
              case measure => have := HK1.out; omega
              case rel => exact ⟨(y164), (wrap64 (x8_1 + 1)), (by first | rfl | (simp; done) | (simp [*]; done)), H', ⟨by have := HK1.out; omega⟩, ⟨by (with_reducible repeat (first | apply Kd.R_alloc | apply Kd.R_drewN | apply Kd.R_drew)); exact HO166.out⟩, ⟨by repeat (first | (with_reducible first | exact HB.out | apply below_alloc | apply pw_below_drewN | apply below_drew1 | refine below_set ?_ GE163.out) | exact HB.out)⟩⟩
            · rw [if_neg c5] at H
              exact absurd H (by simp)
          · rw [if_neg c4] at H
            exact absurd H (by simp)
        · rw [if_neg c3] at H
          exact absurd H (by simp)
      · rw [if_neg c2] at H
        have c2b0 : decide (x8_1 < (l0.length : Int)) = false := decide_eq_false c2
        clear c2
        obtain rfl := Option.some.inj H
        go_wp2
        go_ret
        exact ⟨_, by first | rfl | (simp [errW_none, errW_some] <;> rfl) | (simp [*, errW_none, errW_some] <;> rfl), by (with_reducible repeat (first | apply Kd.R_alloc | apply Kd.R_drewN | apply Kd.R_drew)); exact HO_3.out, by repeat (first | (with_reducible first | exact HB.out | apply below_alloc | apply pw_below_drewN | apply below_drew1) | exact HB.out)⟩

-- NOT PRINTED: function 4 (comptrollerlaw09_FactPicks)

-- NOT PRINTED: function 5 (comptrollerlaw09_FactZeros)

/-! ### cent_Add: function 26 -/
def cent_Add.f (a0 : Int) (a1 : Int) : Option (Int × Int) := if (Go.bits .and .i64 (Go.bits .xor .i64 a0 (wrap64 (a0 + a1))) (Go.bits .xor .i64 a1 (wrap64 (a0 + a1)))) < 0 then (some (0, 2)) else (some (wrap64 (a0 + a1), 0))
set_option maxHeartbeats 8000000 in
set_option maxRecDepth 100000 in
theorem cent_Add.calls (a0 : Int) (a1 : Int) (r1 : Int) (r2 : Int) (w : World) (h : cent_Add.f a0 a1 = some (r1, r2)) :
    Calls Try.prog 26 #[.int .i64 a0, .int .i64 a1] w fun e w' => e = .returned (.tuple #[.int .i64 r1, .int .i64 r2]) ∧ Drawn0 w w' := by
  have H : (if (Go.bits .and .i64 (Go.bits .xor .i64 a0 (wrap64 (a0 + a1))) (Go.bits .xor .i64 a1 (wrap64 (a0 + a1)))) < 0 then (some (0, 2)) else (some (wrap64 (a0 + a1), 0))) = some (r1, r2) := h
  clear h
  by_cases c3 : (Go.bits .and .i64 (Go.bits .xor .i64 a0 (wrap64 (a0 + a1))) (Go.bits .xor .i64 a1 (wrap64 (a0 + a1)))) < 0
  · rw [if_pos c3] at H
    have c3b0 : decide ((Go.bits .and .i64 (Go.bits .xor .i64 a0 (wrap64 (a0 + a1))) (Go.bits .xor .i64 a1 (wrap64 (a0 + a1)))) < 0) = true := decide_eq_true c3
    clear c3
    simp only [Option.some.injEq, Prod.mk.injEq] at H
    obtain ⟨rfl, rfl⟩ := H
    go_enter Try.func26, Try.ntmps26
    go_wp2
    go_ret2
    exact ⟨by first | rfl | (simp; done) | (simp [*]; done), by repeat (first | exact Drawn0.refl _ | apply Drawn0.step)⟩
  · rw [if_neg c3] at H
    have c3b0 : decide ((Go.bits .and .i64 (Go.bits .xor .i64 a0 (wrap64 (a0 + a1))) (Go.bits .xor .i64 a1 (wrap64 (a0 + a1)))) < 0) = false := decide_eq_false c3
    clear c3
    simp only [Option.some.injEq, Prod.mk.injEq] at H
    obtain ⟨rfl, rfl⟩ := H
    go_enter Try.func26, Try.ntmps26
    go_wp2
    go_ret2
    exact ⟨by first | rfl | (simp; done) | (simp [*]; done), by repeat (first | exact Drawn0.refl _ | apply Drawn0.step)⟩

/-! ### fact_Sum: function 17 -/
mutual
def fact_Sum.l0 : Nat → ByteArray → ByteArray → ByteArray → Int → List (S40) → Int → Int → Option (Int × Int)
  | 0, _, _, _, _, _, _, _ => none
  | k + 1, x1, x2, x3, x8, x12, x13, x14 => if x14 < x13 then (if 0 ≤ x14 then (if x14 < (x12.length : Int) then ((fact_any.f x1 ((rd_T40 x12 x14).f0.f0)).bind fun t220 => (if t220 = true then ((fact_any.f x2 ((rd_T40 x12 x14).f0.f1)).bind fun t221 => (if t221 = true then ((fact_any.f x3 ((rd_T40 x12 x14).f0.f2)).bind fun t222 => (fact_Sum.j1 k x1 x2 x3 x8 x12 x13 x14 (!t222) ((rd_T40 x12 x14).f0.f0) ((rd_T40 x12 x14).f0.f1) ((rd_T40 x12 x14).f0.f2) ((rd_T40 x12 x14).f0.f3) ((rd_T40 x12 x14).f0.f4) ((rd_T40 x12 x14).f1))) else (fact_Sum.j1 k x1 x2 x3 x8 x12 x13 x14 true ((rd_T40 x12 x14).f0.f0) ((rd_T40 x12 x14).f0.f1) ((rd_T40 x12 x14).f0.f2) ((rd_T40 x12 x14).f0.f3) ((rd_T40 x12 x14).f0.f4) ((rd_T40 x12 x14).f1)))) else (fact_Sum.j1 k x1 x2 x3 x8 x12 x13 x14 true ((rd_T40 x12 x14).f0.f0) ((rd_T40 x12 x14).f0.f1) ((rd_T40 x12 x14).f0.f2) ((rd_T40 x12 x14).f0.f3) ((rd_T40 x12 x14).f0.f4) ((rd_T40 x12 x14).f1)))) else (none)) else (none)) else (some (x8, 0))
def fact_Sum.j1 : Nat → ByteArray → ByteArray → ByteArray → Int → List (S40) → Int → Int → Bool → ByteArray → ByteArray → ByteArray → ByteArray → Int → Int → Option (Int × Int)
  | 0, _, _, _, _, _, _, _, _, _, _, _, _, _, _ => none
  | k + 1, x1, x2, x3, x8, x12, x13, x14, x39, x220000, x220001, x220002, x220003, x220004, x220005 => if x39 = true then (fact_Sum.l0 k x1 x2 x3 x8 x12 x13 (wrap64 (x14 + 1))) else ((cent_Add.f x8 x220005).bind fun bt223 => (if bt223.2 = 0 then (fact_Sum.l0 k x1 x2 x3 bt223.1 x12 x13 (wrap64 (x14 + 1))) else (some (0, bt223.2))))
end
def fact_Sum.f (k : Nat) (l0 : List (S40)) (a1 : ByteArray) (a2 : ByteArray) (a3 : ByteArray) : Option (Int × Int) := fact_Sum.l0 k a1 a2 a3 0 l0 (l0.length : Int) 0
theorem fact_Sum.mono_l : ∀ k, (∀ y0 y1 y2 y3 y4 y5 y6, LeO (fact_Sum.l0 k y0 y1 y2 y3 y4 y5 y6) (fact_Sum.l0 (k + 1) y0 y1 y2 y3 y4 y5 y6)) ∧ (∀ y0 y1 y2 y3 y4 y5 y6 y7 y8 y9 y10 y11 y12 y13, LeO (fact_Sum.j1 k y0 y1 y2 y3 y4 y5 y6 y7 y8 y9 y10 y11 y12 y13) (fact_Sum.j1 (k + 1) y0 y1 y2 y3 y4 y5 y6 y7 y8 y9 y10 y11 y12 y13))
  | 0 => ⟨fun _ _ _ _ _ _ _ r h => by simp [fact_Sum.l0] at h, fun _ _ _ _ _ _ _ _ _ _ _ _ _ _ r h => by simp [fact_Sum.j1] at h⟩
  | k + 1 => by
    obtain ⟨ih0, ih1⟩ := fact_Sum.mono_l k
    refine ⟨?_, ?_⟩
    · intro y0 y1 y2 y3 y4 y5 y6
      unfold fact_Sum.l0
      repeat' first
      | (with_reducible exact ih0 _ _ _ _ _ _ _)
      | (with_reducible exact ih1 _ _ _ _ _ _ _ _ _ _ _ _ _ _)
      | (with_reducible exact LeO.refl _)
      | (with_reducible exact LeO.none _)
      | (with_reducible refine LeO.ite ?_ ?_)
      | (with_reducible refine LeO.bind ?_ (fun _ => ?_))
      | exact ih0 _ _ _ _ _ _ _
      | exact ih1 _ _ _ _ _ _ _ _ _ _ _ _ _ _
      | exact LeO.none _
      | refine LeO.ite ?_ ?_
      | refine LeO.bind ?_ (fun _ => ?_)
    · intro y0 y1 y2 y3 y4 y5 y6 y7 y8 y9 y10 y11 y12 y13
      unfold fact_Sum.j1
      repeat' first
      | (with_reducible exact ih0 _ _ _ _ _ _ _)
      | (with_reducible exact ih1 _ _ _ _ _ _ _ _ _ _ _ _ _ _)
      | (with_reducible exact LeO.refl _)
      | (with_reducible exact LeO.none _)
      | (with_reducible refine LeO.ite ?_ ?_)
      | (with_reducible refine LeO.bind ?_ (fun _ => ?_))
      | exact ih0 _ _ _ _ _ _ _
      | exact ih1 _ _ _ _ _ _ _ _ _ _ _ _ _ _
      | exact LeO.none _
      | refine LeO.ite ?_ ?_
      | refine LeO.bind ?_ (fun _ => ?_)
theorem fact_Sum.mono : ∀ a0 a1 a2 a3 k, LeO (fact_Sum.f k a0 a1 a2 a3) (fact_Sum.f (k + 1) a0 a1 a2 a3) := by
  intro a0 a1 a2 a3 k
  obtain ⟨ih0, ih1⟩ := fact_Sum.mono_l k
  unfold fact_Sum.f
  repeat' first
      | (with_reducible exact ih0 _ _ _ _ _ _ _)
      | (with_reducible exact ih1 _ _ _ _ _ _ _ _ _ _ _ _ _ _)
      | (with_reducible exact LeO.refl _)
      | (with_reducible exact LeO.none _)
      | (with_reducible refine LeO.ite ?_ ?_)
      | (with_reducible refine LeO.bind ?_ (fun _ => ?_))
      | exact ih0 _ _ _ _ _ _ _
      | exact ih1 _ _ _ _ _ _ _ _ _ _ _ _ _ _
      | exact LeO.none _
      | refine LeO.ite ?_ ?_
      | refine LeO.bind ?_ (fun _ => ?_)
set_option maxHeartbeats 8000000 in
set_option maxRecDepth 100000 in
theorem fact_Sum.calls (k : Nat) (A0 : Option Addr) (c0 : Nat) (l0 : List (S40)) (a1 : ByteArray) (a2 : ByteArray) (a3 : ByteArray) (r1 : Int) (r2 : Int) (w : World) (hr0 : Kd.C k40 w A0 l0.length l0) (hc0 : l0.length ≤ c0) (h : fact_Sum.f k l0 a1 a2 a3 = some (r1, r2)) :
    Calls Try.prog 17 #[.slice A0 l0.length c0, .string a1, .string a2, .string a3] w fun e w' => e = .returned (.tuple #[.int .i64 r1, .int .i64 r2]) ∧ Below w.heap.size w w' := by
  have hu40 := Try.underlying40
  have HR0 := Aside0.mk hr0
  have HC0 := Aside0.mk hc0
  clear hr0 hc0
  have HB := Aside0.mk (Below.refl w.heap.size w)
  have H : (fact_Sum.l0 k a1 a2 a3 0 l0 (l0.length : Int) 0) = some (r1, r2) := h
  clear h
  have H' := Aside0.mk H
  clear H
  go_enter Try.func17, Try.ntmps17
  go_wp2
  go_loopg [8, 14] k (fun kq v8 v14 w' => ∃ (x8_1 : Int) (x14_1 : Int), v8 = .int .i64 x8_1 ∧ v14 = .int .i64 x14_1 ∧ Aside0 (fact_Sum.l0 kq a1 a2 a3 x8_1 l0 (l0.length : Int) x14_1 = some (r1, r2)) ∧ Aside0 (kq ≤ k) ∧ Aside0 (Below w.heap.size w w'))
  case atStart => exact ⟨(0), (0), (by first | rfl | (simp; done) | (simp [*]; done)), (by first | rfl | (simp; done) | (simp [*]; done)), H', ⟨Nat.le_refl _⟩, ⟨by repeat (first | (with_reducible first | exact HB.out | apply below_alloc | apply pw_below_drewN | apply below_drew1) | exact HB.out)⟩⟩
  case round =>
    clear H'
    try clear c1
    try clear p2
    obtain ⟨x8_1, x14_1, rfl, rfl, HA, HK1, HB⟩ := hrel
    cases gk with
    | zero => exact absurd HA.out (by simp [fact_Sum.l0])
    | succ k1 =>
      have H := HA.out
      clear HA
      simp only [fact_Sum.l0] at H
      by_cases c5 : x14_1 < (l0.length : Int)
      · rw [if_pos c5] at H
        have c5b0 : decide (x14_1 < (l0.length : Int)) = true := decide_eq_true c5
        clear c5
        by_cases c6 : 0 ≤ x14_1
        · rw [if_pos c6] at H
          have c6b0 : decide (0 ≤ x14_1) = true := decide_eq_true c6
          clear c6
          by_cases c7 : x14_1 < (l0.length : Int)
          · rw [if_pos c7] at H
            have c7b0 : decide (x14_1 < (l0.length : Int)) = true := decide_eq_true c7
            clear c7
            have HC8 := Aside0.mk H
            clear H
            have p218 : 0 ≤ (x14_1 : Int) := of_decide_eq_true (by first | (with_reducible assumption) | assumption)
            have q218 : x14_1 < (l0.length : Int) := of_decide_eq_true (by first | (with_reducible assumption) | assumption)
            obtain ⟨ad218, e218, hx218_0, hx218_1, hx218_2, hx218_3, hx218_4, hx218_5⟩ := at_T40 HR0.out x14_1 p218 q218
            cases e218
            replace hx218_0 := (HB.out.cell (World.block_lt_of_cell? w _ hx218_0)).trans hx218_0
            replace hx218_1 := (HB.out.cell (World.block_lt_of_cell? w _ hx218_1)).trans hx218_1
            replace hx218_2 := (HB.out.cell (World.block_lt_of_cell? w _ hx218_2)).trans hx218_2
            replace hx218_3 := (HB.out.cell (World.block_lt_of_cell? w _ hx218_3)).trans hx218_3
            replace hx218_4 := (HB.out.cell (World.block_lt_of_cell? w _ hx218_4)).trans hx218_4
            replace hx218_5 := (HB.out.cell (World.block_lt_of_cell? w _ hx218_5)).trans hx218_5
            replace p218 := eq_true p218
            replace q218 := eq_true q218
            go_upto_region 4 with (first | ((with_reducible refine gate_dst (N := 11) rfl ?_); refine box_event ?hg (N := 11) ?hd (cs := #[.string (⟨#[]⟩ : ByteArray), .string (⟨#[]⟩ : ByteArray), .string (⟨#[]⟩ : ByteArray), .string (⟨#[]⟩ : ByteArray), .int .i64 0, .int .i64 0]) (t := 40) ?hr ?_; (case hd => rfl); (case hg => rfl); (case hr => first | (go_simp; done) | (go_simp; rfl)); intro gb219 hg w9 hbox hb; have n0_ := Aside0.mk (below_step (by repeat (first | (with_reducible first | exact HB.out | apply below_alloc | apply pw_below_drewN | apply below_drew1) | exact HB.out)) hb); have n1_ := Aside0.mk (hbox); have n2_ := Aside0.mk ((by rw [hg]; exact (below_size (by repeat (first | (with_reducible first | exact HB.out | apply below_alloc | apply pw_below_drewN | apply below_drew1) | exact HB.out))) : w.heap.size ≤ gb219)); have n3_ := Aside0.mk ((by rw [hg]; exact (below_size (by repeat (first | (with_reducible first | exact HB.out | apply below_alloc | apply pw_below_drewN | apply below_drew1) | exact HB.out))) : w.heap.size ≤ gb219)); clear HB; have HB := n0_; have BK219 := n1_; have GW219 := n2_; have GE219 := n3_; clear n0_ n1_ n2_ n3_; clear hb hbox hg; have hcz10_0 : w9.cell? ⟨gb219, 0, none⟩ = some (.string (⟨#[]⟩ : ByteArray)) := (blk_cell BK219.out 0).trans rfl; have hcz10_1 : w9.cell? ⟨gb219, 1, none⟩ = some (.string (⟨#[]⟩ : ByteArray)) := (blk_cell BK219.out 1).trans rfl; have hcz10_2 : w9.cell? ⟨gb219, 2, none⟩ = some (.string (⟨#[]⟩ : ByteArray)) := (blk_cell BK219.out 2).trans rfl; have hcz10_3 : w9.cell? ⟨gb219, 3, none⟩ = some (.string (⟨#[]⟩ : ByteArray)) := (blk_cell BK219.out 3).trans rfl; have hcz10_4 : w9.cell? ⟨gb219, 4, none⟩ = some (.int .i64 0) := (blk_cell BK219.out 4).trans rfl; have hcz10_5 : w9.cell? ⟨gb219, 5, none⟩ = some (.int .i64 0) := (blk_cell BK219.out 5).trans rfl; have hfz10_0 := blk_frozen BK219.out 0; have hfz10_1 := blk_frozen BK219.out 1; have hfz10_2 := blk_frozen BK219.out 2; have hfz10_3 := blk_frozen BK219.out 3; have hfz10_4 := blk_frozen BK219.out 4; have hfz10_5 := blk_frozen BK219.out 5))
            (try simp only [Act.put, List.setIfInBounds_toArray, List.set_cons_zero, List.set_cons_succ])
            go_cut [39] (fun v39 wc => ∃ (kq : Nat) (x39_7 : Bool), v39 = .bool x39_7 ∧ Aside0 (fact_Sum.j1 kq a1 a2 a3 x8_1 l0 (l0.length : Int) x14_1 x39_7 ((rd_T40 l0 x14_1).f0.f0) ((rd_T40 l0 x14_1).f0.f1) ((rd_T40 l0 x14_1).f0.f2) ((rd_T40 l0 x14_1).f0.f3) ((rd_T40 l0 x14_1).f0.f4) ((rd_T40 l0 x14_1).f1) = some (r1, r2)) ∧ Aside0 (kq ≤ k1) ∧ Aside0 (wc.heap[gb219]? = some (.cells #[.string ((rd_T40 l0 x14_1).f0.f0), .string ((rd_T40 l0 x14_1).f0.f1), .string ((rd_T40 l0 x14_1).f0.f2), .string ((rd_T40 l0 x14_1).f0.f3), .int .i64 ((rd_T40 l0 x14_1).f0.f4), .int .i64 ((rd_T40 l0 x14_1).f1)] 40 (0, 0))) ∧ Aside0 (Below w.heap.size w wc))
            case first =>
              have H := HC8.out
              clear HC8
              replace H := Option.bind_eq_some_iff.mp H
              obtain ⟨t220, A110, H⟩ := H
              replace H : (if t220 = true then ((fact_any.f a2 ((rd_T40 l0 x14_1).f0.f1)).bind fun t221 => (if t221 = true then ((fact_any.f a3 ((rd_T40 l0 x14_1).f0.f2)).bind fun t222 => (fact_Sum.j1 k1 a1 a2 a3 x8_1 l0 (l0.length : Int) x14_1 (!t222) ((rd_T40 l0 x14_1).f0.f0) ((rd_T40 l0 x14_1).f0.f1) ((rd_T40 l0 x14_1).f0.f2) ((rd_T40 l0 x14_1).f0.f3) ((rd_T40 l0 x14_1).f0.f4) ((rd_T40 l0 x14_1).f1))) else (fact_Sum.j1 k1 a1 a2 a3 x8_1 l0 (l0.length : Int) x14_1 true ((rd_T40 l0 x14_1).f0.f0) ((rd_T40 l0 x14_1).f0.f1) ((rd_T40 l0 x14_1).f0.f2) ((rd_T40 l0 x14_1).f0.f3) ((rd_T40 l0 x14_1).f0.f4) ((rd_T40 l0 x14_1).f1)))) else (fact_Sum.j1 k1 a1 a2 a3 x8_1 l0 (l0.length : Int) x14_1 true ((rd_T40 l0 x14_1).f0.f0) ((rd_T40 l0 x14_1).f0.f1) ((rd_T40 l0 x14_1).f0.f2) ((rd_T40 l0 x14_1).f0.f3) ((rd_T40 l0 x14_1).f0.f4) ((rd_T40 l0 x14_1).f1))) = some (r1, r2) := H
              have A11 := Aside0.mk A110
              clear A110
              by_cases c12 : t220 = true
              · subst c12
                have H1 : ((fact_any.f a2 ((rd_T40 l0 x14_1).f0.f1)).bind fun t221 => (if t221 = true then ((fact_any.f a3 ((rd_T40 l0 x14_1).f0.f2)).bind fun t222 => (fact_Sum.j1 k1 a1 a2 a3 x8_1 l0 (l0.length : Int) x14_1 (!t222) ((rd_T40 l0 x14_1).f0.f0) ((rd_T40 l0 x14_1).f0.f1) ((rd_T40 l0 x14_1).f0.f2) ((rd_T40 l0 x14_1).f0.f3) ((rd_T40 l0 x14_1).f0.f4) ((rd_T40 l0 x14_1).f1))) else (fact_Sum.j1 k1 a1 a2 a3 x8_1 l0 (l0.length : Int) x14_1 true ((rd_T40 l0 x14_1).f0.f0) ((rd_T40 l0 x14_1).f0.f1) ((rd_T40 l0 x14_1).f0.f2) ((rd_T40 l0 x14_1).f0.f3) ((rd_T40 l0 x14_1).f0.f4) ((rd_T40 l0 x14_1).f1)))) = some (r1, r2) := by rw [if_pos rfl] at H; exact H
                clear H
                have H := H1
                clear H1
                replace H := Option.bind_eq_some_iff.mp H
                obtain ⟨t221, A130, H⟩ := H
                replace H : (if t221 = true then ((fact_any.f a3 ((rd_T40 l0 x14_1).f0.f2)).bind fun t222 => (fact_Sum.j1 k1 a1 a2 a3 x8_1 l0 (l0.length : Int) x14_1 (!t222) ((rd_T40 l0 x14_1).f0.f0) ((rd_T40 l0 x14_1).f0.f1) ((rd_T40 l0 x14_1).f0.f2) ((rd_T40 l0 x14_1).f0.f3) ((rd_T40 l0 x14_1).f0.f4) ((rd_T40 l0 x14_1).f1))) else (fact_Sum.j1 k1 a1 a2 a3 x8_1 l0 (l0.length : Int) x14_1 true ((rd_T40 l0 x14_1).f0.f0) ((rd_T40 l0 x14_1).f0.f1) ((rd_T40 l0 x14_1).f0.f2) ((rd_T40 l0 x14_1).f0.f3) ((rd_T40 l0 x14_1).f0.f4) ((rd_T40 l0 x14_1).f1))) = some (r1, r2) := H
                have A13 := Aside0.mk A130
                clear A130
                by_cases c14 : t221 = true
                · subst c14
                  have H1 : ((fact_any.f a3 ((rd_T40 l0 x14_1).f0.f2)).bind fun t222 => (fact_Sum.j1 k1 a1 a2 a3 x8_1 l0 (l0.length : Int) x14_1 (!t222) ((rd_T40 l0 x14_1).f0.f0) ((rd_T40 l0 x14_1).f0.f1) ((rd_T40 l0 x14_1).f0.f2) ((rd_T40 l0 x14_1).f0.f3) ((rd_T40 l0 x14_1).f0.f4) ((rd_T40 l0 x14_1).f1))) = some (r1, r2) := by rw [if_pos rfl] at H; exact H
                  clear H
                  have H := H1
                  clear H1
                  replace H := Option.bind_eq_some_iff.mp H
                  obtain ⟨t222, A150, H⟩ := H
                  replace H : (fact_Sum.j1 k1 a1 a2 a3 x8_1 l0 (l0.length : Int) x14_1 (!t222) ((rd_T40 l0 x14_1).f0.f0) ((rd_T40 l0 x14_1).f0.f1) ((rd_T40 l0 x14_1).f0.f2) ((rd_T40 l0 x14_1).f0.f3) ((rd_T40 l0 x14_1).f0.f4) ((rd_T40 l0 x14_1).f1)) = some (r1, r2) := H
                  have A15 := Aside0.mk A150
                  clear A150
                  have H' := Aside0.mk H
                  clear H
                  have hcz16_0 : w9.cell? ⟨gb219, 0, none⟩ = some (.string (⟨#[]⟩ : ByteArray)) := (blk_cell BK219.out 0).trans rfl
                  have hcz16_1 : w9.cell? ⟨gb219, 1, none⟩ = some (.string (⟨#[]⟩ : ByteArray)) := (blk_cell BK219.out 1).trans rfl
                  have hcz16_2 : w9.cell? ⟨gb219, 2, none⟩ = some (.string (⟨#[]⟩ : ByteArray)) := (blk_cell BK219.out 2).trans rfl
                  have hcz16_3 : w9.cell? ⟨gb219, 3, none⟩ = some (.string (⟨#[]⟩ : ByteArray)) := (blk_cell BK219.out 3).trans rfl
                  have hcz16_4 : w9.cell? ⟨gb219, 4, none⟩ = some (.int .i64 0) := (blk_cell BK219.out 4).trans rfl
                  have hcz16_5 : w9.cell? ⟨gb219, 5, none⟩ = some (.int .i64 0) := (blk_cell BK219.out 5).trans rfl
                  have hfz16_0 := blk_frozen BK219.out 0
                  have hfz16_1 := blk_frozen BK219.out 1
                  have hfz16_2 := blk_frozen BK219.out 2
                  have hfz16_3 := blk_frozen BK219.out 3
                  have hfz16_4 := blk_frozen BK219.out 4
                  have hfz16_5 := blk_frozen BK219.out 5
                  go_wp2_with (first | ((with_reducible refine gate_callee (f := 27) rfl ?_); refine goesL_ (some 22) rfl rfl Try.func27 (by kernel_rfl) rfl #[.string a1, .string ((rd_T40 l0 x14_1).f0.f0)] rfl (by (try simp only [List.map_toArray, List.map_cons, List.map_nil]); first | done | rfl | (simp only [List.length_drop, List.length_take]; rfl)) ?_; (with_reducible refine (fact_any.calls a1 ((rd_T40 l0 x14_1).f0.f0) true _ A11.out).mono ?_); rintro e w' ⟨rfl, ⟨nd, rfl⟩⟩; refine ⟨_, rfl, ?_⟩) | (go_at_call 27; (with_reducible refine (fact_any.calls a2 ((rd_T40 l0 x14_1).f0.f1) true _ A13.out).mono ?_); rintro e w' ⟨rfl, ⟨nd, rfl⟩⟩) | (go_at_call 27; (with_reducible refine (fact_any.calls a3 ((rd_T40 l0 x14_1).f0.f2) t222 _ A15.out).mono ?_); rintro e w' ⟨rfl, ⟨nd, rfl⟩⟩))
                  go_meet
                  case rel => exact ⟨_, (!t222), (by first | rfl | (simp; done) | (simp [*]; done)), H', ⟨by have := HK1.out; first | omega | exact Nat.le_refl _⟩, ⟨by (with_reducible repeat (first | refine blk_drewN ?_ _ | refine blk_drew ?_ | refine blk_alloc ?_ _)); refine blk_put (cs := #[.string ((rd_T40 l0 x14_1).f0.f0), .string ((rd_T40 l0 x14_1).f0.f1), .string ((rd_T40 l0 x14_1).f0.f2), .string ((rd_T40 l0 x14_1).f0.f3), .int .i64 ((rd_T40 l0 x14_1).f0.f4), .int .i64 0]) ?_ 5 _ rfl; (with_reducible repeat (first | refine blk_drewN ?_ _ | refine blk_drew ?_ | refine blk_alloc ?_ _)); refine blk_put (cs := #[.string ((rd_T40 l0 x14_1).f0.f0), .string ((rd_T40 l0 x14_1).f0.f1), .string ((rd_T40 l0 x14_1).f0.f2), .string ((rd_T40 l0 x14_1).f0.f3), .int .i64 0, .int .i64 0]) ?_ 4 _ rfl; (with_reducible repeat (first | refine blk_drewN ?_ _ | refine blk_drew ?_ | refine blk_alloc ?_ _)); refine blk_put (cs := #[.string ((rd_T40 l0 x14_1).f0.f0), .string ((rd_T40 l0 x14_1).f0.f1), .string ((rd_T40 l0 x14_1).f0.f2), .string (⟨#[]⟩ : ByteArray), .int .i64 0, .int .i64 0]) ?_ 3 _ rfl; (with_reducible repeat (first | refine blk_drewN ?_ _ | refine blk_drew ?_ | refine blk_alloc ?_ _)); refine blk_put (cs := #[.string ((rd_T40 l0 x14_1).f0.f0), .string ((rd_T40 l0 x14_1).f0.f1), .string (⟨#[]⟩ : ByteArray), .string (⟨#[]⟩ : ByteArray), .int .i64 0, .int .i64 0]) ?_ 2 _ rfl; (with_reducible repeat (first | refine blk_drewN ?_ _ | refine blk_drew ?_ | refine blk_alloc ?_ _)); refine blk_put (cs := #[.string ((rd_T40 l0 x14_1).f0.f0), .string (⟨#[]⟩ : ByteArray), .string (⟨#[]⟩ : ByteArray), .string (⟨#[]⟩ : ByteArray), .int .i64 0, .int .i64 0]) ?_ 1 _ rfl; (with_reducible repeat (first | refine blk_drewN ?_ _ | refine blk_drew ?_ | refine blk_alloc ?_ _)); refine blk_put (cs := #[.string (⟨#[]⟩ : ByteArray), .string (⟨#[]⟩ : ByteArray), .string (⟨#[]⟩ : ByteArray), .string (⟨#[]⟩ : ByteArray), .int .i64 0, .int .i64 0]) ?_ 0 _ rfl; (with_reducible repeat (first | refine blk_drewN ?_ _ | refine blk_drew ?_ | refine blk_alloc ?_ _)); exact BK219.out⟩, ⟨by repeat (first | (with_reducible first | exact HB.out | apply below_alloc | apply pw_below_drewN | apply below_drew1 | refine below_set ?_ GE219.out) | exact HB.out)⟩⟩
                · replace c14 := Bool.eq_false_iff.mpr c14
                  subst c14
                  have H1 : (fact_Sum.j1 k1 a1 a2 a3 x8_1 l0 (l0.length : Int) x14_1 true ((rd_T40 l0 x14_1).f0.f0) ((rd_T40 l0 x14_1).f0.f1) ((rd_T40 l0 x14_1).f0.f2) ((rd_T40 l0 x14_1).f0.f3) ((rd_T40 l0 x14_1).f0.f4) ((rd_T40 l0 x14_1).f1)) = some (r1, r2) := by rw [if_neg (show ¬ (false = true) by decide)] at H; exact H
                  clear H
                  have H := H1
                  clear H1
                  have H' := Aside0.mk H
                  clear H
                  have hcz17_0 : w9.cell? ⟨gb219, 0, none⟩ = some (.string (⟨#[]⟩ : ByteArray)) := (blk_cell BK219.out 0).trans rfl
                  have hcz17_1 : w9.cell? ⟨gb219, 1, none⟩ = some (.string (⟨#[]⟩ : ByteArray)) := (blk_cell BK219.out 1).trans rfl
                  have hcz17_2 : w9.cell? ⟨gb219, 2, none⟩ = some (.string (⟨#[]⟩ : ByteArray)) := (blk_cell BK219.out 2).trans rfl
                  have hcz17_3 : w9.cell? ⟨gb219, 3, none⟩ = some (.string (⟨#[]⟩ : ByteArray)) := (blk_cell BK219.out 3).trans rfl
                  have hcz17_4 : w9.cell? ⟨gb219, 4, none⟩ = some (.int .i64 0) := (blk_cell BK219.out 4).trans rfl
                  have hcz17_5 : w9.cell? ⟨gb219, 5, none⟩ = some (.int .i64 0) := (blk_cell BK219.out 5).trans rfl
                  have hfz17_0 := blk_frozen BK219.out 0
                  have hfz17_1 := blk_frozen BK219.out 1
                  have hfz17_2 := blk_frozen BK219.out 2
                  have hfz17_3 := blk_frozen BK219.out 3
                  have hfz17_4 := blk_frozen BK219.out 4
                  have hfz17_5 := blk_frozen BK219.out 5
                  go_wp2_with (first | ((with_reducible refine gate_callee (f := 27) rfl ?_); refine goesL_ (some 22) rfl rfl Try.func27 (by kernel_rfl) rfl #[.string a1, .string ((rd_T40 l0 x14_1).f0.f0)] rfl (by (try simp only [List.map_toArray, List.map_cons, List.map_nil]); first | done | rfl | (simp only [List.length_drop, List.length_take]; rfl)) ?_; (with_reducible refine (fact_any.calls a1 ((rd_T40 l0 x14_1).f0.f0) true _ A11.out).mono ?_); rintro e w' ⟨rfl, ⟨nd, rfl⟩⟩; refine ⟨_, rfl, ?_⟩) | (go_at_call 27; (with_reducible refine (fact_any.calls a2 ((rd_T40 l0 x14_1).f0.f1) false _ A13.out).mono ?_); rintro e w' ⟨rfl, ⟨nd, rfl⟩⟩))
                  go_meet
                  case rel => exact ⟨_, (true), (by first | rfl | (simp; done) | (simp [*]; done)), H', ⟨by have := HK1.out; first | omega | exact Nat.le_refl _⟩, ⟨by (with_reducible repeat (first | refine blk_drewN ?_ _ | refine blk_drew ?_ | refine blk_alloc ?_ _)); refine blk_put (cs := #[.string ((rd_T40 l0 x14_1).f0.f0), .string ((rd_T40 l0 x14_1).f0.f1), .string ((rd_T40 l0 x14_1).f0.f2), .string ((rd_T40 l0 x14_1).f0.f3), .int .i64 ((rd_T40 l0 x14_1).f0.f4), .int .i64 0]) ?_ 5 _ rfl; (with_reducible repeat (first | refine blk_drewN ?_ _ | refine blk_drew ?_ | refine blk_alloc ?_ _)); refine blk_put (cs := #[.string ((rd_T40 l0 x14_1).f0.f0), .string ((rd_T40 l0 x14_1).f0.f1), .string ((rd_T40 l0 x14_1).f0.f2), .string ((rd_T40 l0 x14_1).f0.f3), .int .i64 0, .int .i64 0]) ?_ 4 _ rfl; (with_reducible repeat (first | refine blk_drewN ?_ _ | refine blk_drew ?_ | refine blk_alloc ?_ _)); refine blk_put (cs := #[.string ((rd_T40 l0 x14_1).f0.f0), .string ((rd_T40 l0 x14_1).f0.f1), .string ((rd_T40 l0 x14_1).f0.f2), .string (⟨#[]⟩ : ByteArray), .int .i64 0, .int .i64 0]) ?_ 3 _ rfl; (with_reducible repeat (first | refine blk_drewN ?_ _ | refine blk_drew ?_ | refine blk_alloc ?_ _)); refine blk_put (cs := #[.string ((rd_T40 l0 x14_1).f0.f0), .string ((rd_T40 l0 x14_1).f0.f1), .string (⟨#[]⟩ : ByteArray), .string (⟨#[]⟩ : ByteArray), .int .i64 0, .int .i64 0]) ?_ 2 _ rfl; (with_reducible repeat (first | refine blk_drewN ?_ _ | refine blk_drew ?_ | refine blk_alloc ?_ _)); refine blk_put (cs := #[.string ((rd_T40 l0 x14_1).f0.f0), .string (⟨#[]⟩ : ByteArray), .string (⟨#[]⟩ : ByteArray), .string (⟨#[]⟩ : ByteArray), .int .i64 0, .int .i64 0]) ?_ 1 _ rfl; (with_reducible repeat (first | refine blk_drewN ?_ _ | refine blk_drew ?_ | refine blk_alloc ?_ _)); refine blk_put (cs := #[.string (⟨#[]⟩ : ByteArray), .string (⟨#[]⟩ : ByteArray), .string (⟨#[]⟩ : ByteArray), .string (⟨#[]⟩ : ByteArray), .int .i64 0, .int .i64 0]) ?_ 0 _ rfl; (with_reducible repeat (first | refine blk_drewN ?_ _ | refine blk_drew ?_ | refine blk_alloc ?_ _)); exact BK219.out⟩, ⟨by repeat (first | (with_reducible first | exact HB.out | apply below_alloc | apply pw_below_drewN | apply below_drew1 | refine below_set ?_ GE219.out) | exact HB.out)⟩⟩
              · replace c12 := Bool.eq_false_iff.mpr c12
                subst c12
                have H1 : (fact_Sum.j1 k1 a1 a2 a3 x8_1 l0 (l0.length : Int) x14_1 true ((rd_T40 l0 x14_1).f0.f0) ((rd_T40 l0 x14_1).f0.f1) ((rd_T40 l0 x14_1).f0.f2) ((rd_T40 l0 x14_1).f0.f3) ((rd_T40 l0 x14_1).f0.f4) ((rd_T40 l0 x14_1).f1)) = some (r1, r2) := by rw [if_neg (show ¬ (false = true) by decide)] at H; exact H
                clear H
                have H := H1
                clear H1
                have H' := Aside0.mk H
                clear H
                have hcz18_0 : w9.cell? ⟨gb219, 0, none⟩ = some (.string (⟨#[]⟩ : ByteArray)) := (blk_cell BK219.out 0).trans rfl
                have hcz18_1 : w9.cell? ⟨gb219, 1, none⟩ = some (.string (⟨#[]⟩ : ByteArray)) := (blk_cell BK219.out 1).trans rfl
                have hcz18_2 : w9.cell? ⟨gb219, 2, none⟩ = some (.string (⟨#[]⟩ : ByteArray)) := (blk_cell BK219.out 2).trans rfl
                have hcz18_3 : w9.cell? ⟨gb219, 3, none⟩ = some (.string (⟨#[]⟩ : ByteArray)) := (blk_cell BK219.out 3).trans rfl
                have hcz18_4 : w9.cell? ⟨gb219, 4, none⟩ = some (.int .i64 0) := (blk_cell BK219.out 4).trans rfl
                have hcz18_5 : w9.cell? ⟨gb219, 5, none⟩ = some (.int .i64 0) := (blk_cell BK219.out 5).trans rfl
                have hfz18_0 := blk_frozen BK219.out 0
                have hfz18_1 := blk_frozen BK219.out 1
                have hfz18_2 := blk_frozen BK219.out 2
                have hfz18_3 := blk_frozen BK219.out 3
                have hfz18_4 := blk_frozen BK219.out 4
                have hfz18_5 := blk_frozen BK219.out 5
                go_wp2_with (first | ((with_reducible refine gate_callee (f := 27) rfl ?_); refine goesL_ (some 22) rfl rfl Try.func27 (by kernel_rfl) rfl #[.string a1, .string ((rd_T40 l0 x14_1).f0.f0)] rfl (by (try simp only [List.map_toArray, List.map_cons, List.map_nil]); first | done | rfl | (simp only [List.length_drop, List.length_take]; rfl)) ?_; (with_reducible refine (fact_any.calls a1 ((rd_T40 l0 x14_1).f0.f0) false _ A11.out).mono ?_); rintro e w' ⟨rfl, ⟨nd, rfl⟩⟩; refine ⟨_, rfl, ?_⟩))
                go_meet
                case rel => exact ⟨_, (true), (by first | rfl | (simp; done) | (simp [*]; done)), H', ⟨by have := HK1.out; first | omega | exact Nat.le_refl _⟩, ⟨by (with_reducible repeat (first | refine blk_drewN ?_ _ | refine blk_drew ?_ | refine blk_alloc ?_ _)); refine blk_put (cs := #[.string ((rd_T40 l0 x14_1).f0.f0), .string ((rd_T40 l0 x14_1).f0.f1), .string ((rd_T40 l0 x14_1).f0.f2), .string ((rd_T40 l0 x14_1).f0.f3), .int .i64 ((rd_T40 l0 x14_1).f0.f4), .int .i64 0]) ?_ 5 _ rfl; (with_reducible repeat (first | refine blk_drewN ?_ _ | refine blk_drew ?_ | refine blk_alloc ?_ _)); refine blk_put (cs := #[.string ((rd_T40 l0 x14_1).f0.f0), .string ((rd_T40 l0 x14_1).f0.f1), .string ((rd_T40 l0 x14_1).f0.f2), .string ((rd_T40 l0 x14_1).f0.f3), .int .i64 0, .int .i64 0]) ?_ 4 _ rfl; (with_reducible repeat (first | refine blk_drewN ?_ _ | refine blk_drew ?_ | refine blk_alloc ?_ _)); refine blk_put (cs := #[.string ((rd_T40 l0 x14_1).f0.f0), .string ((rd_T40 l0 x14_1).f0.f1), .string ((rd_T40 l0 x14_1).f0.f2), .string (⟨#[]⟩ : ByteArray), .int .i64 0, .int .i64 0]) ?_ 3 _ rfl; (with_reducible repeat (first | refine blk_drewN ?_ _ | refine blk_drew ?_ | refine blk_alloc ?_ _)); refine blk_put (cs := #[.string ((rd_T40 l0 x14_1).f0.f0), .string ((rd_T40 l0 x14_1).f0.f1), .string (⟨#[]⟩ : ByteArray), .string (⟨#[]⟩ : ByteArray), .int .i64 0, .int .i64 0]) ?_ 2 _ rfl; (with_reducible repeat (first | refine blk_drewN ?_ _ | refine blk_drew ?_ | refine blk_alloc ?_ _)); refine blk_put (cs := #[.string ((rd_T40 l0 x14_1).f0.f0), .string (⟨#[]⟩ : ByteArray), .string (⟨#[]⟩ : ByteArray), .string (⟨#[]⟩ : ByteArray), .int .i64 0, .int .i64 0]) ?_ 1 _ rfl; (with_reducible repeat (first | refine blk_drewN ?_ _ | refine blk_drew ?_ | refine blk_alloc ?_ _)); refine blk_put (cs := #[.string (⟨#[]⟩ : ByteArray), .string (⟨#[]⟩ : ByteArray), .string (⟨#[]⟩ : ByteArray), .string (⟨#[]⟩ : ByteArray), .int .i64 0, .int .i64 0]) ?_ 0 _ rfl; (with_reducible repeat (first | refine blk_drewN ?_ _ | refine blk_drew ?_ | refine blk_alloc ?_ _)); exact BK219.out⟩, ⟨by repeat (first | (with_reducible first | exact HB.out | apply below_alloc | apply pw_below_drewN | apply below_drew1 | refine below_set ?_ GE219.out) | exact HB.out)⟩⟩
            case rest =>
              clear HC8
              try clear c1
              try clear c2
              try clear p2
              try clear q2
              try clear hx2
              try clear c5
              try clear c5b0
              try clear c6
              try clear c6b0
              try clear c7
              try clear c7b0
              try clear c12
              try clear c14
              try clear c17
              try clear hcz10_0
              try clear hcz10_1
              try clear hcz10_2
              try clear hcz10_3
              try clear hcz10_4
              try clear hcz10_5
              try clear hcz16_0
              try clear hcz16_1
              try clear hcz16_2
              try clear hcz16_3
              try clear hcz16_4
              try clear hcz16_5
              try clear hcz17_0
              try clear hcz17_1
              try clear hcz17_2
              try clear hcz17_3
              try clear hcz17_4
              try clear hcz17_5
              try clear hcz18_0
              try clear hcz18_1
              try clear hcz18_2
              try clear hcz18_3
              try clear hcz18_4
              try clear hcz18_5
              try clear hfz10_0
              try clear hfz10_1
              try clear hfz10_2
              try clear hfz10_3
              try clear hfz10_4
              try clear hfz10_5
              try clear hfz16_0
              try clear hfz16_1
              try clear hfz16_2
              try clear hfz16_3
              try clear hfz16_4
              try clear hfz16_5
              try clear hfz17_0
              try clear hfz17_1
              try clear hfz17_2
              try clear hfz17_3
              try clear hfz17_4
              try clear hfz17_5
              try clear hfz18_0
              try clear hfz18_1
              try clear hfz18_2
              try clear hfz18_3
              try clear hfz18_4
              try clear hfz18_5
              try clear hx218_0
              try clear hx218_1
              try clear hx218_2
              try clear hx218_3
              try clear hx218_4
              try clear hx218_5
              try clear p2
              try clear p218
              try clear q218
              obtain ⟨kq, x39_7, rfl, HA, HJ7, BK219, HB⟩ := hcut
              cases kq with
              | zero => exact absurd HA.out (by simp [fact_Sum.j1])
              | succ kj7 =>
                have H := HA.out
                clear HA
                simp only [fact_Sum.j1] at H
                by_cases c19 : x39_7 = true
                · subst c19
                  have H1 : (fact_Sum.l0 kj7 a1 a2 a3 x8_1 l0 (l0.length : Int) (wrap64 (x14_1 + 1))) = some (r1, r2) := by rw [if_pos rfl] at H; exact H
                  clear H
                  have H := H1
                  clear H1
                  have H' := Aside0.mk H
                  clear H
                  go_wp2
                  go_roundg kj7
                  case measure => have := HK1.out; have := HJ7.out; omega
                  case rel => exact ⟨(x8_1), (wrap64 (x14_1 + 1)), (by first | rfl | (simp; done) | (simp [*]; done)), (by first | rfl | (simp; done) | (simp [*]; done)), H', ⟨by have := HK1.out; have := HJ7.out; omega⟩, ⟨by repeat (first | (with_reducible first | exact HB.out | apply below_alloc | apply pw_below_drewN | apply below_drew1 | refine below_set ?_ GE219.out) | exact HB.out)⟩⟩
                · replace c19 := Bool.eq_false_iff.mpr c19
                  subst c19
                  have H1 : ((cent_Add.f x8_1 ((rd_T40 l0 x14_1).f1)).bind fun bt223 => (if bt223.2 = 0 then (fact_Sum.l0 kj7 a1 a2 a3 bt223.1 l0 (l0.length : Int) (wrap64 (x14_1 + 1))) else (some (0, bt223.2)))) = some (r1, r2) := by rw [if_neg (show ¬ (false = true) by decide)] at H; exact H
                  clear H
                  have H := H1
                  clear H1
                  replace H := Option.bind_eq_some_iff.mp H
                  obtain ⟨⟨t223, t224⟩, A200, H⟩ := H
                  replace H : (if t224 = 0 then (fact_Sum.l0 kj7 a1 a2 a3 t223 l0 (l0.length : Int) (wrap64 (x14_1 + 1))) else (some (0, t224))) = some (r1, r2) := H
                  have A20 := Aside0.mk A200
                  clear A200
                  by_cases c21 : t224 = 0
                  · rw [if_pos c21] at H
                    have c21b0 : (t224 == 0) = true := beq_iff_eq.mpr c21
                    have c21b1 : (t224 != 0) = false := bne_eq_false_iff_eq.mpr c21
                    clear c21
                    have H' := Aside0.mk H
                    clear H
                    have hcz22_0 : wc.cell? ⟨gb219, 0, none⟩ = some (.string ((rd_T40 l0 x14_1).f0.f0)) := (blk_cell BK219.out 0).trans rfl
                    have hcz22_1 : wc.cell? ⟨gb219, 1, none⟩ = some (.string ((rd_T40 l0 x14_1).f0.f1)) := (blk_cell BK219.out 1).trans rfl
                    have hcz22_2 : wc.cell? ⟨gb219, 2, none⟩ = some (.string ((rd_T40 l0 x14_1).f0.f2)) := (blk_cell BK219.out 2).trans rfl
                    have hcz22_3 : wc.cell? ⟨gb219, 3, none⟩ = some (.string ((rd_T40 l0 x14_1).f0.f3)) := (blk_cell BK219.out 3).trans rfl
                    have hcz22_4 : wc.cell? ⟨gb219, 4, none⟩ = some (.int .i64 ((rd_T40 l0 x14_1).f0.f4)) := (blk_cell BK219.out 4).trans rfl
                    have hcz22_5 : wc.cell? ⟨gb219, 5, none⟩ = some (.int .i64 ((rd_T40 l0 x14_1).f1)) := (blk_cell BK219.out 5).trans rfl
                    have hfz22_0 := blk_frozen BK219.out 0
                    have hfz22_1 := blk_frozen BK219.out 1
                    have hfz22_2 := blk_frozen BK219.out 2
                    have hfz22_3 := blk_frozen BK219.out 3
                    have hfz22_4 := blk_frozen BK219.out 4
                    have hfz22_5 := blk_frozen BK219.out 5
                    go_wp2_with (first | ((with_reducible refine gate_callee (f := 26) rfl ?_); refine goesL_ (some 44) rfl rfl Try.func26 (by kernel_rfl) rfl #[.int .i64 x8_1, .int .i64 ((rd_T40 l0 x14_1).f1)] rfl (by (try simp only [List.map_toArray, List.map_cons, List.map_nil]); first | done | rfl | (simp only [List.length_drop, List.length_take]; rfl)) ?_; (with_reducible refine (cent_Add.calls x8_1 ((rd_T40 l0 x14_1).f1) t223 t224 _ A20.out).mono ?_); rintro e w' ⟨rfl, ⟨nd, rfl⟩⟩; refine ⟨_, rfl, ?_⟩))
                    go_roundg kj7
                    case measure => have := HK1.out; have := HJ7.out; omega
                    case rel => exact ⟨(t223), (wrap64 (x14_1 + 1)), (by first | rfl | (simp; done) | (simp [*]; done)), (by first | rfl | (simp; done) | (simp [*]; done)), H', ⟨by have := HK1.out; have := HJ7.out; omega⟩, ⟨by repeat (first | (with_reducible first | exact HB.out | apply below_alloc | apply pw_below_drewN | apply below_drew1 | refine below_set ?_ GE219.out) | exact HB.out)⟩⟩
                  · rw [if_neg c21] at H
                    have c21b0 : (t224 == 0) = false := beq_eq_false_iff_ne.mpr c21
                    have c21b1 : (t224 != 0) = true := bne_iff_ne.mpr c21
                    simp only [Option.some.injEq, Prod.mk.injEq] at H
                    obtain ⟨rfl, rfl⟩ := H
                    have hcz23_0 : wc.cell? ⟨gb219, 0, none⟩ = some (.string ((rd_T40 l0 x14_1).f0.f0)) := (blk_cell BK219.out 0).trans rfl
                    have hcz23_1 : wc.cell? ⟨gb219, 1, none⟩ = some (.string ((rd_T40 l0 x14_1).f0.f1)) := (blk_cell BK219.out 1).trans rfl
                    have hcz23_2 : wc.cell? ⟨gb219, 2, none⟩ = some (.string ((rd_T40 l0 x14_1).f0.f2)) := (blk_cell BK219.out 2).trans rfl
                    have hcz23_3 : wc.cell? ⟨gb219, 3, none⟩ = some (.string ((rd_T40 l0 x14_1).f0.f3)) := (blk_cell BK219.out 3).trans rfl
                    have hcz23_4 : wc.cell? ⟨gb219, 4, none⟩ = some (.int .i64 ((rd_T40 l0 x14_1).f0.f4)) := (blk_cell BK219.out 4).trans rfl
                    have hcz23_5 : wc.cell? ⟨gb219, 5, none⟩ = some (.int .i64 ((rd_T40 l0 x14_1).f1)) := (blk_cell BK219.out 5).trans rfl
                    have hfz23_0 := blk_frozen BK219.out 0
                    have hfz23_1 := blk_frozen BK219.out 1
                    have hfz23_2 := blk_frozen BK219.out 2
                    have hfz23_3 := blk_frozen BK219.out 3
                    have hfz23_4 := blk_frozen BK219.out 4
                    have hfz23_5 := blk_frozen BK219.out 5
                    go_wp2_with (first | ((with_reducible refine gate_callee (f := 26) rfl ?_); refine goesL_ (some 44) rfl rfl Try.func26 (by kernel_rfl) rfl #[.int .i64 x8_1, .int .i64 ((rd_T40 l0 x14_1).f1)] rfl (by (try simp only [List.map_toArray, List.map_cons, List.map_nil]); first | done | rfl | (simp only [List.length_drop, List.length_take]; rfl)) ?_; (with_reducible refine (cent_Add.calls x8_1 ((rd_T40 l0 x14_1).f1) t223 t224 _ A20.out).mono ?_); rintro e w' ⟨rfl, ⟨nd, rfl⟩⟩; refine ⟨_, rfl, ?_⟩))
                    go_ret2
                    exact ⟨by first | rfl | (simp [errW_none, errW_some] <;> rfl) | (simp [*, errW_none, errW_some] <;> rfl), by repeat (first | (with_reducible first | exact HB.out | apply below_alloc | apply pw_below_drewN | apply below_drew1 | refine below_set ?_ GE219.out) | exact HB.out)⟩
          · rw [if_neg c7] at H
            exact absurd H (by simp)
        · rw [if_neg c6] at H
          exact absurd H (by simp)
      · rw [if_neg c5] at H
        have c5b0 : decide (x14_1 < (l0.length : Int)) = false := decide_eq_false c5
        clear c5
        simp only [Option.some.injEq, Prod.mk.injEq] at H
        obtain ⟨rfl, rfl⟩ := H
        go_wp2
        go_ret2
        exact ⟨by first | rfl | (simp [errW_none, errW_some] <;> rfl) | (simp [*, errW_none, errW_some] <;> rfl), by repeat (first | (with_reducible first | exact HB.out | apply below_alloc | apply pw_below_drewN | apply below_drew1) | exact HB.out)⟩

end Go.Proofs.Ytidojompkihboaa.X
