/- fact.Get: the binary search, and the amount of a key. -/
import Derived.Test.YtidojompkihboaaSort
import Derived.Test.YtidojompkihboaaFront
import Derived.RangeFuncRecord
import Derived.Shelf.RegionOpen
import Derived.Outline
namespace Go.Proofs.Ytidojompkihboaa.X
section
open Go.RowKit Go.Shelf Go.Sort Go.Proofs.YtidojompkihboaaW.PrintWords Go.Proofs.YtidojompkihboaaW.PrintLast Go.Proofs.YtidojompkihboaaW.PrintMore
set_option maxHeartbeats 8000000 in
set_option maxRecDepth 100000 in
theorem get1_any (x : S40) (y : S30) (w : World) :
    Calls Try.prog 30 #[.agg #[.string x.f0.f0, .string x.f0.f1, .string x.f0.f2, .string x.f0.f3, .int .i64 x.f0.f4, .int .i64 x.f1], .agg #[.string y.f0, .string y.f1, .string y.f2, .string y.f3, .int .i64 y.f4]] w fun e w' => e = .returned (.int .i64 (cmpK x.f0 y)) ∧ G w w' := by
  have hcm : ∀ W, Aside0 (Calls Try.prog 8 #[.agg #[.string x.f0.f0, .string x.f0.f1, .string x.f0.f2, .string x.f0.f3, .int .i64 x.f0.f4], .agg #[.string y.f0, .string y.f1, .string y.f2, .string y.f3, .int .i64 y.f4]] W fun e w' => e = .returned (.int .i64 (cmpK x.f0 y)) ∧ G W w') := fun W => ⟨cmp_any x.f0 y W⟩
  generalize cmpK x.f0 y = r at hcm ⊢
  go_enter Try.func30, Try.ntmps30
  go_wp2_with (go_at_call 8; refine (hcm _).out.mono ?_; rintro e w' ⟨rfl, hG⟩)
  go_ret
  exact ⟨rfl, G.trans (((G.refl w).alloc _).alloc _) hG⟩
theorem G_below {w w' : World} (h : G w w') : Below w.heap.size w w' := by
  obtain ⟨q, os, rfl⟩ := h
  exact ⟨rfl, rfl, rfl, by show _ ≤ (w.heap ++ os).size; rw [Array.size_append]; omega, fun k hk => Array.getElem?_append_left hk⟩
/-- Where a key stands, or would stand. -/
def bsL (l : List S40) (y : S30) : Nat → Int → Int → Int
  | 0, i, _ => i
  | n + 1, i, j => if i < j then (if cmpK (rd_T40 l ((i + j) / 2)).f0 y < 0 then bsL l y n ((i + j) / 2 + 1) j else bsL l y n i ((i + j) / 2)) else i
set_option maxHeartbeats 8000000 in
set_option maxRecDepth 100000 in
theorem bs_any (l : List S40) (y : S30) (A : Option Addr) (c : Nat) (w : World) (hr : Kd.C k40 w A l.length l) (hn : l.length ≤ 1000000) :
    Calls Try.prog 29 #[.slice A l.length c, .agg #[.string y.f0, .string y.f1, .string y.f2, .string y.f3, .int .i64 y.f4], .func (.func 30) #[] #[]] w fun e w' =>
      e = .returned (.tuple #[.int .i64 (bsL l y l.length 0 l.length), .bool (decide (bsL l y l.length 0 l.length < l.length) && (cmpK (rd_T40 l (bsL l y l.length 0 l.length)).f0 y == 0))]) ∧ G w w' := by
  have HR := Aside0.mk hr
  clear hr
  go_enter Try.func29, Try.ntmps29
  go_wp2
  obtain ⟨w5, hw5⟩ : ∃ w5, (w.alloc (Obj.cells #[Value.string y.f0, Value.string y.f1, Value.string y.f2, Value.string y.f3, Value.int IntKind.i64 y.f4] 30)) = w5 := ⟨_, rfl⟩
  have g5 := Aside0.mk (show w5.heap[w.heap.size]? = some (.cells #[Value.string y.f0, Value.string y.f1, Value.string y.f2, Value.string y.f3, Value.int IntKind.i64 y.f4] 30 (0, 0)) by rw [← hw5]; exact World.alloc_heap_new _ _)
  have HC5 := Aside0.mk (show Kd.C k40 w5 A l.length l by rw [← hw5]; exact Kd.C_below HR.out ((Below.refl _ _).alloc (Nat.le_refl _) _))
  have HG5 := Aside0.mk (show G w w5 by rw [← hw5]; exact (G.refl w).alloc _)
  rw [hw5]
  clear hw5
  go_loopw [9, 10, 11] (fun v9 v10 _ wr => ∃ (i j : Int) (n q : Nat) (os : Array Obj), v9 = .int .i64 i ∧ v10 = .int .i64 j ∧ 0 ≤ i ∧ i ≤ j ∧ j ≤ l.length ∧ j - i ≤ n ∧ Aside0 (bsL l y l.length 0 l.length = bsL l y n i j) ∧ wr = grow (w5.drewN q) os) (fun v9 v10 _ _ => (intOf v10 - intOf v9).toNat)
  case atStart => exact ⟨0, l.length, l.length, 0, #[], rfl, rfl, by omega, by omega, by omega, by omega, ⟨rfl⟩, by rw [grow_empty]; rfl⟩
  case round =>
    obtain ⟨i, j, n, q, os, rfl, rfl, h0, h1, h2, hn2, hbs, rfl⟩ := hrel
    by_cases hlt : i < j
    · have hltb : decide (i < j) = true := decide_eq_true hlt
      have hCW := Kd.C_below HC5.out (G_below ⟨q, os, rfl⟩)
      have gW := (G_below (w := w5) ⟨q, os, rfl⟩).block w.heap.size (blk_lt g5.out) |>.trans g5.out
      obtain ⟨ad, rfl, z0, z1, z2, z3, z4, z5⟩ := at_T40 hCW ((i + j) / 2) (by omega) (by omega)
      generalize hW : grow (w5.drewN q) os = W at hCW gW z0 z1 z2 z3 z4 z5 ⊢
      have mixed : Try.prog.follows Departure.mixedOrders = true := by kernel_rfl
      have lw := blk_lt gW
      have y0 : ∀ n os, (grow (W.drewN n) os).cell? ⟨w.heap.size, 0, none⟩ = some (.string y.f0) := cell_grown lw (by simp [World.cell?, gW])
      have y1 : ∀ n os, (grow (W.drewN n) os).cell? ⟨w.heap.size, 1, none⟩ = some (.string y.f1) := cell_grown lw (by simp [World.cell?, gW])
      have y2 : ∀ n os, (grow (W.drewN n) os).cell? ⟨w.heap.size, 2, none⟩ = some (.string y.f2) := cell_grown lw (by simp [World.cell?, gW])
      have y3 : ∀ n os, (grow (W.drewN n) os).cell? ⟨w.heap.size, 3, none⟩ = some (.string y.f3) := cell_grown lw (by simp [World.cell?, gW])
      have y4 : ∀ n os, (grow (W.drewN n) os).cell? ⟨w.heap.size, 4, none⟩ = some (.int .i64 y.f4) := cell_grown lw (by simp [World.cell?, gW])
      have x0 := fun n os => cell_grown (World.block_lt_of_cell? W _ z0) z0 n os
      have x1 := fun n os => cell_grown (World.block_lt_of_cell? W _ z1) z1 n os
      have x2 := fun n os => cell_grown (World.block_lt_of_cell? W _ z2) z2 n os
      have x3 := fun n os => cell_grown (World.block_lt_of_cell? W _ z3) z3 n os
      have x4 := fun n os => cell_grown (World.block_lt_of_cell? W _ z4) z4 n os
      have x5 := fun n os => cell_grown (World.block_lt_of_cell? W _ z5) z5 n os
      have hcall : ∀ n os, Aside0 (Calls Try.prog 30 #[.agg #[.string (rd_T40 l ((i + j) / 2)).f0.f0, .string (rd_T40 l ((i + j) / 2)).f0.f1, .string (rd_T40 l ((i + j) / 2)).f0.f2, .string (rd_T40 l ((i + j) / 2)).f0.f3, .int .i64 (rd_T40 l ((i + j) / 2)).f0.f4, .int .i64 (rd_T40 l ((i + j) / 2)).f1], .agg #[.string y.f0, .string y.f1, .string y.f2, .string y.f3, .int .i64 y.f4]] (grow (W.drewN n) os) fun e w'' => e = .returned (.int .i64 (cmpK (rd_T40 l ((i + j) / 2)).f0 y)) ∧ ∃ p : GrownBy, w'' = grow (W.drewN p.n) p.os) :=
        fun n os => ⟨Calls.grown_of (get1_any _ _ _)⟩
      clear z0 z1 z2 z3 z4 z5
      have i1 : 0 ≤ (i + j) / 2 := by omega
      have i2 : (i + j) / 2 < (l.length : Int) := by omega
      go_wp2
      go_quiet_grown (exact (hcall _ _).out)
      obtain ⟨n, rfl⟩ : ∃ n', n = n' + 1 := ⟨n - 1, by omega⟩
      have hworld : grow (W.drewN nq) osq = grow (w5.drewN (q + nq)) (os ++ osq) := by rw [← hW]; show grow (grow ((w5.drewN q).drewN nq) os) osq = _; rw [grow_grow, World.drewN_drewN]
      have HWd := Aside0.mk hworld
      clear hworld x0 x1 x2 x3 x4 x5 y0 y1 y2 y3 y4 hcall
      by_cases hc : cmpK (rd_T40 l ((i + j) / 2)).f0 y < 0
      · have HBS := Aside0.mk (show bsL l y l.length 0 l.length = bsL l y n ((i + j) / 2 + 1) j by rw [hbs.out, bsL, if_pos hlt, if_pos hc])
        go_wp2
        go_roundw
        case rel => exact ⟨(i + j) / 2 + 1, j, n, q + nq, os ++ osq, rfl, rfl, by omega, by omega, by omega, by omega, HBS, HWd.out⟩
        case measure => simp [intOf]; omega
      · have HBS := Aside0.mk (show bsL l y l.length 0 l.length = bsL l y n i ((i + j) / 2) by rw [hbs.out, bsL, if_pos hlt, if_neg hc])
        go_wp2
        go_roundw
        case rel => exact ⟨i, (i + j) / 2, n, q + nq, os ++ osq, rfl, rfl, by omega, by omega, by omega, by omega, HBS, HWd.out⟩
        case measure => simp [intOf]; omega
    · have hltb : decide (i < j) = false := decide_eq_false hlt
      have hres : bsL l y l.length 0 l.length = i := by
        rw [hbs.out]
        cases n with
        | zero => rfl
        | succ n => rw [bsL, if_neg hlt]
      have HRES := Aside0.mk hres
      clear hres hbs
      have mixed : Try.prog.follows Departure.mixedOrders = true := by kernel_rfl
      have hGW := Aside0.mk ((G.trans HG5.out ⟨q, os, rfl⟩) : G w (grow (w5.drewN q) os))
      by_cases hin : i < (l.length : Int)
      · have hinb : decide (i < (l.length : Int)) = true := decide_eq_true hin
        have hCW := Kd.C_below HC5.out (G_below ⟨q, os, rfl⟩)
        have gW := (G_below (w := w5) ⟨q, os, rfl⟩).block w.heap.size (blk_lt g5.out) |>.trans g5.out
        obtain ⟨ad, rfl, z0, z1, z2, z3, z4, z5⟩ := at_T40 hCW i h0 hin
        generalize hW : grow (w5.drewN q) os = W at hCW gW z0 z1 z2 z3 z4 z5 hGW ⊢
        have lw := blk_lt gW
        have y0 : ∀ n os, (grow (W.drewN n) os).cell? ⟨w.heap.size, 0, none⟩ = some (.string y.f0) := cell_grown lw (by simp [World.cell?, gW])
        have y1 : ∀ n os, (grow (W.drewN n) os).cell? ⟨w.heap.size, 1, none⟩ = some (.string y.f1) := cell_grown lw (by simp [World.cell?, gW])
        have y2 : ∀ n os, (grow (W.drewN n) os).cell? ⟨w.heap.size, 2, none⟩ = some (.string y.f2) := cell_grown lw (by simp [World.cell?, gW])
        have y3 : ∀ n os, (grow (W.drewN n) os).cell? ⟨w.heap.size, 3, none⟩ = some (.string y.f3) := cell_grown lw (by simp [World.cell?, gW])
        have y4 : ∀ n os, (grow (W.drewN n) os).cell? ⟨w.heap.size, 4, none⟩ = some (.int .i64 y.f4) := cell_grown lw (by simp [World.cell?, gW])
        have x0 := fun n os => cell_grown (World.block_lt_of_cell? W _ z0) z0 n os
        have x1 := fun n os => cell_grown (World.block_lt_of_cell? W _ z1) z1 n os
        have x2 := fun n os => cell_grown (World.block_lt_of_cell? W _ z2) z2 n os
        have x3 := fun n os => cell_grown (World.block_lt_of_cell? W _ z3) z3 n os
        have x4 := fun n os => cell_grown (World.block_lt_of_cell? W _ z4) z4 n os
        have x5 := fun n os => cell_grown (World.block_lt_of_cell? W _ z5) z5 n os
        have hcall : ∀ n os, Aside0 (Calls Try.prog 30 #[.agg #[.string (rd_T40 l i).f0.f0, .string (rd_T40 l i).f0.f1, .string (rd_T40 l i).f0.f2, .string (rd_T40 l i).f0.f3, .int .i64 (rd_T40 l i).f0.f4, .int .i64 (rd_T40 l i).f1], .agg #[.string y.f0, .string y.f1, .string y.f2, .string y.f3, .int .i64 y.f4]] (grow (W.drewN n) os) fun e w'' => e = .returned (.int .i64 (cmpK (rd_T40 l i).f0 y)) ∧ ∃ p : GrownBy, w'' = grow (W.drewN p.n) p.os) :=
          fun n os => ⟨Calls.grown_of (get1_any _ _ _)⟩
        clear z0 z1 z2 z3 z4 z5 hW gW hCW
        go_wp2_with fail
        go_quiet_grown (exact (hcall _ _).out)
        clear x0 x1 x2 x3 x4 x5 y0 y1 y2 y3 y4 hcall
        go_wp2
        go_ret2
        exact ⟨by rw [HRES.out]; simp [hin], G.trans hGW.out ⟨nq, osq, rfl⟩⟩
      · have hinb : decide (i < (l.length : Int)) = false := decide_eq_false hin
        have HIN := Aside0.mk hin
        have hGW2 := Aside0.mk (G.drewN hGW.out 1)
        generalize grow (w5.drewN q) os = W at hGW hGW2 ⊢
        clear hin h0 h1 h2 hn2 hltb HR HC5 g5 HG5
        go_wp2_with fail
        go_big_region_o
        go_wp2
        go_ret2
        exact ⟨by rw [HRES.out, decide_eq_false (show ¬ i < (l.length : Int) by have := HIN.out; omega)]; rfl, hGW2.out⟩
end
section
open Go.RowKit Go.Shelf Go.Sort Go.Proofs.YtidojompkihboaaW.PrintWords Go.Proofs.YtidojompkihboaaW.PrintLast Go.Proofs.YtidojompkihboaaW.PrintMore
set_option linter.unusedVariables false
set_option linter.unusedSimpArgs false
theorem bsL_in (l : List S40) (y : S30) : ∀ (n : Nat) (i j : Int), i ≤ j → i ≤ bsL l y n i j ∧ bsL l y n i j ≤ j
  | 0, i, j, h => ⟨Int.le_refl _, h⟩
  | n + 1, i, j, h => by
    rw [bsL]
    split
    · split
      · have := bsL_in l y n ((i + j) / 2 + 1) j (by omega); omega
      · have := bsL_in l y n i ((i + j) / 2) (by omega); omega
    · exact ⟨Int.le_refl _, h⟩
def fact_Get.f (l0 : List S40) (a1_0 a1_1 a1_2 a1_3 : ByteArray) (a1_4 : Int) : Option Int :=
  if l0.length ≤ 1000000 then some (if bsL l0 ⟨a1_0, a1_1, a1_2, a1_3, a1_4⟩ l0.length 0 l0.length < l0.length ∧ cmpK (rd_T40 l0 (bsL l0 ⟨a1_0, a1_1, a1_2, a1_3, a1_4⟩ l0.length 0 l0.length)).f0 ⟨a1_0, a1_1, a1_2, a1_3, a1_4⟩ = 0
    then (rd_T40 l0 (bsL l0 ⟨a1_0, a1_1, a1_2, a1_3, a1_4⟩ l0.length 0 l0.length)).f1 else 0) else none
set_option maxHeartbeats 2000000 in
set_option maxRecDepth 100000 in
theorem get_any (l : List S40) (y : S30) (A : Option Addr) (c : Nat) (w : World) (hr : Kd.C k40 w A l.length l) (hn : l.length ≤ 1000000) :
    Calls Try.prog 18 #[.slice A l.length c, .agg #[.string y.f0, .string y.f1, .string y.f2, .string y.f3, .int .i64 y.f4]] w fun e w' =>
      e = .returned (.int .i64 (if bsL l y l.length 0 l.length < l.length ∧ cmpK (rd_T40 l (bsL l y l.length 0 l.length)).f0 y = 0 then (rd_T40 l (bsL l y l.length 0 l.length)).f1 else 0)) ∧ Below w.heap.size w w' := by
  have HC := Aside0.mk hr
  have hbs : ∀ W, Kd.C k40 W A l.length l → Aside0 (Calls Try.prog 29 #[.slice A l.length c, .agg #[.string y.f0, .string y.f1, .string y.f2, .string y.f3, .int .i64 y.f4], .func (.func 30) #[] #[]] W fun e w' =>
      e = .returned (.tuple #[.int .i64 (bsL l y l.length 0 l.length), .bool (decide (bsL l y l.length 0 l.length < l.length) && (cmpK (rd_T40 l (bsL l y l.length 0 l.length)).f0 y == 0))]) ∧ G W w') := fun W hW => ⟨bs_any l y A c W hW hn⟩
  obtain ⟨r, hrd⟩ : ∃ r, r = bsL l y l.length 0 l.length := ⟨_, rfl⟩
  have hr0 : 0 ≤ r := by rw [hrd]; exact (bsL_in l y l.length 0 l.length (by omega)).1
  rw [← hrd] at hbs ⊢
  clear hrd hr
  by_cases hin : r < (l.length : Int) ∧ cmpK (rd_T40 l r).f0 y = 0
  · have hb : (decide (r < (l.length : Int)) && (cmpK (rd_T40 l r).f0 y == 0)) = true := by rw [decide_eq_true hin.1, hin.2]; rfl
    rw [if_pos hin]
    rw [hb] at hbs
    have hlt := hin.1
    clear hin hb
    go_enter Try.func18, Try.ntmps18
    go_wp2_with (go_at_call 29; refine (hbs _ (Kd.C_below HC.out ((Below.refl _ _).alloc (Nat.le_refl _) _))).out.mono ?_; rintro e w' ⟨rfl, hG⟩)
    have hB := Aside0.mk (((Below.refl w.heap.size w).alloc (Nat.le_refl _) _).trans ((G_below hG).mono (by simp)))
    obtain ⟨ad, rfl, z0, z1, z2, z3, z4, z5⟩ := at_T40 (Kd.C_below HC.out hB.out) r hr0 hlt
    clear hG hbs HC
    go_wp2
    go_simp
    rename_i K1 a1 K2 a2
    refine a2 _ _ ?_
    clear a2 K2
    go_wp2
    go_ret
    exact ⟨rfl, hB.out⟩
  · have hb : (decide (r < (l.length : Int)) && (cmpK (rd_T40 l r).f0 y == 0)) = false := by
      by_cases h : r < (l.length : Int)
      · have h2 : ¬ cmpK (rd_T40 l r).f0 y = 0 := fun e => hin ⟨h, e⟩
        simp [h2]
      · rw [decide_eq_false h]; rfl
    rw [if_neg hin]
    rw [hb] at hbs
    clear hin hb
    go_enter Try.func18, Try.ntmps18
    go_wp2_with (go_at_call 29; refine (hbs _ (Kd.C_below HC.out ((Below.refl _ _).alloc (Nat.le_refl _) _))).out.mono ?_; rintro e w' ⟨rfl, hG⟩)
    have hB := Aside0.mk (((Below.refl w.heap.size w).alloc (Nat.le_refl _) _).trans ((G_below hG).mono (by simp)))
    clear hG
    go_wp2
    go_ret
    exact ⟨rfl, hB.out⟩
theorem fact_Get.calls (A0 : Option Addr) (c0 : Nat) (l0 : List S40) (a1_0 a1_1 a1_2 a1_3 : ByteArray) (a1_4 : Int) (r : Int) (w : World) (hr0 : Kd.C k40 w A0 l0.length l0) (_hc0 : l0.length ≤ c0) (h : fact_Get.f l0 a1_0 a1_1 a1_2 a1_3 a1_4 = some r) :
    Calls Try.prog 18 #[.slice A0 l0.length c0, .agg #[.string a1_0, .string a1_1, .string a1_2, .string a1_3, .int .i64 a1_4]] w fun e w' => e = .returned (.int .i64 r) ∧ Below w.heap.size w w' := by
  unfold fact_Get.f at h
  split at h
  · rename_i hn
    injection h with h
    rw [← h]
    exact get_any l0 ⟨a1_0, a1_1, a1_2, a1_3, a1_4⟩ A0 c0 w hr0 hn
  · cases h
end
end Go.Proofs.Ytidojompkihboaa.X
