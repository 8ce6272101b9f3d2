/- How two keys stand: fact.Cmp, walked in the form that the shelf's sort asks for. -/
import Derived.Test.YtidojompkihboaaXx0
import Derived.Test.YtidojompkihboaaCompare
import Derived.Test.YtidojompkihboaaXx2
import Derived.Shelf.SlSortCmp.QuietGrown
import Derived.RangeFuncRecord
namespace Go.Proofs.Ytidojompkihboaa.X
open Go.RowKit Go.Shelf Go.Sort Go.Proofs.YtidojompkihboaaW.PrintWords Go.Proofs.YtidojompkihboaaW.PrintLast Go.Proofs.YtidojompkihboaaW.PrintMore

def cmpI (x y : Int) : Int := if x < y then -1 else if y < x then 1 else 0
theorem ret_int {a b : Int} (h : a = b) : Ending.returned (.int .i64 a) = .returned (.int .i64 b) := by rw [h]
set_option maxHeartbeats 400000 in
theorem cmpInt_any (x y : Int) (w : World) : Calls Try.prog 21 #[.int .i64 x, .int .i64 y] w fun e w' => e = .returned (.int .i64 (cmpI x y)) ∧ w' = w := by
  go_enter Try.func21, Try.ntmps21
  go_wp2_with (go_at_call 32; refine (Try.cmp_isNaN_int2 _ _).mono ?_; rintro e w' ⟨rfl, rfl⟩)
  all_goals go_ret
  all_goals refine ⟨ret_int ?_, rfl⟩
  all_goals (unfold cmpI; first | (simp [*]; done) | (rw [if_neg (by omega), if_neg (by omega)]))
/-- The first that is not nothing. -/
def orL : List Int → Int
  | [] => 0
  | x :: r => if x = 0 then orL r else x
theorem orL_drop (l : List Int) (i : Int) (h0 : 0 ≤ i) (h1 : i < l.length) : orL (l.drop i.toNat) = if rd l i = 0 then orL (l.drop (i + 1).toNat) else rd l i := by
  have hn : i.toNat < l.length := by omega
  rw [List.drop_eq_getElem_cons hn, orL, show (i + 1).toNat = i.toNat + 1 from by omega]
  simp [rd, List.getD_eq_getElem?_getD, List.getElem?_eq_getElem hn]
set_option maxHeartbeats 400000 in
theorem or_any (A : Option Addr) (c : Nat) (l : List Int) (w : World) (hr : Aside0 (ReadsInt w .i64 A l.length l)) (hm : l.length ≤ 4611686018427387904) :
    Calls Try.prog 19 #[.slice A l.length c] w fun e w' => e = .returned (.int .i64 (orL l)) ∧ w = w' := by
  go_enter Try.func19, Try.ntmps19
  go_wp2
  go_loop [5, 8] (fun _ k => ∃ i : Int, 0 ≤ i ∧ i ≤ l.length ∧ k = .int .i64 i ∧ Aside0 (orL l = orL (l.drop i.toNat))) (fun _ k => l.length - (intOf k).toNat)
  case atStart => exact ⟨0, by omega, by omega, rfl, ⟨rfl⟩⟩
  case round =>
    obtain ⟨i, h0, h1, rfl, hi⟩ := hrel
    by_cases hlt : i < (l.length : Int)
    · obtain ⟨ad, rfl, hc⟩ := hr.out.at_ i h0 hlt
      have hd := orL_drop l i h0 hlt
      by_cases hz : rd l i = 0
      · have HI := Aside0.mk (hi.out.trans (by rw [hd, if_pos hz]))
        rw [hz] at hc
        clear hd hz
        go_wp2
        go_round
        case rel => exact ⟨i + 1, by omega, by omega, rfl, HI⟩
        case measure => simp [intOf]; omega
      · have HI := Aside0.mk (hi.out.trans (by rw [hd, if_neg hz]))
        have hzb : (rd l i != 0) = true := bne_iff_ne.mpr hz
        clear hd
        go_wp2
        go_ret
        exact ⟨by rw [HI.out]; rfl, rfl⟩
    · have HI := Aside0.mk (hi.out.trans (by rw [List.drop_eq_nil_of_le (by omega), orL]))
      go_wp2
      go_ret
      exact ⟨by rw [HI.out]; rfl, rfl⟩

def G (w w' : World) : Prop := ∃ q os', w' = grow (w.drewN q) os'
theorem G.refl (w : World) : G w w := ⟨0, #[], by rw [grow_empty]; rfl⟩
theorem G.drewN {w w' : World} (h : G w w') (n : Nat) : G w (w'.drewN n) := by
  obtain ⟨q, os, rfl⟩ := h
  exact ⟨q + n, os, by show grow ((w.drewN q).drewN n) os = _; rw [World.drewN_drewN]⟩
theorem G.drew {w w' : World} (h : G w w') : G w w'.drew := h.drewN 1
theorem G.grow {w w' : World} (h : G w w') (o : Array Obj) : G w (Sort.grow w' o) := by
  obtain ⟨q, os, rfl⟩ := h
  exact ⟨q, os ++ o, by rw [grow_grow]⟩
theorem G.alloc {w w' : World} (h : G w w') (o : Obj) : G w (w'.alloc o) := by rw [alloc_eq_grow]; exact h.grow _
theorem lit_reads (W : World) (b : Nat) (l : List Int) (hl : l.length ≤ 100) (h : W.heap[b]? = some (.cells (l.map (Value.int .i64)).toArray 3 (0, 0))) : ReadsInt W .i64 (some ⟨b, 0, none⟩) l.length l := by
  refine ⟨rfl, by omega, fun _ => ⟨_, rfl, fun j hj => ?_⟩⟩
  rw [add_plain]
  unfold World.cell?
  rw [show (⟨b, 0 + j, none⟩ : Addr).block = b from rfl, h]
  simp [List.getD_eq_getElem?_getD, hj]
theorem cmpS (a b : ByteArray) (r : Int) (w : World) (h : cmpB a b = r) : Calls Try.prog 20 #[.string a, .string b] w fun e w' => e = .returned (.int .i64 r) ∧ Drawn0 w w' := strings_Compare.calls a b r w (congrArg some h)
theorem cmpN (a b : Int) (r : Int) (w : World) (h : cmpI a b = r) : Calls Try.prog 21 #[.int .i64 a, .int .i64 b] w fun e w' => e = .returned (.int .i64 r) ∧ Drawn0 w w' := (cmpInt_any a b w).mono (fun e w' ⟨h1, h2⟩ => ⟨by rw [h1, h], ⟨0, by rw [h2]; rfl⟩⟩)
def cmpK (x y : S30) : Int := orL [cmpB x.f0 y.f0, cmpB x.f1 y.f1, cmpB x.f2 y.f2, cmpB x.f3 y.f3, cmpI x.f4 y.f4]
set_option linter.unusedVariables false
set_option linter.unusedSimpArgs false
set_option maxHeartbeats 8000000 in
set_option maxRecDepth 100000 in
theorem cmp_any (x y : S30) (w : World) :
    Calls Try.prog 8 #[.agg #[.string x.f0, .string x.f1, .string x.f2, .string x.f3, .int .i64 x.f4], .agg #[.string y.f0, .string y.f1, .string y.f2, .string y.f3, .int .i64 y.f4]] w fun e w' => e = .returned (.int .i64 (cmpK x y)) ∧ G w w' := by
  obtain ⟨t109, e109⟩ : ∃ t, cmpB x.f0 y.f0 = t := ⟨_, rfl⟩
  obtain ⟨t110, e110⟩ : ∃ t, cmpB x.f1 y.f1 = t := ⟨_, rfl⟩
  obtain ⟨t111, e111⟩ : ∃ t, cmpB x.f2 y.f2 = t := ⟨_, rfl⟩
  obtain ⟨t112, e112⟩ : ∃ t, cmpB x.f3 y.f3 = t := ⟨_, rfl⟩
  obtain ⟨t113, e113⟩ : ∃ t, cmpI x.f4 y.f4 = t := ⟨_, rfl⟩
  obtain ⟨t117, e117⟩ : ∃ t, orL [t109, t110, t111, t112, t113] = t := ⟨_, rfl⟩
  have E117 := Aside0.mk (show cmpK x y = t117 by unfold cmpK; rw [e109, e110, e111, e112, e113, e117])
  have E109 := Aside0.mk e109
  have E110 := Aside0.mk e110
  have E111 := Aside0.mk e111
  have E112 := Aside0.mk e112
  have E113 := Aside0.mk e113
  have HOr : Aside0 (∀ (W : World) (b : Nat), W.heap[b]? = some (.cells #[.int .i64 t109, .int .i64 t110, .int .i64 t111, .int .i64 t112, .int .i64 t113] 3 (0, 0)) → Calls Try.prog 19 #[.slice (some ⟨b, 0, none⟩) 5 5] W fun e w' => e = .returned (.int .i64 t117) ∧ W = w') :=
    ⟨fun W b h => by rw [← e117]; exact or_any _ 5 [t109, t110, t111, t112, t113] _ ⟨lit_reads W b [t109, t110, t111, t112, t113] (by simp) h⟩ (by simp)⟩
  clear e109 e110 e111 e112 e113 e117
  have hu30 := Try.underlying30
  go_enter Try.func8, Try.ntmps8
  go_wp2
  obtain ⟨W2, hW2⟩ : ∃ W2, ((w.alloc (Obj.cells #[Value.string x.f0, Value.string x.f1, Value.string x.f2, Value.string x.f3, Value.int IntKind.i64 x.f4] 30)).alloc
      (Obj.cells #[Value.string y.f0, Value.string y.f1, Value.string y.f2, Value.string y.f3, Value.int IntKind.i64 y.f4] 30)) = W2 := ⟨_, rfl⟩
  have hz : w.heap.size + 1 = (w.alloc (Obj.cells #[Value.string x.f0, Value.string x.f1, Value.string x.f2, Value.string x.f3, Value.int IntKind.i64 x.f4] 30)).heap.size := by simp
  have BK107 : W2.drew.heap[w.heap.size]? = some (Obj.cells #[Value.string x.f0, Value.string x.f1, Value.string x.f2, Value.string x.f3, Value.int IntKind.i64 x.f4] 30 (0, 0)) := by
    rw [← hW2]; exact (Below.heap_alloc _ _ _ (by simp)).trans (World.alloc_heap_new _ _)
  have BK108 : W2.drew.heap[w.heap.size + 1]? = some (Obj.cells #[Value.string y.f0, Value.string y.f1, Value.string y.f2, Value.string y.f3, Value.int IntKind.i64 y.f4] 30 (0, 0)) := by
    rw [← hW2, hz]; exact World.alloc_heap_new _ _
  have HG := Aside0.mk (show G w W2.drew from hW2 ▸ (((G.refl w).alloc _).alloc _).drew)
  rw [hW2]
  clear hW2 hz
  generalize hg108 : w.heap.size + 1 = gb108 at BK108 ⊢
  generalize hg107 : w.heap.size = gb107 at BK107 ⊢
  clear hg108 hg107
  refine start_ (n := 28) (S := fun w' => w'.cell? ⟨gb107, 0, none⟩ = some (.string x.f0) ∧ w'.cell? ⟨gb107, 1, none⟩ = some (.string x.f1) ∧ w'.cell? ⟨gb107, 2, none⟩ = some (.string x.f2) ∧ w'.cell? ⟨gb107, 3, none⟩ = some (.string x.f3) ∧ w'.cell? ⟨gb107, 4, none⟩ = some (.int .i64 x.f4) ∧ w'.cell? ⟨gb108, 0, none⟩ = some (.string y.f0) ∧ w'.cell? ⟨gb108, 1, none⟩ = some (.string y.f1) ∧ w'.cell? ⟨gb108, 2, none⟩ = some (.string y.f2) ∧ w'.cell? ⟨gb108, 3, none⟩ = some (.string y.f3) ∧ w'.cell? ⟨gb108, 4, none⟩ = some (.int .i64 y.f4)) (ds := []) #[false, false, false, false, false, false, false, false, false, false, false, false, false, false, false, false, false, false, false, false, false, false, false, false, false, false, false, false] (by kernel_rfl) rfl rfl ⟨(blk_cell BK107 0).trans rfl, (blk_cell BK107 1).trans rfl, (blk_cell BK107 2).trans rfl, (blk_cell BK107 3).trans rfl, (blk_cell BK107 4).trans rfl, (blk_cell BK108 0).trans rfl, (blk_cell BK108 1).trans rfl, (blk_cell BK108 2).trans rfl, (blk_cell BK108 3).trans rfl, (blk_cell BK108 4).trans rfl⟩ (fun hHeld => ?_); refine with_tabW fact_Cmp.tab1 fact_Cmp.bits1 (fun HT_ HW_ => ?_)
  generalize W2.drew = w11 at BK107 BK108 HG hHeld ⊢
  refine pure_ (i := 0) (N := some 5) (v := ?_) (a' := ?_) #[true, false, false, false, false, false, false, false, false, false, false, false, false, false, false, false, false, false, false, false, false, false, false, false, false, false, false, false] rfl rfl (any_of HT_.out (by kernel_rfl)) (fun _ _ _ h => h) (Or.inl ⟨by rfl, ?_⟩) ?_ ?_
  rotate_left
  · intro w'
    go_simp
    with_reducible rfl
  rotate_left
  · simp only [Act.put, List.setIfInBounds_toArray, List.set_cons_zero, List.set_cons_succ, i64_w, i32_w]
    rfl
  refine pure_ (i := 2) (N := some 7) (v := ?_) (a' := ?_) #[true, false, true, false, false, false, false, false, false, false, false, false, false, false, false, false, false, false, false, false, false, false, false, false, false, false, false, false] rfl rfl (any_of HT_.out (by kernel_rfl)) (fun _ _ _ h => h) (Or.inl ⟨by rfl, ?_⟩) ?_ ?_
  rotate_left
  · intro w'
    go_simp
    with_reducible rfl
  rotate_left
  · simp only [Act.put, List.setIfInBounds_toArray, List.set_cons_zero, List.set_cons_succ, i64_w, i32_w]
    rfl
  refine pure_ (i := 5) (N := some 10) (v := ?_) (a' := ?_) #[true, false, true, false, false, true, false, false, false, false, false, false, false, false, false, false, false, false, false, false, false, false, false, false, false, false, false, false] rfl rfl (any_of HT_.out (by kernel_rfl)) (fun _ _ _ h => h) (Or.inl ⟨by rfl, ?_⟩) ?_ ?_
  rotate_left
  · intro w'
    go_simp
    with_reducible rfl
  rotate_left
  · simp only [Act.put, List.setIfInBounds_toArray, List.set_cons_zero, List.set_cons_succ, i64_w, i32_w]
    rfl
  refine pure_ (i := 7) (N := some 12) (v := ?_) (a' := ?_) #[true, false, true, false, false, true, false, true, false, false, false, false, false, false, false, false, false, false, false, false, false, false, false, false, false, false, false, false] rfl rfl (any_of HT_.out (by kernel_rfl)) (fun _ _ _ h => h) (Or.inl ⟨by rfl, ?_⟩) ?_ ?_
  rotate_left
  · intro w'
    go_simp
    with_reducible rfl
  rotate_left
  · simp only [Act.put, List.setIfInBounds_toArray, List.set_cons_zero, List.set_cons_succ, i64_w, i32_w]
    rfl
  refine pure_ (i := 10) (N := some 15) (v := ?_) (a' := ?_) #[true, false, true, false, false, true, false, true, false, false, true, false, false, false, false, false, false, false, false, false, false, false, false, false, false, false, false, false] rfl rfl (any_of HT_.out (by kernel_rfl)) (fun _ _ _ h => h) (Or.inl ⟨by rfl, ?_⟩) ?_ ?_
  rotate_left
  · intro w'
    go_simp
    with_reducible rfl
  rotate_left
  · simp only [Act.put, List.setIfInBounds_toArray, List.set_cons_zero, List.set_cons_succ, i64_w, i32_w]
    rfl
  refine pure_ (i := 12) (N := some 17) (v := ?_) (a' := ?_) #[true, false, true, false, false, true, false, true, false, false, true, false, true, false, false, false, false, false, false, false, false, false, false, false, false, false, false, false] rfl rfl (any_of HT_.out (by kernel_rfl)) (fun _ _ _ h => h) (Or.inl ⟨by rfl, ?_⟩) ?_ ?_
  rotate_left
  · intro w'
    go_simp
    with_reducible rfl
  rotate_left
  · simp only [Act.put, List.setIfInBounds_toArray, List.set_cons_zero, List.set_cons_succ, i64_w, i32_w]
    rfl
  refine pure_ (i := 15) (N := some 20) (v := ?_) (a' := ?_) #[true, false, true, false, false, true, false, true, false, false, true, false, true, false, false, true, false, false, false, false, false, false, false, false, false, false, false, false] rfl rfl (any_of HT_.out (by kernel_rfl)) (fun _ _ _ h => h) (Or.inl ⟨by rfl, ?_⟩) ?_ ?_
  rotate_left
  · intro w'
    go_simp
    with_reducible rfl
  rotate_left
  · simp only [Act.put, List.setIfInBounds_toArray, List.set_cons_zero, List.set_cons_succ, i64_w, i32_w]
    rfl
  refine pure_ (i := 17) (N := some 22) (v := ?_) (a' := ?_) #[true, false, true, false, false, true, false, true, false, false, true, false, true, false, false, true, false, true, false, false, false, false, false, false, false, false, false, false] rfl rfl (any_of HT_.out (by kernel_rfl)) (fun _ _ _ h => h) (Or.inl ⟨by rfl, ?_⟩) ?_ ?_
  rotate_left
  · intro w'
    go_simp
    with_reducible rfl
  rotate_left
  · simp only [Act.put, List.setIfInBounds_toArray, List.set_cons_zero, List.set_cons_succ, i64_w, i32_w]
    rfl
  refine pure_ (i := 20) (N := some 25) (v := ?_) (a' := ?_) #[true, false, true, false, false, true, false, true, false, false, true, false, true, false, false, true, false, true, false, false, true, false, false, false, false, false, false, false] rfl rfl (any_of HT_.out (by kernel_rfl)) (fun _ _ _ h => h) (Or.inl ⟨by rfl, ?_⟩) ?_ ?_
  rotate_left
  · intro w'
    go_simp
    with_reducible rfl
  rotate_left
  · simp only [Act.put, List.setIfInBounds_toArray, List.set_cons_zero, List.set_cons_succ, i64_w, i32_w]
    rfl
  refine pure_ (i := 22) (N := some 27) (v := ?_) (a' := ?_) #[true, false, true, false, false, true, false, true, false, false, true, false, true, false, false, true, false, true, false, false, true, false, true, false, false, false, false, false] rfl rfl (any_of HT_.out (by kernel_rfl)) (fun _ _ _ h => h) (Or.inl ⟨by rfl, ?_⟩) ?_ ?_
  rotate_left
  · intro w'
    go_simp
    with_reducible rfl
  rotate_left
  · simp only [Act.put, List.setIfInBounds_toArray, List.set_cons_zero, List.set_cons_succ, i64_w, i32_w]
    rfl
  refine take_ (i := 1) (N := some 6) (v := ?_) (a' := ?_) #[true, true, true, false, false, true, false, true, false, false, true, false, true, false, false, true, false, true, false, false, true, false, true, false, false, false, false, false] rfl rfl (take_ofW HT_.out HW_.out (by kernel_rfl)) (fun _ _ _ h => h) (Or.inl ⟨by rfl, ?_⟩) hHeld ?_ ?_
  rotate_left
  · rintro w' ⟨s0, s1, s2, s3, s4, s5, s6, s7, s8, s9⟩
    go_simp
    with_reducible rfl
  rotate_left
  · simp only [Act.put, List.setIfInBounds_toArray, List.set_cons_zero, List.set_cons_succ, i64_w, i32_w]
    rfl
  refine take_ (i := 3) (N := some 8) (v := ?_) (a' := ?_) #[true, true, true, true, false, true, false, true, false, false, true, false, true, false, false, true, false, true, false, false, true, false, true, false, false, false, false, false] rfl rfl (take_ofW HT_.out HW_.out (by kernel_rfl)) (fun _ _ _ h => h) (Or.inl ⟨by rfl, ?_⟩) hHeld ?_ ?_
  rotate_left
  · rintro w' ⟨s0, s1, s2, s3, s4, s5, s6, s7, s8, s9⟩
    go_simp
    with_reducible rfl
  rotate_left
  · simp only [Act.put, List.setIfInBounds_toArray, List.set_cons_zero, List.set_cons_succ, i64_w, i32_w]
    rfl
  refine take_ (i := 6) (N := some 11) (v := ?_) (a' := ?_) #[true, true, true, true, false, true, true, true, false, false, true, false, true, false, false, true, false, true, false, false, true, false, true, false, false, false, false, false] rfl rfl (take_ofW HT_.out HW_.out (by kernel_rfl)) (fun _ _ _ h => h) (Or.inl ⟨by rfl, ?_⟩) hHeld ?_ ?_
  rotate_left
  · rintro w' ⟨s0, s1, s2, s3, s4, s5, s6, s7, s8, s9⟩
    go_simp
    with_reducible rfl
  rotate_left
  · simp only [Act.put, List.setIfInBounds_toArray, List.set_cons_zero, List.set_cons_succ, i64_w, i32_w]
    rfl
  refine take_ (i := 8) (N := some 13) (v := ?_) (a' := ?_) #[true, true, true, true, false, true, true, true, true, false, true, false, true, false, false, true, false, true, false, false, true, false, true, false, false, false, false, false] rfl rfl (take_ofW HT_.out HW_.out (by kernel_rfl)) (fun _ _ _ h => h) (Or.inl ⟨by rfl, ?_⟩) hHeld ?_ ?_
  rotate_left
  · rintro w' ⟨s0, s1, s2, s3, s4, s5, s6, s7, s8, s9⟩
    go_simp
    with_reducible rfl
  rotate_left
  · simp only [Act.put, List.setIfInBounds_toArray, List.set_cons_zero, List.set_cons_succ, i64_w, i32_w]
    rfl
  refine take_ (i := 11) (N := some 16) (v := ?_) (a' := ?_) #[true, true, true, true, false, true, true, true, true, false, true, true, true, false, false, true, false, true, false, false, true, false, true, false, false, false, false, false] rfl rfl (take_ofW HT_.out HW_.out (by kernel_rfl)) (fun _ _ _ h => h) (Or.inl ⟨by rfl, ?_⟩) hHeld ?_ ?_
  rotate_left
  · rintro w' ⟨s0, s1, s2, s3, s4, s5, s6, s7, s8, s9⟩
    go_simp
    with_reducible rfl
  rotate_left
  · simp only [Act.put, List.setIfInBounds_toArray, List.set_cons_zero, List.set_cons_succ, i64_w, i32_w]
    rfl
  refine take_ (i := 13) (N := some 18) (v := ?_) (a' := ?_) #[true, true, true, true, false, true, true, true, true, false, true, true, true, true, false, true, false, true, false, false, true, false, true, false, false, false, false, false] rfl rfl (take_ofW HT_.out HW_.out (by kernel_rfl)) (fun _ _ _ h => h) (Or.inl ⟨by rfl, ?_⟩) hHeld ?_ ?_
  rotate_left
  · rintro w' ⟨s0, s1, s2, s3, s4, s5, s6, s7, s8, s9⟩
    go_simp
    with_reducible rfl
  rotate_left
  · simp only [Act.put, List.setIfInBounds_toArray, List.set_cons_zero, List.set_cons_succ, i64_w, i32_w]
    rfl
  refine take_ (i := 16) (N := some 21) (v := ?_) (a' := ?_) #[true, true, true, true, false, true, true, true, true, false, true, true, true, true, false, true, true, true, false, false, true, false, true, false, false, false, false, false] rfl rfl (take_ofW HT_.out HW_.out (by kernel_rfl)) (fun _ _ _ h => h) (Or.inl ⟨by rfl, ?_⟩) hHeld ?_ ?_
  rotate_left
  · rintro w' ⟨s0, s1, s2, s3, s4, s5, s6, s7, s8, s9⟩
    go_simp
    with_reducible rfl
  rotate_left
  · simp only [Act.put, List.setIfInBounds_toArray, List.set_cons_zero, List.set_cons_succ, i64_w, i32_w]
    rfl
  refine take_ (i := 18) (N := some 23) (v := ?_) (a' := ?_) #[true, true, true, true, false, true, true, true, true, false, true, true, true, true, false, true, true, true, true, false, true, false, true, false, false, false, false, false] rfl rfl (take_ofW HT_.out HW_.out (by kernel_rfl)) (fun _ _ _ h => h) (Or.inl ⟨by rfl, ?_⟩) hHeld ?_ ?_
  rotate_left
  · rintro w' ⟨s0, s1, s2, s3, s4, s5, s6, s7, s8, s9⟩
    go_simp
    with_reducible rfl
  rotate_left
  · simp only [Act.put, List.setIfInBounds_toArray, List.set_cons_zero, List.set_cons_succ, i64_w, i32_w]
    rfl
  refine take_ (i := 21) (N := some 26) (v := ?_) (a' := ?_) #[true, true, true, true, false, true, true, true, true, false, true, true, true, true, false, true, true, true, true, false, true, true, true, false, false, false, false, false] rfl rfl (take_ofW HT_.out HW_.out (by kernel_rfl)) (fun _ _ _ h => h) (Or.inl ⟨by rfl, ?_⟩) hHeld ?_ ?_
  rotate_left
  · rintro w' ⟨s0, s1, s2, s3, s4, s5, s6, s7, s8, s9⟩
    go_simp
    with_reducible rfl
  rotate_left
  · simp only [Act.put, List.setIfInBounds_toArray, List.set_cons_zero, List.set_cons_succ, i64_w, i32_w]
    rfl
  refine take_ (i := 23) (N := some 28) (v := ?_) (a' := ?_) #[true, true, true, true, false, true, true, true, true, false, true, true, true, true, false, true, true, true, true, false, true, true, true, true, false, false, false, false] rfl rfl (take_ofW HT_.out HW_.out (by kernel_rfl)) (fun _ _ _ h => h) (Or.inl ⟨by rfl, ?_⟩) hHeld ?_ ?_
  rotate_left
  · rintro w' ⟨s0, s1, s2, s3, s4, s5, s6, s7, s8, s9⟩
    go_simp
    with_reducible rfl
  rotate_left
  · simp only [Act.put, List.setIfInBounds_toArray, List.set_cons_zero, List.set_cons_succ, i64_w, i32_w]
    rfl
  refine one_ (i := 4) (N := some 9) #[true, true, true, true, true, true, true, true, true, false, true, true, true, true, false, true, true, true, true, false, true, true, true, true, false, false, false, false] rfl rfl (one_of HT_.out (by kernel_rfl)) (by decide) (fun K hK => ?_)
  refine goes_ Try.func20 (by kernel_rfl) rfl #[.string x.f0, .string y.f0] (by rfl) rfl rfl (by (try simp only [List.map_toArray, List.map_cons, List.map_nil]); first | done | rfl | (simp only [List.length_drop, List.length_take]; rfl)) ?_
  with_reducible refine (cmpS x.f0 y.f0 t109 _ E109.out).mono ?_
  rintro e w' ⟨rfl, ⟨nd, rfl⟩⟩
  refine ⟨_, rfl, ?_⟩
  refine hK.out _ _ ⟨(blk_cell BK107 0).trans rfl, (blk_cell BK107 1).trans rfl, (blk_cell BK107 2).trans rfl, (blk_cell BK107 3).trans rfl, (blk_cell BK107 4).trans rfl, (blk_cell BK108 0).trans rfl, (blk_cell BK108 1).trans rfl, (blk_cell BK108 2).trans rfl, (blk_cell BK108 3).trans rfl, (blk_cell BK108 4).trans rfl⟩ (fun hHeld => ?_)
  clear hK K
  refine norm_ (a' := ?_) ?_ ?_
  rotate_left
  · show Act.put _ (some 9) _ = _
    simp only [Act.put, List.setIfInBounds_toArray, List.set_cons_zero, List.set_cons_succ, i64_w, i32_w]
    rfl
  refine one_ (i := 9) (N := some 14) #[true, true, true, true, true, true, true, true, true, true, true, true, true, true, false, true, true, true, true, false, true, true, true, true, false, false, false, false] rfl rfl (one_of HT_.out (by kernel_rfl)) (by decide) (fun K hK => ?_)
  refine goes_ Try.func20 (by kernel_rfl) rfl #[.string x.f1, .string y.f1] (by rfl) rfl rfl (by (try simp only [List.map_toArray, List.map_cons, List.map_nil]); first | done | rfl | (simp only [List.length_drop, List.length_take]; rfl)) ?_
  with_reducible refine (cmpS x.f1 y.f1 t110 _ E110.out).mono ?_
  rintro e w' ⟨rfl, ⟨nd, rfl⟩⟩
  refine ⟨_, rfl, ?_⟩
  refine hK.out _ _ ⟨(blk_cell BK107 0).trans rfl, (blk_cell BK107 1).trans rfl, (blk_cell BK107 2).trans rfl, (blk_cell BK107 3).trans rfl, (blk_cell BK107 4).trans rfl, (blk_cell BK108 0).trans rfl, (blk_cell BK108 1).trans rfl, (blk_cell BK108 2).trans rfl, (blk_cell BK108 3).trans rfl, (blk_cell BK108 4).trans rfl⟩ (fun hHeld => ?_)
  clear hK K
  refine norm_ (a' := ?_) ?_ ?_
  rotate_left
  · show Act.put _ (some 14) _ = _
    simp only [Act.put, List.setIfInBounds_toArray, List.set_cons_zero, List.set_cons_succ, i64_w, i32_w]
    rfl
  refine one_ (i := 14) (N := some 19) #[true, true, true, true, true, true, true, true, true, true, true, true, true, true, true, true, true, true, true, false, true, true, true, true, false, false, false, false] rfl rfl (one_of HT_.out (by kernel_rfl)) (by decide) (fun K hK => ?_)
  refine goes_ Try.func20 (by kernel_rfl) rfl #[.string x.f2, .string y.f2] (by rfl) rfl rfl (by (try simp only [List.map_toArray, List.map_cons, List.map_nil]); first | done | rfl | (simp only [List.length_drop, List.length_take]; rfl)) ?_
  with_reducible refine (cmpS x.f2 y.f2 t111 _ E111.out).mono ?_
  rintro e w' ⟨rfl, ⟨nd, rfl⟩⟩
  refine ⟨_, rfl, ?_⟩
  refine hK.out _ _ ⟨(blk_cell BK107 0).trans rfl, (blk_cell BK107 1).trans rfl, (blk_cell BK107 2).trans rfl, (blk_cell BK107 3).trans rfl, (blk_cell BK107 4).trans rfl, (blk_cell BK108 0).trans rfl, (blk_cell BK108 1).trans rfl, (blk_cell BK108 2).trans rfl, (blk_cell BK108 3).trans rfl, (blk_cell BK108 4).trans rfl⟩ (fun hHeld => ?_)
  clear hK K
  refine norm_ (a' := ?_) ?_ ?_
  rotate_left
  · show Act.put _ (some 19) _ = _
    simp only [Act.put, List.setIfInBounds_toArray, List.set_cons_zero, List.set_cons_succ, i64_w, i32_w]
    rfl
  refine one_ (i := 19) (N := some 24) #[true, true, true, true, true, true, true, true, true, true, true, true, true, true, true, true, true, true, true, true, true, true, true, true, false, false, false, false] rfl rfl (one_of HT_.out (by kernel_rfl)) (by decide) (fun K hK => ?_)
  refine goes_ Try.func20 (by kernel_rfl) rfl #[.string x.f3, .string y.f3] (by rfl) rfl rfl (by (try simp only [List.map_toArray, List.map_cons, List.map_nil]); first | done | rfl | (simp only [List.length_drop, List.length_take]; rfl)) ?_
  with_reducible refine (cmpS x.f3 y.f3 t112 _ E112.out).mono ?_
  rintro e w' ⟨rfl, ⟨nd, rfl⟩⟩
  refine ⟨_, rfl, ?_⟩
  refine hK.out _ _ ⟨(blk_cell BK107 0).trans rfl, (blk_cell BK107 1).trans rfl, (blk_cell BK107 2).trans rfl, (blk_cell BK107 3).trans rfl, (blk_cell BK107 4).trans rfl, (blk_cell BK108 0).trans rfl, (blk_cell BK108 1).trans rfl, (blk_cell BK108 2).trans rfl, (blk_cell BK108 3).trans rfl, (blk_cell BK108 4).trans rfl⟩ (fun hHeld => ?_)
  clear hK K
  refine norm_ (a' := ?_) ?_ ?_
  rotate_left
  · show Act.put _ (some 24) _ = _
    simp only [Act.put, List.setIfInBounds_toArray, List.set_cons_zero, List.set_cons_succ, i64_w, i32_w]
    rfl
  refine one_ (i := 24) (N := some 29) #[true, true, true, true, true, true, true, true, true, true, true, true, true, true, true, true, true, true, true, true, true, true, true, true, true, false, false, false] rfl rfl (one_of HT_.out (by kernel_rfl)) (by decide) (fun K hK => ?_)
  refine goes_ Try.func21 (by kernel_rfl) rfl #[.int .i64 x.f4, .int .i64 y.f4] (by rfl) rfl rfl (by (try simp only [List.map_toArray, List.map_cons, List.map_nil]); first | done | rfl | (simp only [List.length_drop, List.length_take]; rfl)) ?_
  with_reducible refine (cmpN x.f4 y.f4 t113 _ E113.out).mono ?_
  rintro e w' ⟨rfl, ⟨nd, rfl⟩⟩
  refine ⟨_, rfl, ?_⟩
  refine hK.out _ _ ⟨(blk_cell BK107 0).trans rfl, (blk_cell BK107 1).trans rfl, (blk_cell BK107 2).trans rfl, (blk_cell BK107 3).trans rfl, (blk_cell BK107 4).trans rfl, (blk_cell BK108 0).trans rfl, (blk_cell BK108 1).trans rfl, (blk_cell BK108 2).trans rfl, (blk_cell BK108 3).trans rfl, (blk_cell BK108 4).trans rfl⟩ (fun hHeld => ?_)
  clear hK K
  refine norm_ (a' := ?_) ?_ ?_
  rotate_left
  · show Act.put _ (some 29) _ = _
    simp only [Act.put, List.setIfInBounds_toArray, List.set_cons_zero, List.set_cons_succ, i64_w, i32_w]
    rfl
  refine one_ (i := 25) (N := some 30) #[true, true, true, true, true, true, true, true, true, true, true, true, true, true, true, true, true, true, true, true, true, true, true, true, true, true, false, false] rfl rfl (one_of HT_.out (by kernel_rfl)) (by decide) (fun K hK => ?_)
  refine event_step (w1 := ?w1) (v := .slice (some ⟨w11.heap.size, 0, none⟩) 5 5) ?hg ?hr ?_
  case hg => rfl
  case hr => first | (go_simp; done) | (go_simp; rfl)
  have BK109 := World.alloc_heap_new w11 (.cells #[.int .i64 t109, .int .i64 t110, .int .i64 t111, .int .i64 t112, .int .i64 t113] 3)
  have BK107 := blk_alloc BK107 (.cells #[.int .i64 t109, .int .i64 t110, .int .i64 t111, .int .i64 t112, .int .i64 t113] 3)
  have BK108 := blk_alloc BK108 (.cells #[.int .i64 t109, .int .i64 t110, .int .i64 t111, .int .i64 t112, .int .i64 t113] 3)
  refine hK.out _ _ ⟨(blk_cell BK107 0).trans rfl, (blk_cell BK107 1).trans rfl, (blk_cell BK107 2).trans rfl, (blk_cell BK107 3).trans rfl, (blk_cell BK107 4).trans rfl, (blk_cell BK108 0).trans rfl, (blk_cell BK108 1).trans rfl, (blk_cell BK108 2).trans rfl, (blk_cell BK108 3).trans rfl, (blk_cell BK108 4).trans rfl⟩ (fun hHeld => ?_)
  clear hK K
  refine norm_ (a' := ?_) ?_ ?_
  rotate_left
  · show Act.put _ (some 30) _ = _
    simp only [Act.put, List.setIfInBounds_toArray, List.set_cons_zero, List.set_cons_succ, i64_w, i32_w]
    rfl
  refine one_ (i := 26) (N := some 31) #[true, true, true, true, true, true, true, true, true, true, true, true, true, true, true, true, true, true, true, true, true, true, true, true, true, true, true, false] rfl rfl (one_of HT_.out (by kernel_rfl)) (by decide) (fun K hK => ?_)
  refine goes_ Try.func19 (by kernel_rfl) rfl #[.slice (some ⟨w11.heap.size, 0, none⟩) 5 5] (by rfl) rfl rfl (by (try simp only [List.map_toArray, List.map_cons, List.map_nil]); first | done | rfl) ?_
  refine Calls.mono (HOr.out _ w11.heap.size BK109) ?_
  rintro e w' ⟨rfl, rfl⟩
  refine ⟨_, rfl, ?_⟩
  refine hK.out _ _ ⟨(blk_cell BK107 0).trans rfl, (blk_cell BK107 1).trans rfl, (blk_cell BK107 2).trans rfl, (blk_cell BK107 3).trans rfl, (blk_cell BK107 4).trans rfl, (blk_cell BK108 0).trans rfl, (blk_cell BK108 1).trans rfl, (blk_cell BK108 2).trans rfl, (blk_cell BK108 3).trans rfl, (blk_cell BK108 4).trans rfl⟩ (fun hHeld => ?_)
  clear hK K
  refine norm_ (a' := ?_) ?_ ?_
  rotate_left
  · show Act.put _ (some 31) _ = _
    simp only [Act.put, List.setIfInBounds_toArray, List.set_cons_zero, List.set_cons_succ, i64_w, i32_w]
    rfl
  refine pure_ (i := 27) (N := some 4) (v := ?_) (a' := ?_) #[true, true, true, true, true, true, true, true, true, true, true, true, true, true, true, true, true, true, true, true, true, true, true, true, true, true, true, true] rfl rfl (any_of HT_.out (by kernel_rfl)) (fun _ _ _ h => h) (Or.inl ⟨by rfl, ?_⟩) ?_ ?_
  rotate_left
  · intro w'
    go_simp
    with_reducible rfl
  rotate_left
  · simp only [Act.put, List.setIfInBounds_toArray, List.set_cons_zero, List.set_cons_succ, i64_w, i32_w]
    rfl
  refine done_ (done_of HT_.out (by kernel_rfl)) ?_
  try go_wp2
  go_ret
  exact ⟨by rw [E117.out]; rfl, by repeat (first | exact HG.out | apply G.alloc | apply G.drewN | apply G.drew)⟩
end Go.Proofs.Ytidojompkihboaa.X
