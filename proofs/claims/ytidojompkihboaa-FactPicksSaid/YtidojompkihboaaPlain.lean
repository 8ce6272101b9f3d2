/- fact.Add of two rows that are read; what the law's own loops come to, what is picked, and whether it is a cube, in plain Lean. -/
import Derived.Test.YtidojompkihboaaXx3
import Derived.Test.YtidojompkihboaaXx2
import Derived.Test.YtidojompkihboaaCmp
import Derived.Test.YtidojompkihboaaOrd
import Derived.Test.YtidojompkihboaaCanon
import Derived.Test.YtidojompkihboaaXx5
import Derived.Test.YtidojompkihboaaXx4
namespace Go.Proofs.Ytidojompkihboaa.X
section
open Go.RowKit Go.Shelf Go.Sort Go.Proofs.YtidojompkihboaaW.PrintWords Go.Proofs.YtidojompkihboaaW.PrintLast Go.Proofs.YtidojompkihboaaW.PrintMore
set_option linter.unusedVariables false
set_option linter.unusedSimpArgs false
/-- Facts that are read lie in one block, and lead to nothing else. -/
theorem C_V {w : World} {A : Option Addr} {c : Nat} {l : List S40} (h : Kd.C k40 w A l.length l) (hc : l.length ≤ c) : Kd.V k40 40 w w.heap.size (fun k_ => (fun k => ∃ ad, A = some ad ∧ k = ad.block) k_) (.slice A l.length c) l := by
  refine ⟨A, c, rfl, hc, fun W' hW => ?_⟩
  by_cases hne : l = []
  · subst hne
    exact ⟨rfl, Nat.zero_le _, fun h => absurd h (Nat.lt_irrefl 0)⟩
  · obtain ⟨b, off, rfl, hcell⟩ := cells_of h hne
    have hlt : b < w.heap.size := by
      have h0 : (l.flatMap enc40)[0]? = some (.string (l.head hne).f0.f0) := by
        cases l with
        | nil => exact absurd rfl hne
        | cons x r => rfl
      exact World.block_lt_of_cell? w _ (hcell 0 _ h0)
    have hb : W'.heap[b]? = w.heap[b]? := hW b ⟨_, rfl, rfl⟩ hlt
    obtain ⟨g1, g2, _⟩ := h
    refine ⟨g1, g2, fun _ => ⟨_, rfl, fun j x hx => ⟨enc40 x, rfl, ⟨[.string x.f0.f0, .string x.f0.f1, .string x.f0.f2, .string x.f0.f3, .int .i64 x.f0.f4], [.int .i64 x.f1], rfl, k30_mk W' x.f0, rfl⟩, fun i u hu => ?_⟩⟩⟩
    have hi : i < 6 := (List.getElem?_eq_some_iff.1 hu).1
    have := hcell (j * 6 + i) u (by
      rw [flat_get, show (j * 6 + i) / 6 = j by omega, show (j * 6 + i) % 6 = i by omega, hx]
      exact hu)
    rw [add_p2, show off + (j * k40.sz + i) = off + (j * 6 + i) from rfl]
    unfold World.cell? at this ⊢
    rw [show (⟨b, off + (j * 6 + i), none⟩ : Addr).block = b from rfl] at this ⊢
    rw [hb]; exact this
theorem add_rows (l0 l1 : List S40) (A0 A1 : Option Addr) (c0 c1 : Nat) (w : World) (h0 : Kd.C k40 w A0 l0.length l0) (hc0 : l0.length ≤ c0) (h1 : Kd.C k40 w A1 l1.length l1) (hc1 : l1.length ≤ c1) (hn : l0.length + l1.length ≤ 1000) (ha : absL l0 + absL l1 < 4611686018427387904) :
    Calls Try.prog 13 #[.slice A0 l0.length c0, .slice A1 l1.length c1] w fun e w' => ∃ v0_ : Value, e = .returned (.tuple #[v0_, .int .i64 0]) ∧ Kd.R k40 40 w' w.heap.size (fun _ => True) v0_ (ofL (l0 ++ l1)) ∧ Below w.heap.size w w' := by
  have hf : fact_Add.f l0 l1 = some (ofL (l0 ++ l1), 0) := by
    unfold fact_Add.f fact_Fact.f
    rw [if_pos ⟨by simp, by simp; omega⟩, Option.bind_some]
    have e : [l0, l1].flatten = l0 ++ l1 := by simp
    rw [e]
    unfold fact_Of.f
    rw [if_pos ⟨by simp; omega, by rw [absL_app]; exact ha⟩]
    rfl
  refine (fact_Add.calls _ A0 c0 l0 _ A1 c1 l1 _ _ w (C_V h0 hc0) (C_V h1 hc1) hf).mono ?_
  rintro e w' ⟨v, he, hr, hb⟩
  exact ⟨v, he, Kd.R_mono hr (fun _ _ => trivial), hb⟩
/-- fact.Add, in the printed form. -/
def fact_AddC.f (l0 l1 : List S40) : Option (List S40 × Int) := if l0.length + l1.length ≤ 1000 ∧ absL l0 + absL l1 < 4611686018427387904 then some (ofL (l0 ++ l1), 0) else none
theorem fact_AddC.calls (A0 : Option Addr) (c0 : Nat) (l0 : List S40) (A1 : Option Addr) (c1 : Nat) (l1 : List S40) (r1 : List S40) (r2 : Int) (w : World) (hr0 : Kd.C k40 w A0 l0.length l0) (hc0 : l0.length ≤ c0) (hr1 : Kd.C k40 w A1 l1.length l1) (hc1 : l1.length ≤ c1) (h : fact_AddC.f l0 l1 = some (r1, r2)) :
    Calls Try.prog 13 #[.slice A0 l0.length c0, .slice A1 l1.length c1] w fun e w' => ∃ v0_ : Value, e = .returned (.tuple #[v0_, .int .i64 r2]) ∧ Kd.R k40 40 w' w.heap.size (fun _ => True) v0_ r1 ∧ Below w.heap.size w w' := by
  unfold fact_AddC.f at h
  split at h
  · rename_i hc
    injection h with h
    injection h with h1 h2
    subst h1 h2
    exact add_rows l0 l1 A0 A1 c0 c1 w hr0 hc0 hr1 hc1 hc.1 hc.2
  · cases h
end
section
open Go.RowKit Go.Proofs.YtidojompkihboaaW.PrintWords Go.Proofs.YtidojompkihboaaW.PrintLast Go.Proofs.YtidojompkihboaaW.PrintMore
set_option linter.unusedVariables false
set_option linter.unusedSimpArgs false
theorem few_l0 (x0 l : List S27) (hl : l.length ≤ 9223372036854775807) : ∀ (n i : Nat), l.length - i = n → ∀ k, n < k → ∃ r, comptrollerlaw09_Few.l0 k x0 l (l.length : Int) (i : Int) = some r ∧ (r = true → x0.length ≤ 150)
  | n, i, hn, 0, hk => absurd hk (Nat.not_lt_zero _)
  | n, i, hn, k + 1, hk => by
    rw [comptrollerlaw09_Few.l0]
    by_cases h : (i : Int) < (l.length : Int)
    · rw [if_pos h, if_pos (by omega), if_pos h]
      split
      · exact ⟨false, rfl, fun h => by cases h⟩
      · split
        · exact ⟨false, rfl, fun h => by cases h⟩
        · split
          · exact ⟨false, rfl, fun h => by cases h⟩
          · split
            · exact ⟨false, rfl, fun h => by cases h⟩
            · rw [show wrap64 ((i : Int) + 1) = ((i + 1 : Nat) : Int) by unfold wrap64; omega]
              exact few_l0 x0 l hl (n - 1) (i + 1) (by omega) k (by omega)
    · rw [if_neg h]
      exact ⟨_, rfl, fun h => by have := of_decide_eq_true h; omega⟩
theorem few_tot (l : List S27) (hl : l.length ≤ 9223372036854775807) (k : Nat) (hk : l.length < k) : ∃ r, comptrollerlaw09_Few.f k l = some r ∧ (r = true → l.length ≤ 150) := few_l0 l l hl l.length 0 (by omega) k hk
theorem or_l0 (l : List Int) (hl : l.length ≤ 1000000000) : ∀ (n i : Nat), l.length - i = n → ∀ k, n < k → cmp_Or_int.l0 k 0 l (l.length : Int) (i : Int) = some (orL (l.drop i))
  | n, i, hn, 0, hk => absurd hk (Nat.not_lt_zero _)
  | n, i, hn, k + 1, hk => by
    rw [cmp_Or_int.l0]
    by_cases h : (i : Int) < (l.length : Int)
    · have hi : i < l.length := by omega
      have hr : rd l (i : Int) = l[i] := by simp [rd, List.getD_eq_getElem?_getD, List.getElem?_eq_getElem hi]
      rw [if_pos h, if_pos (by omega), if_pos h, List.drop_eq_getElem_cons hi, orL, hr]
      by_cases h0 : l[i] = 0
      · rw [if_pos h0, if_pos h0, show wrap64 ((i : Int) + 1) = ((i + 1 : Nat) : Int) by unfold wrap64; omega]
        exact or_l0 l hl (n - 1) (i + 1) (by omega) k (by omega)
      · rw [if_neg h0, if_neg h0]
    · rw [if_neg h, List.drop_eq_nil_of_le (by omega), orL]
theorem cmpInt_f (x y : Int) : cmp_Compare_int.f x y = some (cmpI x y) := by
  unfold cmp_Compare_int.f cmp_isNaN_int.f cmpI
  simp only [bne_self_eq_false, Option.bind_some, Bool.false_eq_true, if_false, gt_iff_lt]
  by_cases h : x < y
  · rw [if_pos h, if_pos h]
  · rw [if_neg h, if_neg h]
    by_cases h2 : y < x
    · rw [if_pos h2, if_pos h2]
    · rw [if_neg h2, if_neg h2]
theorem cmp_f (k : Nat) (hk : 5 < k) (x y : S30) : fact_Cmp.f k x.f0 x.f1 x.f2 x.f3 x.f4 y.f0 y.f1 y.f2 y.f3 y.f4 = some (cmpK x y) := by
  unfold fact_Cmp.f strings_Compare.f
  simp only [Option.bind_some, cmpInt_f]
  unfold cmp_Or_int.f
  have := or_l0 [cmpB x.f0 y.f0, cmpB x.f1 y.f1, cmpB x.f2 y.f2, cmpB x.f3 y.f3, cmpI x.f4 y.f4] (by simp) 5 0 rfl k hk
  rw [show ((0 : Nat) : Int) = 0 from rfl] at this
  rw [this]
  rfl
def to40 (x : S27) : S40 := ⟨⟨x.f0.f0, x.f0.f1, x.f0.f2, x.f0.f3, x.f0.f4⟩, x.f1⟩
def to27 (x : S40) : S27 := ⟨⟨x.f0.f0, x.f0.f1, x.f0.f2, x.f0.f3, x.f0.f4⟩, x.f1⟩
theorem up1 (i : Nat) (h : i ≤ 1000000000) : wrap64 ((i : Int) + 1) = ((i + 1 : Nat) : Int) := by unfold wrap64; omega
theorem rd27 {l : List S27} {i : Nat} (h : i < l.length) : rd_T27 l (i : Int) = l[i] := by simp [rd_T27, List.getD_eq_getElem?_getD, List.getElem?_eq_getElem h]
theorem take_next {α : Type} (l : List α) (i : Nat) (h : i < l.length) : l.take (i + 1) = l.take i ++ [l[i]] := List.take_succ_eq_append_getElem h
theorem theirs_l0 (l : List S27) (hl : l.length ≤ 1000000) : ∀ (n i : Nat), l.length - i = n → i ≤ l.length → ∀ k, n < k → comptrollerlaw09_Theirs.l0 k ((l.take i).map to40) l (l.length : Int) (i : Int) = some (l.map to40)
  | n, i, hn, hi, 0, hk => absurd hk (Nat.not_lt_zero _)
  | n, i, hn, hi, k + 1, hk => by
    rw [comptrollerlaw09_Theirs.l0]
    by_cases h : i < l.length
    · rw [if_pos (by omega), if_pos (by omega), if_pos (by omega), if_pos (by rw [List.length_map, List.length_take]; omega), rd27 h, up1 i (by omega)]
      have e : (l.take i).map to40 ++ [⟨⟨l[i].f0.f0, l[i].f0.f1, l[i].f0.f2, l[i].f0.f3, l[i].f0.f4⟩, l[i].f1⟩] = (l.take (i + 1)).map to40 := by rw [take_next l i h, List.map_append]; rfl
      rw [e]
      exact theirs_l0 l hl (n - 1) (i + 1) (by omega) (by omega) k (by omega)
    · rw [if_neg (by omega), List.take_of_length_le (by omega)]
theorem theirs_f (l : List S27) (hl : l.length ≤ 1000000) (k : Nat) (hk : l.length < k) : comptrollerlaw09_Theirs.f k l = some (l.map to40) := theirs_l0 l hl l.length 0 (by omega) (by omega) k hk
theorem ours_l0 (l : List S40) (hl : l.length ≤ 1000000) : ∀ (n i : Nat), l.length - i = n → i ≤ l.length → ∀ k, n < k → comptrollerlaw09_Ours.l0 k ((l.take i).map to27) l (l.length : Int) (i : Int) = some (l.map to27)
  | n, i, hn, hi, 0, hk => absurd hk (Nat.not_lt_zero _)
  | n, i, hn, hi, k + 1, hk => by
    rw [comptrollerlaw09_Ours.l0]
    by_cases h : i < l.length
    · rw [if_pos (by omega), if_pos (by omega), if_pos (by omega), if_pos (by rw [List.length_map, List.length_take]; omega), rdF h, up1 i (by omega)]
      have e : (l.take i).map to27 ++ [⟨⟨l[i].f0.f0, l[i].f0.f1, l[i].f0.f2, l[i].f0.f3, l[i].f0.f4⟩, l[i].f1⟩] = (l.take (i + 1)).map to27 := by rw [take_next l i h, List.map_append]; rfl
      rw [e]
      exact ours_l0 l hl (n - 1) (i + 1) (by omega) (by omega) k (by omega)
    · rw [if_neg (by omega), List.take_of_length_le (by omega)]
theorem ours_f (l : List S40) (hl : l.length ≤ 1000000) (k : Nat) (hk : l.length < k) : comptrollerlaw09_Ours.f k l = some (l.map to27) := ours_l0 l hl l.length 0 (by omega) (by omega) k hk
theorem same_l0 (l : List S27) (hl : l.length ≤ 1000000) : ∀ (n i : Nat), l.length - i = n → ∀ k, n < k → comptrollerref09_Same.l0 k l l (i : Int) = some true
  | n, i, hn, 0, hk => absurd hk (Nat.not_lt_zero _)
  | n, i, hn, k + 1, hk => by
    rw [comptrollerref09_Same.l0]
    by_cases h : i < l.length
    · rw [if_pos (by omega), if_pos (by omega), if_pos (by omega), if_neg (by simp), up1 i (by omega)]
      exact same_l0 l hl (n - 1) (i + 1) (by omega) k (by omega)
    · rw [if_neg (by omega)]
theorem same_f (l : List S27) (hl : l.length ≤ 1000000) (k : Nat) (hk : l.length < k) : comptrollerref09_Same.f k l l = some true := by
  unfold comptrollerref09_Same.f
  rw [if_pos rfl]
  exact same_l0 l hl l.length 0 (by omega) k hk
theorem small_l0 (l : List S27) (hl : l.length ≤ 1000000) : ∀ (n i : Nat), l.length - i = n → (∀ j (h : j < l.length), j < i → (l[j]).f1.natAbs ≤ 4503599627370496) → ∀ k, n < k → ∃ r, comptrollerlaw09_small.l0 k l (l.length : Int) (i : Int) = some r ∧ (r = true → ∀ x ∈ l, x.f1.natAbs ≤ 4503599627370496)
  | n, i, hn, hp, 0, hk => absurd hk (Nat.not_lt_zero _)
  | n, i, hn, hp, k + 1, hk => by
    rw [comptrollerlaw09_small.l0]
    by_cases h : i < l.length
    · rw [if_pos (by omega), if_pos (by omega), if_pos (by omega), rd27 h]
      by_cases h1 : l[i].f1 > 4503599627370496
      · rw [if_pos h1]; exact ⟨false, rfl, fun h => by cases h⟩
      · rw [if_neg h1]
        by_cases h2 : l[i].f1 < (-4503599627370496)
        · rw [if_pos h2]; exact ⟨false, rfl, fun h => by cases h⟩
        · rw [if_neg h2, up1 i (by omega)]
          refine small_l0 l hl (n - 1) (i + 1) (by omega) (fun j hj hji => ?_) k (by omega)
          by_cases e : j = i
          · subst e; omega
          · exact hp j hj (by omega)
    · rw [if_neg (by omega)]
      refine ⟨true, rfl, fun _ x hx => ?_⟩
      obtain ⟨j, hj, rfl⟩ := List.getElem_of_mem hx
      exact hp j hj (by omega)
theorem small_tot (l : List S27) (hl : l.length ≤ 1000000) (k : Nat) (hk : l.length < k) : ∃ r, comptrollerlaw09_small.f k l = some r ∧ (r = true → ∀ x ∈ l, x.f1.natAbs ≤ 4503599627370496) :=
  small_l0 l hl l.length 0 (by omega) (fun j _ h => absurd h (Nat.not_lt_zero _)) k hk
/-- The sums of a bound. -/
theorem absL_le (l : List S40) (b : Nat) (h : ∀ x ∈ l, x.f1.natAbs ≤ b) : absL l ≤ l.length * b := by
  induction l with
  | nil => exact Nat.zero_le _
  | cons x r ih =>
    have h1 := ih fun y hy => h y (List.mem_cons_of_mem _ hy)
    have h2 := h x List.mem_cons_self
    have h3 : absL (x :: r) = x.f1.natAbs + absL r := by simp [absL]
    rw [h3, List.length_cons, Nat.add_mul, Nat.one_mul]; omega
theorem absL_keep (c : List S40) : absL (keepL c) ≤ absL c := by
  cases c with
  | nil => exact Nat.le_refl _
  | cons x r =>
    show absL (if sumL (x :: r) = 0 then [] else [⟨x.f0, sumL (x :: r)⟩]) ≤ _
    split
    · exact Nat.zero_le _
    · have := sumL_abs (x :: r)
      have h3 : absL [(⟨x.f0, sumL (x :: r)⟩ : S40)] = (sumL (x :: r)).natAbs := by simp [absL]
      rw [h3]; omega
theorem absL_runs : ∀ (n : Nat) (t : List S40), absL ((runsF n t).flatMap keepL) ≤ absL t
  | 0, t => by cases t <;> exact Nat.zero_le _
  | n + 1, [] => Nat.le_refl _
  | n + 1, x :: r => by
    rw [runsF, List.flatMap_cons, absL_app]
    have h1 := absL_keep ((x :: r).take (runLen (x :: r)))
    have h2 := absL_runs n ((x :: r).drop (runLen (x :: r)))
    have h3 := absL_app ((x :: r).take (runLen (x :: r))) ((x :: r).drop (runLen (x :: r)))
    rw [List.take_append_drop] at h3
    omega
theorem absL_of (l : List S40) : absL (ofL l) ≤ absL l := by
  have h := absL_runs l.length (sortL l)
  rw [absL_perm (sortL_up l).2] at h
  exact h
theorem absL_mem {l : List S40} {x : S40} (h : x ∈ l) : x.f1.natAbs ≤ absL l := by
  induction l with
  | nil => exact absurd h (by simp)
  | cons y r ih =>
    have h3 : absL (y :: r) = y.f1.natAbs + absL r := by simp [absL]
    rcases List.mem_cons.1 h with rfl | h
    · omega
    · have := ih h; omega
theorem theirs_abs (l : List S27) (hl : l.length ≤ 150) (hs : ∀ x ∈ l, x.f1.natAbs ≤ 4503599627370496) : absL (l.map to40) ≤ 675539944105574400 := by
  have := absL_le (l.map to40) 4503599627370496 (fun x hx => by
    obtain ⟨y, hy, rfl⟩ := List.mem_map.1 hx
    exact hs y hy)
  rw [List.length_map] at this
  omega
end
section
open Go.RowKit Go.Proofs.YtidojompkihboaaW.PrintWords Go.Proofs.YtidojompkihboaaW.PrintLast Go.Proofs.YtidojompkihboaaW.PrintMore
set_option linter.unusedVariables false
set_option linter.unusedSimpArgs false
def anyB (s e : ByteArray) : Bool := if s.toList = [] then true else s.toList == e.toList
theorem any_f (s e : ByteArray) : fact_any.f s e = some (anyB s e) := by
  unfold fact_any.f anyB
  by_cases h : s.toList = []
  · rw [if_pos h, if_pos h]
  · rw [if_neg h, if_neg h]
/-- The facts of an entity with a mark (a mark below 0: with any). -/
def pickP (s : ByteArray) (m : Int) (x : S40) : Bool := anyB s x.f0.f0 && (decide (m < 0) || x.f0.f4 == m)
theorem filter_next {α : Type} (p : α → Bool) (l : List α) (i : Nat) (h : i < l.length) : (l.take (i + 1)).filter p = (l.take i).filter p ++ (if p l[i] then [l[i]] else []) := by
  rw [take_next l i h, List.filter_append]
  by_cases hp : p l[i] = true
  · rw [if_pos hp, List.filter_cons_of_pos hp]; rfl
  · rw [if_neg hp, List.filter_cons_of_neg hp]; rfl
theorem pick_l0 (s : ByteArray) (m : Int) (l : List S40) (hl : l.length ≤ 1000000) : ∀ (n i : Nat), l.length - i = n → i ≤ l.length → ∀ k, n < k → fact_Pick.l0 k s m ((l.take i).filter (pickP s m)) l (l.length : Int) (i : Int) = some (l.filter (pickP s m))
  | n, i, hn, hi, 0, hk => absurd hk (Nat.not_lt_zero _)
  | n, i, hn, hi, k + 1, hk => by
    rw [fact_Pick.l0]
    by_cases h : i < l.length
    · have hlen : ((l.take i).filter (pickP s m)).length < 1759218604441 := by
        have := List.length_filter_le (pickP s m) (l.take i)
        rw [List.length_take] at this; omega
      have ih := pick_l0 s m l hl (n - 1) (i + 1) (by omega) (by omega) k (by omega)
      rw [filter_next _ l i h] at ih
      rw [if_pos (by omega), if_pos (by omega), if_pos (by omega), any_f, Option.bind_some, rdF h, up1 i (by omega)]
      have ee : (⟨⟨l[i].f0.f0, l[i].f0.f1, l[i].f0.f2, l[i].f0.f3, l[i].f0.f4⟩, l[i].f1⟩ : S40) = l[i] := rfl
      by_cases ha : anyB s l[i].f0.f0 = true
      · rw [if_pos ha]
        by_cases hm : m < 0
        · rw [if_pos hm, if_pos hlen, ee]
          have hp : pickP s m l[i] = true := by unfold pickP; rw [ha, decide_eq_true hm]; rfl
          rwa [if_pos hp] at ih
        · rw [if_neg hm]
          by_cases he : l[i].f0.f4 = m
          · rw [if_pos he, if_pos hlen, ee]
            have hp : pickP s m l[i] = true := by unfold pickP; rw [ha, he]; simp
            rwa [if_pos hp] at ih
          · rw [if_neg he]
            have hp : ¬ pickP s m l[i] = true := by unfold pickP; rw [ha, decide_eq_false hm]; simpa using he
            rwa [if_neg hp, List.append_nil] at ih
      · rw [if_neg ha]
        have hp : ¬ pickP s m l[i] = true := by unfold pickP; simp [ha]
        rwa [if_neg hp, List.append_nil] at ih
    · rw [if_neg (by omega), List.take_of_length_le (by omega)]
theorem pick_f (s : ByteArray) (m : Int) (l : List S40) (hl : l.length ≤ 1000000) (k : Nat) (hk : l.length < k) : fact_Pick.f k l s m = some (l.filter (pickP s m)) := pick_l0 s m l hl l.length 0 (by omega) (by omega) k hk
theorem right_l0 (c : List S40) (hc : Canon c) (hl : c.length ≤ 1000) : ∀ (n i : Nat), c.length - i = n → ∀ k, n + 10 < k → fact_Right.l0 k c c (c.length : Int) (i : Int) = some true
  | n, i, hn, 0, hk => absurd hk (Nat.not_lt_zero _)
  | n, i, hn, k + 1, hk => by
    rw [fact_Right.l0]
    by_cases h : i < c.length
    · rw [if_pos (by omega), if_pos (by omega), if_pos (by omega), rdF h, if_neg (hc.2 _ (List.getElem_mem h)), up1 i (by omega)]
      have ih := right_l0 c hc hl (n - 1) (i + 1) (by omega) k (by omega)
      by_cases h0 : (i : Int) > 0
      · have hp : wrap64 ((i : Int) - 1) = ((i - 1 : Nat) : Int) := by unfold wrap64; omega
        have hi1 : i - 1 < c.length := by omega
        rw [if_pos h0, hp, if_pos (by omega), if_pos (by omega), rdF hi1, cmp_f k (by omega) c[i - 1].f0 c[i].f0, Option.bind_some, if_neg ?_]
        · exact ih
        · have := List.pairwise_iff_getElem.1 hc.1 (i - 1) i hi1 h (by omega)
          omega
      · rw [if_neg h0]; exact ih
    · rw [if_neg (by omega), decide_eq_true (by omega)]
theorem right_f (c : List S40) (hc : Canon c) (hl : c.length ≤ 1000) (k : Nat) (hk : c.length + 10 < k) : fact_Right.f k c = some true := right_l0 c hc hl c.length 0 (by omega) k hk
theorem absL_filter (p : S40 → Bool) (l : List S40) : absL (l.filter p) ≤ absL l := by
  induction l with
  | nil => exact Nat.le_refl _
  | cons x r ih =>
    have h1 : absL (x :: r) = x.f1.natAbs + absL r := by simp [absL]
    by_cases hp : p x = true
    · rw [List.filter_cons_of_pos hp]
      have h2 : absL (x :: r.filter p) = x.f1.natAbs + absL (r.filter p) := by simp [absL]
      omega
    · rw [List.filter_cons_of_neg hp]; omega
theorem canon_filter (p : S40 → Bool) {c : List S40} (h : Canon c) : Canon (c.filter p) := h.sub List.filter_sublist
theorem sK_split (k : S30) (p q : S40 → Bool) (c : List S40) (hd : ∀ x ∈ c, ¬ (p x = true ∧ q x = true)) : sK k (c.filter p) + sK k (c.filter q) = sK k (c.filter fun x => p x || q x) := by
  induction c with
  | nil => rfl
  | cons x r ih =>
    have ih := ih fun y hy => hd y (List.mem_cons_of_mem _ hy)
    have h0 := hd x List.mem_cons_self
    cases hp : p x <;> cases hq : q x
    · rw [List.filter_cons_of_neg (by simp [hp]), List.filter_cons_of_neg (by simp [hq]), List.filter_cons_of_neg (by simp [hp, hq])]; exact ih
    · rw [List.filter_cons_of_neg (by simp [hp]), List.filter_cons_of_pos hq, List.filter_cons_of_pos (by simp [hq]), sK, sK]; omega
    · rw [List.filter_cons_of_pos hp, List.filter_cons_of_neg (by simp [hq]), List.filter_cons_of_pos (by simp [hp]), sK, sK]; omega
    · exact absurd ⟨hp, hq⟩ h0
theorem len_split (p q : S40 → Bool) (c : List S40) (hd : ∀ x ∈ c, ¬ (p x = true ∧ q x = true)) : (c.filter p).length + (c.filter q).length = (c.filter fun x => p x || q x).length := by
  induction c with
  | nil => rfl
  | cons x r ih =>
    have ih := ih fun y hy => hd y (List.mem_cons_of_mem _ hy)
    have h0 := hd x List.mem_cons_self
    cases hp : p x <;> cases hq : q x
    · rw [List.filter_cons_of_neg (by simp [hp]), List.filter_cons_of_neg (by simp [hq]), List.filter_cons_of_neg (by simp [hp, hq])]; exact ih
    · rw [List.filter_cons_of_neg (by simp [hp]), List.filter_cons_of_pos hq, List.filter_cons_of_pos (by simp [hq]), List.length_cons, List.length_cons]; omega
    · rw [List.filter_cons_of_pos hp, List.filter_cons_of_neg (by simp [hq]), List.filter_cons_of_pos (by simp [hp]), List.length_cons, List.length_cons]; omega
    · exact absurd ⟨hp, hq⟩ h0
/-- Two parts of a cube, put together. -/
theorem of_parts (c : List S40) (hc : Canon c) (p q : S40 → Bool) (hd : ∀ x ∈ c, ¬ (p x = true ∧ q x = true)) : ofL (c.filter p ++ c.filter q) = c.filter fun x => p x || q x :=
  canon_one _ _ (ofL_canon _).1 (canon_filter _ hc) fun k => ((ofL_canon _).2 k).trans ((sK_app k _ _).trans (sK_split k p q c hd))
theorem ofL_keys (l : List S40) : ∀ z ∈ ofL l, ∃ y ∈ l, z.f0 = y.f0 := by
  obtain ⟨h1, h2⟩ := sortL_up l
  intro z hz
  obtain ⟨y, hy, e⟩ := (runs_canon l.length (sortL l) (by rw [h2.length_eq]; exact Nat.le_refl _) h1).2.2 z hz
  exact ⟨y, h2.mem_iff.1 hy, e⟩
end
end Go.Proofs.Ytidojompkihboaa.X
