/- What lex.Lines comes to, as lists of bytes. -/
import Derived.Test.YtidojompkihboaaDoorPlain
import Derived.Test.YtidojompkihboaaDoorLines
namespace Go.Proofs.YtidojompkihboaaDoor.X
open Go.RowKit Go.Proofs.YtidojompkihboaaDoorW.PrintWords Go.Proofs.YtidojompkihboaaDoorW.PrintLast

theorem splitB_list : ∀ (n : Nat) (s : ByteArray), s.size ≤ n → splitB n s = (splitA [] (Lb s)).map mkB
  | 0, s, h => by
    have h0 : Lb s = [] := List.eq_nil_of_length_eq_zero (by rw [Lb_size]; omega)
    rw [splitB, h0, splitA, List.map_cons, List.map_nil, ← h0, mkB_Lb]
  | n + 1, s, h => by
    rw [splitB]
    by_cases hi : Lib.indexByte s.data.toList 10 < 0
    · rw [if_pos hi]
      have h1 := splitA_app (Lb s) [] [] (not_mem_of_idx hi)
      rw [List.append_nil, List.nil_append, splitA] at h1
      rw [h1, List.map_cons, List.map_nil, mkB_Lb]
    · rw [if_neg hi]
      obtain ⟨o, ho⟩ : ∃ o : Nat, Lib.indexByte s.data.toList 10 = o := ⟨(Lib.indexByte s.data.toList 10).toNat, by omega⟩
      obtain ⟨h1, h2, h3⟩ := parts_of_idx ho
      rw [Lb_size] at h3
      rw [ho, Int.toNat_natCast, splitB_list n _ (by rw [← Lb_size, extract_mk, Lb_mkB, List.length_take, List.length_drop, Lb_size]; omega)]
      conv => rhs; rw [show Lb s = _ from h1]
      rw [splitA_app _ _ _ h2, List.nil_append, splitA, if_pos rfl, List.map_cons]
      rw [extract_mk s 0 o, extract_mk s (o + 1) s.size, Lb_mkB, List.drop_zero, Nat.sub_zero]
      rw [List.take_of_length_le (l := List.drop (o + 1) (Lb s)) (by rw [List.length_drop, Lb_size]; exact Nat.le_refl _)]
theorem cutB_list (s : ByteArray) : cutB s = mkB (cutL (Lb s)) := by
  unfold cutB
  by_cases hi : Lib.indexByte s.data.toList 35 < 0
  · rw [if_pos hi, cutL_all _ (not_mem_of_idx hi), mkB_Lb]
  · obtain ⟨o, ho⟩ : ∃ o : Nat, Lib.indexByte s.data.toList 35 = o := ⟨(Lib.indexByte s.data.toList 35).toNat, by omega⟩
    obtain ⟨h1, h2, h3⟩ := parts_of_idx ho
    rw [if_neg hi, ho, Int.toNat_natCast, extract_mk, List.drop_zero, Nat.sub_zero]
    conv => rhs; rw [show Lb s = _ from h1]
    rw [cutL_app _ _ h2]
theorem blankB8 (c : UInt8) : blankB c.toNat = blank8 c := by
  unfold blankB blank8
  rw [Bool.eq_iff_iff]
  simp [← UInt8.toNat_inj]
/-- A line with its number, if it has words. -/
def emit (n : Int) (l : List UInt8) : List (Int × List (List UInt8)) := if fieldsL [] (cutL l) = [] then [] else [(n, fieldsL [] (cutL l))]
/-- The lines of a text, from number n on; cur: what has been read of the line. -/
def linesL : Int → List UInt8 → List UInt8 → List (Int × List (List UInt8))
  | n, cur, [] => emit n cur
  | n, cur, c :: r => if c = 10 then emit n cur ++ linesL (n + 1) [] r else linesL n (cur ++ [c]) r
def toS42 (x : Int × List (List UInt8)) : S42 := ⟨x.1, x.2.map mkB⟩
theorem cutL_sub (l : List UInt8) : ∀ c ∈ cutL l, c ∈ l := fun _ h => (List.takeWhile_sublist _).subset h
theorem lineOf_emit (n : Int) (l : List UInt8) (h : ∀ c ∈ l, c.toNat < 128) : lineOf (n, mkB l) = (emit n l).map toS42 := by
  unfold lineOf emit
  have hg : Lib.goFieldsP blankB (cutB (mkB l)) = (fieldsL [] (cutL l)).map mkB := by
    rw [cutB_list, Lb_mkB, goFields_list blankB blankB8 _ (by rw [Lb_mkB]; exact fun c hc => h c (cutL_sub l c hc)), Lb_mkB]
  rw [hg, List.length_map]
  by_cases h0 : fieldsL [] (cutL l) = []
  · rw [if_pos h0, h0]; rfl
  · rw [if_neg h0, if_neg (by intro e; exact h0 (List.eq_nil_of_length_eq_zero e))]; rfl
theorem lines_list (r : List UInt8) : ∀ (n : Int) (cur : List UInt8), (∀ c ∈ cur, c.toNat < 128) → (∀ c ∈ r, c.toNat < 128) → (numb (n - 1) ((splitA cur r).map mkB)).flatMap lineOf = (linesL n cur r).map toS42 := by
  induction r with
  | nil =>
    intro n cur h1 h2
    rw [splitA, linesL, List.map_cons, List.map_nil, numb, numb, List.flatMap_cons, List.flatMap_nil, List.append_nil, show n - 1 + 1 = n from by omega, lineOf_emit n cur h1]
  | cons c r ih =>
    intro n cur h1 h2
    rw [splitA, linesL]
    by_cases hc : c = 10
    · rw [if_pos hc, if_pos hc, List.map_cons, numb, List.flatMap_cons, List.map_append, show n - 1 + 1 = n from by omega, lineOf_emit n cur h1]
      have := ih (n + 1) [] (fun _ h => by cases h) (fun x hx => h2 x (List.mem_cons_of_mem _ hx))
      rw [show n + 1 - 1 = n from by omega] at this
      rw [this]
    · rw [if_neg hc, if_neg hc]
      refine ih n _ (fun x hx => ?_) (fun x hx => h2 x (List.mem_cons_of_mem _ hx))
      rcases List.mem_append.1 hx with hx | hx
      · exact h1 x hx
      · exact h2 x (by rw [List.mem_singleton.1 hx]; exact List.mem_cons_self)
def odd8 (c : UInt8) : Bool := oddB (c.toNat : Int)
theorem any_odd (s : ByteArray) : (bytesOf s).any oddB = (Lb s).any odd8 := by
  unfold bytesOf odd8
  rw [List.any_map]; rfl
theorem not_odd {c : UInt8} (h : odd8 c = false) : c.toNat < 128 := by
  unfold odd8 oddB at h
  simp at h
  omega
/-- lex.Lines of a text of plain signs. -/
theorem lexLines_list (s : ByteArray) (hs : s.size ≤ 20000) (h : (Lb s).any odd8 = false) : lexLines s = ((linesL 1 [] (Lb s)).map toS42, 0) := by
  unfold lexLines
  rw [if_neg (by omega), any_odd, h, if_neg (by simp), splitB_list _ _ (Nat.le_refl _)]
  have := lines_list (Lb s) 1 [] (fun _ h => by cases h) (fun c hc => not_odd (by have := List.any_eq_false.1 h c hc; simpa using this))
  rw [show (1 : Int) - 1 = 0 from rfl] at this
  rw [this]
theorem fields_word (w : List UInt8) : ∀ cur : List UInt8, (∀ c ∈ w, blank8 c = false) → fieldsL cur w = if cur ++ w = [] then [] else [cur ++ w] := by
  induction w with
  | nil => intro cur _; rw [fieldsL, List.append_nil]
  | cons c r ih =>
    intro cur h
    rw [fieldsL, if_neg (by rw [h c List.mem_cons_self]; simp), ih _ (fun x hx => h x (List.mem_cons_of_mem _ hx))]
    simp
theorem linesL_app (p : List UInt8) : ∀ (n : Int) (cur r : List UInt8), (∀ c ∈ p, c ≠ 10) → linesL n cur (p ++ r) = linesL n (cur ++ p) r := by
  induction p with
  | nil => intro n cur r _; simp
  | cons c p ih =>
    intro n cur r h
    rw [List.cons_append, linesL, if_neg (h c List.mem_cons_self), ih _ _ _ (fun x hx => h x (List.mem_cons_of_mem _ hx))]
    simp
theorem linesL_one (p : List UInt8) (n : Int) (h : ∀ c ∈ p, c ≠ 10) : linesL n [] p = emit n p := by
  have := linesL_app p n [] [] h
  rwa [List.append_nil, List.nil_append, linesL] at this
theorem linesL_nl (p r : List UInt8) (n : Int) (h : ∀ c ∈ p, c ≠ 10) : linesL n [] (p ++ 10 :: r) = emit n p ++ linesL (n + 1) [] r := by
  rw [linesL_app p n [] _ h, List.nil_append, linesL, if_pos rfl]
end Go.Proofs.YtidojompkihboaaDoor.X
