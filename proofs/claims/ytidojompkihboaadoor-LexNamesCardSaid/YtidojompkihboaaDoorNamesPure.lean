/- What is a name is one word of one line; a name with one byte more is a name where that byte may stand there. No program. -/
import Derived.Test.YtidojompkihboaaDoorPlainL
import Derived.Test.YtidojompkihboaaDoorTellsA
namespace Go.Proofs.YtidojompkihboaaDoor.X
open Go.RowKit Go.Proofs.YtidojompkihboaaDoorW.PrintWords Go.Proofs.YtidojompkihboaaDoorW.PrintLast

theorem bytes_list (s : ByteArray) : bytesOf s = (Lb s).map fun b => (b.toNat : Int) := rfl
theorem name_parts {s : ByteArray} (h : lexName s = true) : 1 ≤ s.size ∧ s.size ≤ 12 ∧ letterB (bt s 0) = true ∧ (bytesOf s).any wrongB = false := by
  unfold lexName at h
  rw [Bool.and_eq_true, Bool.and_eq_true, decide_eq_true_eq] at h
  exact ⟨h.1.1.1, h.1.1.2, h.1.2, by simpa using h.2⟩
theorem name_byte {s : ByteArray} (h : lexName s = true) : ∀ c ∈ Lb s, wrongB (c.toNat : Int) = false := by
  intro c hc
  have h4 := (name_parts h).2.2.2
  have := List.any_eq_false.1 h4 (c.toNat : Int) (by rw [bytes_list]; exact List.mem_map_of_mem hc)
  simpa using this
theorem right_sign {c : Int} (h : wrongB c = false) : (97 ≤ c ∧ c ≤ 122) ∨ (65 ≤ c ∧ c ≤ 90) ∨ (48 ≤ c ∧ c ≤ 57) ∨ c = 46 ∨ c = 95 ∨ c = 45 := by
  unfold wrongB letterB at h
  simp only [Bool.and_eq_false_iff, Bool.or_eq_false_iff, decide_eq_false_iff_not, decide_eq_true_eq, Bool.not_eq_eq_eq_not, Bool.not_false] at h
  omega
theorem name_lines {s : ByteArray} (h : lexName s = true) : lexLines s = ([(⟨1, [s]⟩ : S42)], 0) := by
  obtain ⟨h1, h2, _, _⟩ := name_parts h
  have hc : ∀ c ∈ Lb s, odd8 c = false ∧ c ≠ 10 ∧ c ≠ 35 ∧ blank8 c = false := by
    intro c hc
    have hr := right_sign (name_byte h c hc)
    refine ⟨?_, ?_, ?_, ?_⟩
    · unfold odd8 oddB
      simp
      omega
    · rintro rfl; simp at hr
    · rintro rfl; simp at hr
    · unfold blank8
      rw [Bool.or_eq_false_iff, decide_eq_false_iff_not, decide_eq_false_iff_not]
      constructor
      · rintro rfl; simp at hr
      · rintro rfl; simp at hr
  have hne : Lb s ≠ [] := by intro e; have := congrArg List.length e; rw [Lb_size, List.length_nil] at this; omega
  rw [lexLines_list s (by omega) (List.any_eq_false.2 fun c hx => by simp [(hc c hx).1]), linesL_one _ _ (fun c hx => (hc c hx).2.1)]
  have hf : fieldsL [] (cutL (Lb s)) = [Lb s] := by
    rw [cutL_all _ (fun c hx => (hc c hx).2.2.1), fields_word _ _ (fun c hx => (hc c hx).2.2.2), List.nil_append, if_neg hne]
  unfold emit
  rw [hf, if_neg (by simp), List.map_cons, List.map_nil]
  unfold toS42
  rw [List.map_cons, List.map_nil, mkB_Lb]
theorem bt0_list (s : ByteArray) : bt s 0 = match Lb s with | [] => 0 | c :: _ => (c.toNat : Int) := by
  cases h : Lb s with
  | nil =>
    have h0 : s.size = 0 := by rw [← Lb_size, h]; rfl
    unfold bt
    rw [dif_neg (by rw [h0]; exact Nat.not_lt_zero _)]
  | cons c r =>
    have hl : (0 : Int).toNat < (Lb s).length := by rw [h]; simp
    rw [bt_list s 0 (by omega) hl]
    simp [h]
def rightB (k c : Int) : Bool := decide ((97 ≤ c ∧ c ≤ 122) ∨ (65 ≤ c ∧ c ≤ 90) ∨ (0 < k ∧ ((48 ≤ c ∧ c ≤ 57) ∨ c = 46 ∨ c = 95 ∨ c = 45)))
theorem name_ins {s : ByteArray} (h : lexName s = true) (j b : Int) (hj : 0 ≤ j) (hjs : j ≤ s.size) (hb : 0 ≤ b) (hb2 : b ≤ 255) :
    lexName ((s.extract 0 j.toNat ++ strOfNums [b]) ++ s.extract j.toNat s.size) = (rightB j b && decide ((((s.extract 0 j.toNat ++ strOfNums [b]) ++ s.extract j.toNat s.size).size : Int) ≤ 12)) := by
  obtain ⟨h1, h2, h3, h4⟩ := name_parts h
  obtain ⟨t, ht⟩ : ∃ t, t = (s.extract 0 j.toNat ++ strOfNums [b]) ++ s.extract j.toNat s.size := ⟨_, rfl⟩
  rw [← ht]
  have hL : Lb t = ((Lb s).take j.toNat ++ [UInt8.ofNat b.toNat]) ++ (Lb s).drop j.toNat := by
    rw [ht]
    simp only [Lb, ByteArray.data_append, Array.toList_append]
    have e1 := congrArg Lb (extract_mk s 0 j.toNat)
    have e2 := congrArg Lb (extract_mk s j.toNat s.size)
    rw [Lb_mkB, List.drop_zero, Nat.sub_zero] at e1
    rw [Lb_mkB, List.take_of_length_le (by rw [List.length_drop, Lb_size]; exact Nat.le_refl _)] at e2
    simp only [Lb] at e1 e2
    rw [e1, e2]
    simp [strOfNums]
  have hbn : ((UInt8.ofNat b.toNat).toNat : Int) = b := by
    rw [UInt8.toNat_ofNat_of_lt' (by simp [UInt8.size]; omega)]; omega
  generalize UInt8.ofNat b.toNat = b8 at hL hbn
  have hsz : t.size = s.size + 1 := by
    rw [← Lb_size, hL, ← Lb_size s]
    simp only [List.length_append, List.length_take, List.length_drop, List.length_singleton]
    rw [Lb_size]; omega
  have hany : (bytesOf t).any wrongB = wrongB b := by
    rw [bytes_list, hL, List.map_append, List.map_append, List.any_append, List.any_append]
    rw [show (List.map (fun b : UInt8 => (b.toNat : Int)) ((Lb s).take j.toNat)).any wrongB = false from List.any_eq_false.2 fun x hx => by
      obtain ⟨c, hc, rfl⟩ := List.mem_map.1 hx
      rw [name_byte h c (List.mem_of_mem_take hc)]; simp]
    rw [show (List.map (fun b : UInt8 => (b.toNat : Int)) ((Lb s).drop j.toNat)).any wrongB = false from List.any_eq_false.2 fun x hx => by
      obtain ⟨c, hc, rfl⟩ := List.mem_map.1 hx
      rw [name_byte h c (List.mem_of_mem_drop hc)]; simp]
    simp [hbn]
  have hhead : bt t 0 = if j = 0 then b else bt s 0 := by
    rw [bt0_list t, bt0_list s, hL]
    by_cases h0 : j = 0
    · subst h0; simp [hbn]
    · rw [if_neg h0]
      cases hs : Lb s with
      | nil => have := congrArg List.length hs; rw [Lb_size, List.length_nil] at this; omega
      | cons c r => rw [show j.toNat = (j.toNat - 1) + 1 from by omega]; simp
  unfold lexName
  rw [hany, hhead, hsz]
  by_cases h0 : j = 0
  · subst h0
    rw [if_pos rfl, Bool.eq_iff_iff]
    unfold rightB wrongB letterB
    simp
    omega
  · rw [if_neg h0, h3, Bool.eq_iff_iff]
    unfold rightB wrongB letterB
    simp
    omega
end Go.Proofs.YtidojompkihboaaDoor.X
