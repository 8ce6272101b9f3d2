/- A remark behind a line, or on a line ahead, changes no line but its number. No program. -/
import Derived.Test.YtidojompkihboaaDoorRemarks
import Derived.Test.YtidojompkihboaaDoorTellsB
import Derived.Test.YtidojompkihboaaDoorPlainL
namespace Go.Proofs.YtidojompkihboaaDoor.X
open Go.RowKit Go.Proofs.YtidojompkihboaaDoorW.PrintWords Go.Proofs.YtidojompkihboaaDoorW.PrintLast
theorem rd_bytes (s : ByteArray) (i : Nat) (h : i < (Lb s).length) : rd (bytesOf s) (i : Int) = (((Lb s)[i]).toNat : Int) := by
  unfold rd bytesOf
  rw [Int.toNat_natCast, List.getD_eq_getElem?_getD, List.getElem?_map, List.getElem?_eq_getElem (by exact h)]
  rfl
theorem mem_rd (s : ByteArray) (c : UInt8) (h : c ∈ Lb s) : ∃ i : Int, 0 ≤ i ∧ i < s.size ∧ rd (bytesOf s) i = (c.toNat : Int) := by
  obtain ⟨i, hi, rfl⟩ := List.getElem_of_mem h
  exact ⟨i, by omega, by rw [Lb_size] at hi; omega, rd_bytes s i hi⟩
theorem sign_of {c : UInt8} (h1 : 32 ≤ (c.toNat : Int)) (h2 : (c.toNat : Int) ≤ 126) : odd8 c = false ∧ c ≠ 10 := by
  refine ⟨?_, ?_⟩
  · unfold odd8 oddB
    simp
    omega
  · rintro rfl; simp at h1
theorem remFin (s rem : ByteArray) (hs : s.size ≤ 3000) (hr : rem.size ≤ 100) : ∃ k la lc o, comptrollerlaw05_alive.f k = some true ∧
    (goodR (bytesOf rem) rem.size → goodS (bytesOf s) s.size → RemFin k s rem la lc o) := by
  have h1 := linesL_bound [] 1 (Lb s)
  rw [linesL] at h1
  have hb1 : ((emit 1 (Lb s)).map toS42).length ≤ 20001 := by have := h1.1; simp at this; rw [List.length_map]; omega
  have hb2 : ∀ x ∈ (emit 1 (Lb s)).map toS42, x.f1.length ≤ 20001 := by
    intro x hx
    obtain ⟨y, hy, rfl⟩ := List.mem_map.1 hx
    have := h1.2 y hy
    rw [Lb_size, List.length_nil] at this
    show (y.2.map mkB).length ≤ _
    rw [List.length_map]
    omega
  obtain ⟨k1, e1⟩ := alive_ev
  obtain ⟨k2, e2⟩ := ours_ev ((emit 1 (Lb s)).map toS42) (by omega)
  obtain ⟨k3, e3⟩ := same_o49 _ hb1 hb2
  refine ⟨k1 + k2 + k3, (emit 1 (Lb s)).map toS42, (emit 2 (Lb s)).map toS42, ((emit 1 (Lb s)).map toS42).map o49, e1 _ (by omega), fun gr gs => ?_⟩
  have hS : ∀ c ∈ Lb s, odd8 c = false ∧ c ≠ 10 ∧ c ≠ 35 := by
    intro c hc
    obtain ⟨i, hi, hl, he⟩ := mem_rd s c hc
    have := gs i hi hl
    rw [he] at this
    have h2 := sign_of this.2.1 this.2.2
    refine ⟨h2.1, h2.2, ?_⟩
    rintro rfl
    exact this.1 rfl
  have hR : ∀ c ∈ Lb rem, odd8 c = false ∧ c ≠ 10 := by
    intro c hc
    obtain ⟨i, hi, hl, he⟩ := mem_rd rem c hc
    have := gr i hi hl
    rw [he] at this
    exact sign_of this.1 this.2
  have o35 : odd8 35 = false := by decide
  have o10 : odd8 10 = false := by decide
  have n35 : (35 : UInt8) ≠ 10 := by decide
  refine ⟨?_, ?_, ?_, e2 _ (by omega), e3 _ (by omega), ?_, ?_⟩
  · unfold lex_Lines.f
    rw [lexLines_list s (by omega) (List.any_eq_false.2 fun c hc => by simp [(hS c hc).1]), linesL_one _ _ (fun c hc => (hS c hc).2.1)]
  · unfold lex_Lines.f
    have hL : Lb ((s ++ (⟨#[35]⟩ : ByteArray)) ++ rem) = Lb s ++ 35 :: Lb rem := by rw [Lb_cat, Lb_cat]; simp [Lb]
    have hz : ((s ++ (⟨#[35]⟩ : ByteArray)) ++ rem).size = s.size + 1 + rem.size := by rw [ByteArray.size_append, ByteArray.size_append]; rfl
    have ho : (Lb ((s ++ (⟨#[35]⟩ : ByteArray)) ++ rem)).any odd8 = false := by
      rw [hL, List.any_eq_false]
      intro c hc
      rcases List.mem_append.1 hc with hc | hc
      · simp [(hS c hc).1]
      · rcases List.mem_cons.1 hc with rfl | hc
        · simp [o35]
        · simp [(hR c hc).1]
    have hn : ∀ c ∈ Lb s ++ 35 :: Lb rem, c ≠ 10 := by
      intro c hc
      rcases List.mem_append.1 hc with hc | hc
      · exact (hS c hc).2.1
      · rcases List.mem_cons.1 hc with rfl | hc
        · exact n35
        · exact (hR c hc).2
    rw [lexLines_list _ (by omega) ho, hL, linesL_one _ _ hn]
    unfold emit
    rw [cutL_app _ _ (fun c hc => (hS c hc).2.2), cutL_all _ (fun c hc => (hS c hc).2.2)]
  · unfold lex_Lines.f
    have hL : Lb (((⟨#[35]⟩ : ByteArray) ++ rem) ++ (⟨#[10]⟩ : ByteArray) ++ s) = (35 :: Lb rem) ++ 10 :: Lb s := by rw [Lb_cat, Lb_cat, Lb_cat]; simp [Lb]
    have hz : (((⟨#[35]⟩ : ByteArray) ++ rem) ++ (⟨#[10]⟩ : ByteArray) ++ s).size = 1 + rem.size + 1 + s.size := by rw [ByteArray.size_append, ByteArray.size_append, ByteArray.size_append]; rfl
    have ho : (Lb (((⟨#[35]⟩ : ByteArray) ++ rem) ++ (⟨#[10]⟩ : ByteArray) ++ s)).any odd8 = false := by
      rw [hL, List.any_eq_false]
      intro c hc
      rcases List.mem_append.1 hc with hc | hc
      · rcases List.mem_cons.1 hc with rfl | hc
        · simp [o35]
        · simp [(hR c hc).1]
      · rcases List.mem_cons.1 hc with rfl | hc
        · simp [o10]
        · simp [(hS c hc).1]
    have hn : ∀ c ∈ 35 :: Lb rem, c ≠ 10 := by
      intro c hc
      rcases List.mem_cons.1 hc with rfl | hc
      · exact n35
      · exact (hR c hc).2
    rw [lexLines_list _ (by omega) ho, hL, linesL_nl _ _ _ hn, linesL_one _ _ (fun c hc => (hS c hc).2.1)]
    have h0 : emit 1 (35 :: Lb rem) = [] := by
      unfold emit
      rw [cutL_cons, if_pos rfl]
      rfl
    rw [h0]
    rfl
  · rw [List.length_map, List.length_map]
    unfold emit
    split <;> rfl
  · intro hp
    rw [List.length_map] at hp
    unfold emit at hp ⊢
    by_cases hf : fieldsL [] (cutL (Lb s)) = []
    · rw [if_pos hf] at hp; simp at hp
    · rw [if_neg hf, if_neg hf]
      exact ⟨rfl, rfl⟩
end Go.Proofs.YtidojompkihboaaDoor.X
