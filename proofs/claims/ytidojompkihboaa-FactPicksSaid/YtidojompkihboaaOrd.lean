/- How keys stand is one order: the other way round the other way, each as itself, through a third one. -/
import Derived.Test.YtidojompkihboaaSort
import Derived.Sort.Statements
namespace Go.Proofs.Ytidojompkihboaa.X
open Go.Sort
structure Cmp3 {α : Type} (c : α → α → Int) : Prop where
  anti : ∀ x y, c y x = -c x y
  eq : ∀ x y, c x y = 0 ↔ x = y
  tr : ∀ x y z, c x y ≤ 0 → c y z ≤ 0 → c x z ≤ 0
theorem bytes3 : Cmp3 Lib.compareBytes := by
  refine ⟨?_, ?_, ?_⟩
  · intro x
    induction x with
    | nil => intro y; cases y <;> rfl
    | cons a xs ih =>
      intro y
      cases y with
      | nil => rfl
      | cons b bs =>
        unfold Lib.compareBytes
        by_cases h : a < b
        · have h2 : ¬ b < a := by rw [UInt8.lt_iff_toNat_lt] at h ⊢; omega
          rw [if_pos h, if_neg h2, if_pos h]; rfl
        · by_cases h2 : b < a
          · simp only [if_neg h, if_pos h2]
          · rw [if_neg h, if_neg h2, if_neg h2, if_neg h]; exact ih bs
  · intro x
    induction x with
    | nil => intro y; cases y <;> simp [Lib.compareBytes]
    | cons a xs ih =>
      intro y
      cases y with
      | nil => simp [Lib.compareBytes]
      | cons b bs =>
        unfold Lib.compareBytes
        by_cases h : a < b
        · rw [if_pos h]
          have : a ≠ b := by rintro rfl; exact absurd h (by rw [UInt8.lt_iff_toNat_lt]; omega)
          simp [this]
        · by_cases h2 : b < a
          · rw [if_neg h, if_pos h2]
            have : a ≠ b := by rintro rfl; exact absurd h2 (by rw [UInt8.lt_iff_toNat_lt]; omega)
            simp [this]
          · rw [if_neg h, if_neg h2, ih bs]
            have : a = b := by rw [UInt8.lt_iff_toNat_lt] at h h2; exact UInt8.toNat_inj.1 (by omega)
            simp [this]
  · intro x
    induction x with
    | nil => intro y z _ _; cases z <;> simp [Lib.compareBytes]
    | cons a xs ih =>
      intro y z h1 h2
      cases y with
      | nil => simp [Lib.compareBytes] at h1
      | cons b bs =>
        cases z with
        | nil => simp [Lib.compareBytes] at h2
        | cons d ds =>
          unfold Lib.compareBytes at h1 h2 ⊢
          simp only [UInt8.lt_iff_toNat_lt] at h1 h2 ⊢
          by_cases c1 : a.toNat < b.toNat
          · by_cases c2 : b.toNat < d.toNat
            · rw [if_pos (by omega)]; omega
            · by_cases c3 : d.toNat < b.toNat
              · rw [if_neg c2, if_pos c3] at h2; omega
              · rw [if_pos (by omega)]; omega
          · by_cases c1' : b.toNat < a.toNat
            · rw [if_neg c1, if_pos c1'] at h1; omega
            · rw [if_neg c1, if_neg c1'] at h1
              by_cases c2 : b.toNat < d.toNat
              · rw [if_pos (by omega)]; omega
              · by_cases c3 : d.toNat < b.toNat
                · rw [if_neg c2, if_pos c3] at h2; omega
                · rw [if_neg c2, if_neg c3] at h2
                  rw [if_neg (by omega), if_neg (by omega)]
                  exact ih _ _ h1 h2
theorem int3 : Cmp3 cmpI := by
  refine ⟨fun x y => ?_, fun x y => ?_, fun x y z h1 h2 => ?_⟩
  · unfold cmpI
    by_cases h : x < y
    · rw [if_pos h, if_neg (by omega), if_pos h]; rfl
    · by_cases h2 : y < x
      · rw [if_pos h2, if_neg h, if_pos h2]
      · rw [if_neg h, if_neg h2, if_neg h2, if_neg h]; rfl
  · unfold cmpI
    by_cases h : x < y
    · rw [if_pos h]; constructor <;> intro h1 <;> omega
    · by_cases h2 : y < x
      · rw [if_neg h, if_pos h2]; constructor <;> intro h1 <;> omega
      · rw [if_neg h, if_neg h2]; constructor <;> intro h1 <;> omega
  · have key : ∀ x y : Int, cmpI x y ≤ 0 ↔ x ≤ y := by
      intro x y
      unfold cmpI
      by_cases h : x < y
      · rw [if_pos h]; constructor <;> intro h1 <;> omega
      · by_cases h2 : y < x
        · rw [if_neg h, if_pos h2]; constructor <;> intro h1 <;> omega
        · rw [if_neg h, if_neg h2]; constructor <;> intro h1 <;> omega
    rw [key] at *; omega
theorem Cmp3.lt {α : Type} {c : α → α → Int} (h : Cmp3 c) {x y z : α} (h1 : c x y < 0) (h2 : c y z ≤ 0) : c x z < 0 := by
  have := h.tr x y z (by omega) h2
  by_cases h0 : c x z = 0
  · have e := (h.eq x z).1 h0
    subst e
    have := h.anti x y
    omega
  · omega
theorem Cmp3.lt' {α : Type} {c : α → α → Int} (h : Cmp3 c) {x y z : α} (h1 : c x y ≤ 0) (h2 : c y z < 0) : c x z < 0 := by
  have := h.tr x y z h1 (by omega)
  by_cases h0 : c x z = 0
  · have e := (h.eq x z).1 h0
    subst e
    have := h.anti x y
    omega
  · omega
theorem pair3 {α β : Type} {c : α → α → Int} {d : β → β → Int} (hc : Cmp3 c) (hd : Cmp3 d) : Cmp3 (fun x y : α × β => if c x.1 y.1 = 0 then d x.2 y.2 else c x.1 y.1) := by
  refine ⟨fun x y => ?_, fun x y => ?_, fun x y z h1 h2 => ?_⟩
  · have := hc.anti x.1 y.1
    by_cases h : c x.1 y.1 = 0
    · rw [if_pos h, if_pos (by omega)]; exact hd.anti _ _
    · rw [if_neg h, if_neg (by omega)]; exact this
  · by_cases h : c x.1 y.1 = 0
    · rw [if_pos h, hd.eq]
      have := (hc.eq _ _).1 h
      constructor
      · intro h2; exact Prod.ext this h2
      · rintro rfl; rfl
    · rw [if_neg h]
      constructor
      · intro h2; exact absurd h2 h
      · rintro rfl; exact absurd ((hc.eq _ _).2 rfl) h
  · by_cases a1 : c x.1 y.1 = 0
    · rw [if_pos a1] at h1
      have e1 := (hc.eq _ _).1 a1
      rw [e1]
      by_cases a2 : c y.1 z.1 = 0
      · rw [if_pos a2] at h2 ⊢; exact hd.tr _ _ _ h1 h2
      · rw [if_neg a2] at h2 ⊢; exact h2
    · rw [if_neg a1] at h1
      have h3 : c y.1 z.1 ≤ 0 := by
        by_cases a2 : c y.1 z.1 = 0
        · omega
        · rwa [if_neg a2] at h2
      have := hc.lt (show c x.1 y.1 < 0 by omega) h3
      rw [if_neg (by omega)]; omega
theorem pull3 {α β : Type} {c : β → β → Int} (hc : Cmp3 c) (f : α → β) (hf : ∀ x y, f x = f y → x = y) : Cmp3 (fun x y => c (f x) (f y)) :=
  ⟨fun _ _ => hc.anti _ _, fun x y => (hc.eq _ _).trans ⟨hf x y, fun e => by rw [e]⟩, fun _ _ _ => hc.tr _ _ _⟩
def parts5 (x : S30) : List UInt8 × List UInt8 × List UInt8 × List UInt8 × Int := (x.f0.data.toList, x.f1.data.toList, x.f2.data.toList, x.f3.data.toList, x.f4)
theorem bytes_inj {a b : ByteArray} (h : a.data.toList = b.data.toList) : a = b := by
  cases a; cases b
  congr 1
  exact Array.toList_inj.1 h
theorem parts5_inj (x y : S30) (h : parts5 x = parts5 y) : x = y := by
  obtain ⟨a0, a1, a2, a3, a4⟩ := x
  obtain ⟨b0, b1, b2, b3, b4⟩ := y
  simp only [parts5, Prod.mk.injEq] at h
  obtain ⟨h0, h1, h2, h3, h4⟩ := h
  rw [bytes_inj h0, bytes_inj h1, bytes_inj h2, bytes_inj h3, h4]
theorem key3 : Cmp3 cmpK := by
  have h := pull3 (pair3 bytes3 (pair3 bytes3 (pair3 bytes3 (pair3 bytes3 int3)))) parts5 parts5_inj
  have e : ∀ x y, cmpK x y = (fun x y : S30 => (if Lib.compareBytes (parts5 x).1 (parts5 y).1 = 0 then (if Lib.compareBytes (parts5 x).2.1 (parts5 y).2.1 = 0 then (if Lib.compareBytes (parts5 x).2.2.1 (parts5 y).2.2.1 = 0 then (if Lib.compareBytes (parts5 x).2.2.2.1 (parts5 y).2.2.2.1 = 0 then cmpI (parts5 x).2.2.2.2 (parts5 y).2.2.2.2 else Lib.compareBytes (parts5 x).2.2.2.1 (parts5 y).2.2.2.1) else Lib.compareBytes (parts5 x).2.2.1 (parts5 y).2.2.1) else Lib.compareBytes (parts5 x).2.1 (parts5 y).2.1) else Lib.compareBytes (parts5 x).1 (parts5 y).1)) x y := by
    intro x y
    show orL [cmpB x.f0 y.f0, cmpB x.f1 y.f1, cmpB x.f2 y.f2, cmpB x.f3 y.f3, cmpI x.f4 y.f4] = _
    have z : ∀ z : Int, (if z = 0 then 0 else z) = z := fun z => by by_cases h : z = 0 <;> simp [h]
    simp only [orL, cmpB, parts5, z]
    by_cases h0 : Lib.compareBytes x.f0.data.toList y.f0.data.toList = 0 <;> by_cases h1 : Lib.compareBytes x.f1.data.toList y.f1.data.toList = 0 <;> by_cases h2 : Lib.compareBytes x.f2.data.toList y.f2.data.toList = 0 <;> by_cases h3 : Lib.compareBytes x.f3.data.toList y.f3.data.toList = 0 <;> simp [h0, h1, h2, h3]
  have e' : cmpK = _ := funext fun x => funext fun y => e x y
  rw [e']
  exact h
theorem ord_facts : SWO (ltOf cfF) := by
  refine ⟨fun x => ?_, fun x y z h1 h2 => ?_, fun x y z h1 h2 => ?_⟩
  · exact decide_eq_false (by have := (key3.eq x.f0 x.f0).2 rfl; unfold cfF; omega)
  · have h1 := of_decide_eq_true h1
    have h2 := of_decide_eq_true h2
    exact decide_eq_true (key3.lt h1 (Int.le_of_lt h2))
  · have h1 : ¬ cmpK x.f0 y.f0 < 0 := of_decide_eq_false h1
    have h2 : ¬ cmpK y.f0 z.f0 < 0 := of_decide_eq_false h2
    have a1 := key3.anti x.f0 y.f0
    have a2 := key3.anti y.f0 z.f0
    have a3 := key3.anti x.f0 z.f0
    have := key3.tr z.f0 y.f0 x.f0 (by omega) (by omega)
    exact decide_eq_false (show ¬ cmpK x.f0 z.f0 < 0 by omega)
end Go.Proofs.Ytidojompkihboaa.X
