/- Lines and words of a text, as lists of bytes: plain lemmas; no program. -/
import Derived.Lib.FieldsP
import Derived.Lib.IndexLaws
import Derived.Lib.Strings
namespace Go.Proofs.YtidojompkihboaaDoor.X

abbrev Lb (s : ByteArray) : List UInt8 := s.data.toList
abbrev mkB (l : List UInt8) : ByteArray := ⟨l.toArray⟩
theorem mkB_Lb (s : ByteArray) : mkB (Lb s) = s := by cases s; simp [mkB, Lb]
theorem Lb_mkB (l : List UInt8) : Lb (mkB l) = l := by simp [Lb]
theorem Lb_inj {a b : ByteArray} (h : Lb a = Lb b) : a = b := by rw [← mkB_Lb a, h, mkB_Lb]
theorem Lb_size (s : ByteArray) : (Lb s).length = s.size := by rw [Lb, Array.length_toList]; rfl
theorem extract_mk (s : ByteArray) (a b : Nat) : s.extract a b = mkB (((Lb s).drop a).take (b - a)) := by
  apply Lb_inj; rw [Lb_mkB]; exact Go.Lib.extract_data s a b

/-- The pieces between ends of lines; cur: what has been read of the piece. -/
def splitA : List UInt8 → List UInt8 → List (List UInt8)
  | cur, [] => [cur]
  | cur, c :: r => if c = 10 then cur :: splitA [] r else splitA (cur ++ [c]) r
theorem splitA_app (p : List UInt8) : ∀ (cur r : List UInt8), (∀ c ∈ p, c ≠ 10) → splitA cur (p ++ r) = splitA (cur ++ p) r := by
  induction p with
  | nil => intro cur r _; simp
  | cons c p ih =>
    intro cur r h
    rw [List.cons_append, splitA, if_neg (h c List.mem_cons_self), ih _ _ (fun x hx => h x (List.mem_cons_of_mem _ hx))]
    simp
def blank8 (c : UInt8) : Bool := c = 32 || c = 9
/-- The words of a line; cur: what has been read of the word. -/
def fieldsL : List UInt8 → List UInt8 → List (List UInt8)
  | cur, [] => if cur = [] then [] else [cur]
  | cur, c :: r => if blank8 c = true then (if cur = [] then fieldsL [] r else cur :: fieldsL [] r) else fieldsL (cur ++ [c]) r
def cutL (l : List UInt8) : List UInt8 := l.takeWhile (fun c => c != 35)
theorem not_mem_of_idx {l : List UInt8} {c : UInt8} (h : Go.Lib.indexByte l c < 0) : ∀ x ∈ l, x ≠ c := by
  intro x hx e
  have hm : Go.Lib.indexByte l c = -1 := by have := Go.Lib.indexByte_ge l c; omega
  obtain ⟨k, hk⟩ := List.getElem?_of_mem hx
  exact Go.Lib.indexByte_none hm k (by rw [hk, e])
theorem parts_of_idx {l : List UInt8} {c : UInt8} {o : Nat} (h : Go.Lib.indexByte l c = o) : l = l.take o ++ c :: l.drop (o + 1) ∧ (∀ x ∈ l.take o, x ≠ c) ∧ o < l.length := by
  obtain ⟨h1, h2⟩ := Go.Lib.indexByte_some h
  obtain ⟨hl, he⟩ := List.getElem?_eq_some_iff.1 h1
  refine ⟨?_, ?_, hl⟩
  · conv => lhs; rw [← List.take_append_drop o l]
    rw [List.drop_eq_getElem_cons hl, he]
  · intro x hx e
    obtain ⟨k, hk⟩ := List.getElem?_of_mem hx
    rw [List.getElem?_take] at hk
    split at hk
    · rename_i hko; exact h2 k hko (by rw [hk, e])
    · cases hk
theorem cutL_all (l : List UInt8) (h : ∀ x ∈ l, x ≠ 35) : cutL l = l := by
  unfold cutL
  induction l with
  | nil => rfl
  | cons c r ih => rw [List.takeWhile_cons_of_pos (by simpa using h c List.mem_cons_self), ih (fun x hx => h x (List.mem_cons_of_mem _ hx))]
theorem cutL_app (a b : List UInt8) (h : ∀ x ∈ a, x ≠ 35) : cutL (a ++ 35 :: b) = a := by
  unfold cutL
  induction a with
  | nil => rw [List.nil_append, List.takeWhile_cons_of_neg (by simp)]
  | cons c r ih => rw [List.cons_append, List.takeWhile_cons_of_pos (by simpa using h c List.mem_cons_self), ih (fun x hx => h x (List.mem_cons_of_mem _ hx))]
theorem decode_ascii (s : ByteArray) (pos : Nat) (h : pos < s.size) (ha : ((Lb s)[pos]'(by rw [Lb_size]; exact h)).toNat < 128) : Go.Utf8.decode s pos = (((Lb s)[pos]'(by rw [Lb_size]; exact h)).toNat, 1) := by
  have hg : s.get! pos = (Lb s)[pos]'(by rw [Lb_size]; exact h) := by
    cases s with
    | mk d =>
      have hd : pos < d.size := h
      show d[pos]! = d.toList[pos]
      rw [getElem!_pos d pos hd]; simp
  unfold Go.Utf8.decode
  simp only [Nat.add_zero, hg]
  rw [if_pos ha]
theorem spans_list (p : Nat → Bool) (hp : ∀ c : UInt8, p c.toNat = blank8 c) (s : ByteArray) (ha : ∀ c ∈ Lb s, c.toNat < 128) : ∀ (f pos : Nat) (st : Option Nat) (acc : List (Nat × Nat)), s.size - pos ≤ f → pos ≤ s.size → (∀ a, st = some a → a < pos) →
    (Go.Lib.closeSpans s (Go.Lib.spansFromP p s f pos st acc)).map (fun x => ((Lb s).drop x.1).take (x.2 - x.1)) =
      acc.map (fun x => ((Lb s).drop x.1).take (x.2 - x.1)) ++ fieldsL (match st with | none => [] | some a => ((Lb s).drop a).take (pos - a)) ((Lb s).drop pos) := by
  intro f
  induction f with
  | zero =>
    intro pos st acc hf hpos hst
    have hd : (Lb s).drop pos = [] := List.drop_eq_nil_of_le (by rw [Lb_size]; omega)
    rw [hd, fieldsL, Go.Lib.spansFromP]
    cases st with
    | none => simp [Go.Lib.closeSpans]
    | some a =>
      have hne : ((Lb s).drop a).take (pos - a) ≠ [] := by
        intro h
        have := congrArg List.length h
        rw [List.length_take, List.length_drop, Lb_size] at this
        have := hst a rfl
        simp at *
        omega
      have hpe : pos = s.size := by omega
      subst hpe
      simp only [Go.Lib.closeSpans, List.map_append, List.map_cons, List.map_nil]
      rw [if_neg hne]
  | succ f ih =>
    intro pos st acc hf hpos hst
    unfold Go.Lib.spansFromP
    by_cases hlt : pos < s.size
    · have hl' : pos < (Lb s).length := by rw [Lb_size]; exact hlt
      rw [if_pos hlt, decode_ascii s pos hlt (ha _ (List.getElem_mem _))]
      rw [List.drop_eq_getElem_cons hl', fieldsL]
      simp only [hp]
      cases hb : blank8 ((Lb s)[pos]) with
      | true =>
        simp only [if_true]
        cases st with
        | none =>
          simp only
          rw [ih (pos + 1) none acc (by omega) (by omega) (fun a h => by cases h)]
          simp
        | some a =>
          have hap := hst a rfl
          have hne : ((Lb s).drop a).take (pos - a) ≠ [] := by
            intro h
            have := congrArg List.length h
            rw [List.length_take, List.length_drop, Lb_size] at this
            simp at this
            omega
          simp only
          rw [ih (pos + 1) none _ (by omega) (by omega) (fun a h => by cases h), if_neg hne]
          simp
      | false =>
        simp only [Bool.false_eq_true, if_false]
        cases st with
        | none =>
          simp only
          rw [ih (pos + 1) (some pos) acc (by omega) (by omega) (fun a h => by cases h; omega)]
          have : ((Lb s).drop pos).take (pos + 1 - pos) = [(Lb s)[pos]] := by
            rw [List.drop_eq_getElem_cons hl', show pos + 1 - pos = 1 from by omega]; rfl
          simp only [this, List.nil_append]
        | some a =>
          have hap := hst a rfl
          simp only
          rw [ih (pos + 1) (some a) acc (by omega) (by omega) (fun b h => by cases h; omega)]
          have : ((Lb s).drop a).take (pos + 1 - a) = ((Lb s).drop a).take (pos - a) ++ [(Lb s)[pos]] := by
            rw [show pos + 1 - a = (pos - a) + 1 from by omega, List.take_succ_eq_append_getElem (by rw [List.length_drop]; omega)]
            simp [show a + (pos - a) = pos from by omega]
          simp only [this]
    · have hd : (Lb s).drop pos = [] := List.drop_eq_nil_of_le (by rw [Lb_size]; omega)
      rw [if_neg hlt, hd, fieldsL]
      cases st with
      | none => simp [Go.Lib.closeSpans]
      | some a =>
        have hne : ((Lb s).drop a).take (pos - a) ≠ [] := by
          intro h
          have := congrArg List.length h
          rw [List.length_take, List.length_drop, Lb_size] at this
          have := hst a rfl
          simp at *
          omega
        have hpe : pos = s.size := by omega
        subst hpe
        simp only [Go.Lib.closeSpans, List.map_append, List.map_cons, List.map_nil]
        rw [if_neg hne]
theorem goFields_list (p : Nat → Bool) (hp : ∀ c : UInt8, p c.toNat = blank8 c) (s : ByteArray) (ha : ∀ c ∈ Lb s, c.toNat < 128) : Go.Lib.goFieldsP p s = (fieldsL [] (Lb s)).map mkB := by
  have h := spans_list p hp s ha s.size 0 none [] (by omega) (by omega) (fun a h => by cases h)
  simp only [List.map_nil, List.nil_append, List.drop_zero] at h
  rw [← h]
  unfold Go.Lib.goFieldsP Go.Lib.spansOfP
  rw [List.map_map]
  exact List.map_congr_left (fun x _ => extract_mk s x.1 x.2)
end Go.Proofs.YtidojompkihboaaDoor.X
