import Derived.Test.YtidojompkihboaaDoorXx0
import Derived.Shelf.Abstract
namespace Go.Proofs.YtidojompkihboaaDoor.X
open Go.RowKit Go.Shelf Go.Proofs.YtidojompkihboaaDoorW.PrintWords Go.Proofs.YtidojompkihboaaDoorW.PrintLast Go.Proofs.YtidojompkihboaaDoorW.PrintMore

def letterB (c : Int) : Bool := decide (97 ≤ c ∧ c ≤ 122 ∨ 65 ≤ c ∧ c ≤ 90)
theorem ret_bool {a b : Bool} (h : a = b) : Ending.returned (.bool a) = .returned (.bool b) := by rw [h]

set_option maxHeartbeats 400000 in
theorem letter_any (c : Int) (w : World) :
    Calls Tryd.prog 28 #[.int .u8 c] w fun e w' => e = .returned (.bool (letterB c)) ∧ w = w' := by
  go_enter Tryd.func28, Tryd.ntmps28
  go_wp2
  all_goals go_ret
  all_goals refine ⟨ret_bool ?_, rfl⟩
  all_goals (rw [Bool.eq_iff_iff]; unfold letterB; simp; try omega)
set_option maxHeartbeats 400000 in
def wrongB (c : Int) : Bool := !letterB c && (decide (c < 48) || decide (57 < c)) && decide (c ≠ 46) && decide (c ≠ 95) && decide (c ≠ 45)
theorem wrong_any (c : Int) (w : World) :
    Calls Tryd.prog 29 #[.int .u8 c] w fun e w' => e = .returned (.bool (wrongB c)) ∧ w = w' := by
  go_enter Tryd.func29, Tryd.ntmps29
  go_wp2_with (go_at_call 28; refine (letter_any _ _).mono ?_; rintro e w' ⟨rfl, rfl⟩)
  all_goals go_ret
  all_goals refine ⟨ret_bool ?_, rfl⟩
  all_goals (rw [Bool.eq_iff_iff]; unfold wrongB; simp [*]; try omega)

def idxF (p : Int → Bool) : List Int → Int → Int
  | [], _ => -1
  | c :: r, i => if p c then i else idxF p r (i + 1)
theorem idxF_drop (p : Int → Bool) (l : List Int) (i : Int) (h0 : 0 ≤ i) (h1 : i < l.length) : idxF p (l.drop i.toNat) i = if p (rd l i) = true then i else idxF p (l.drop (i + 1).toNat) (i + 1) := by
  have hlt : i.toNat < l.length := by omega
  rw [List.drop_eq_getElem_cons hlt, idxF, show (i + 1).toNat = i.toNat + 1 from by omega]
  have e : rd l i = l[i.toNat] := by simp [rd, List.getD_eq_getElem?_getD, List.getElem?_eq_getElem hlt]
  rw [e]
def BoolOf (p : Int → Bool) (g : Nat) : Prop := ∀ (c : Int) (w : World), Calls Tryd.prog g #[.int .u8 c] w fun e w' => e = .returned (.bool (p c)) ∧ w = w'
def Enters (g : Nat) : Prop := ∀ args w, (callFunc g args).run Tryd.prog w = .ok (.enter g args) w
set_option maxHeartbeats 800000 in
theorem indexFunc_any (g : Nat) (eg : Enters g) (p : Int → Bool) (hp : BoolOf p g) (A : Option Addr) (c : Nat) (l : List Int) (w : World) (hr : Aside0 (ReadsInt w .u8 A l.length l)) (hm : l.length ≤ 4611686018427387904) :
    Calls Tryd.prog 36 #[.slice A l.length c, .func (.func g) #[] #[]] w fun e w' => e = .returned (.int .i64 (idxF p l 0)) ∧ w = w' := by
  have eg' := eg
  unfold Enters at eg'
  go_enter Tryd.func36, Tryd.ntmps36
  go_wp2
  go_loop [5, 8] (fun _ k => ∃ i : Int, 0 ≤ i ∧ i ≤ l.length ∧ k = .int .i64 i ∧ Aside0 (idxF p l 0 = idxF p (l.drop i.toNat) i)) (fun _ k => l.length - (intOf k).toNat)
  case atStart => exact ⟨0, by omega, by omega, rfl, ⟨rfl⟩⟩
  case round =>
    obtain ⟨i, h0, h1, rfl, hi⟩ := hrel
    by_cases hlt : i < (l.length : Int)
    · obtain ⟨ad, rfl, hc⟩ := hr.out.at_ i h0 hlt
      have hd := idxF_drop p l i h0 hlt
      cases hb : p (rd l i) with
      | true =>
        have hcall := Aside0.mk ((hp (rd l i) w).mono (R' := fun e w' => e = .returned (.bool true) ∧ w = w') (fun _ _ ⟨h1, h2⟩ => ⟨by rw [h1, hb], h2⟩))
        have HI := Aside0.mk (hi.out.trans (by rw [hd, hb, if_pos rfl]))
        clear hb hd
        go_wp2_with ((with_reducible refine hcall.out.mono ?_); rintro e w' ⟨rfl, rfl⟩)
        go_ret
        exact ⟨by rw [HI.out]; rfl, rfl⟩
      | false =>
        have hcall := Aside0.mk ((hp (rd l i) w).mono (R' := fun e w' => e = .returned (.bool false) ∧ w = w') (fun _ _ ⟨h1, h2⟩ => ⟨by rw [h1, hb], h2⟩))
        have HI := Aside0.mk (hi.out.trans (by rw [hd, hb, if_neg (by simp)]))
        clear hb hd
        go_wp2_with ((with_reducible refine hcall.out.mono ?_); rintro e w' ⟨rfl, rfl⟩)
        go_round
        case rel => exact ⟨i + 1, by omega, by omega, rfl, HI⟩
        case measure => simp [intOf]; omega
    · have HI := Aside0.mk (hi.out.trans (by rw [List.drop_eq_nil_of_le (by omega), idxF]))
      go_wp2
      go_ret
      exact ⟨by rw [HI.out]; rfl, rfl⟩

theorem idxF_nonneg (p : Int → Bool) (l : List Int) : ∀ i : Int, 0 ≤ i → ((decide (idxF p l i ≥ 0)) = l.any p) := by
  induction l with
  | nil => intro i hi; simp [idxF]
  | cons c r ih =>
    intro i hi
    rw [idxF, List.any_cons]
    cases hc : p c with
    | true => simpa using hi
    | false => simp only [Bool.false_eq_true, if_false, Bool.false_or]; exact ih (i + 1) (by omega)
theorem idxF_lt (p : Int → Bool) (l : List Int) : ∀ i : Int, 0 ≤ i → -1 ≤ idxF p l i := by
  induction l with
  | nil => intro i hi; simp [idxF]
  | cons c r ih =>
    intro i hi
    rw [idxF]
    split
    · omega
    · exact ih (i + 1) (by omega)
set_option maxHeartbeats 800000 in
theorem containsFunc_any (g : Nat) (eg : Enters g) (p : Int → Bool) (hp : BoolOf p g) (A : Option Addr) (c : Nat) (l : List Int) (w : World) (hr : Aside0 (ReadsInt w .u8 A l.length l)) (hm : l.length ≤ 4611686018427387904) :
    Calls Tryd.prog 21 #[.slice A l.length c, .func (.func g) #[] #[]] w fun e w' => e = .returned (.bool (l.any p)) ∧ w = w' := by
  have hn := Aside0.mk (idxF_nonneg p l 0 (by omega))
  go_enter Tryd.func21, Tryd.ntmps21
  go_wp2_with (go_at_call 36; refine (indexFunc_any g eg p hp _ _ _ _ hr hm).mono ?_; rintro e w' ⟨rfl, rfl⟩)
  go_ret
  exact ⟨ret_bool hn.out, rfl⟩

theorem enters29 : Enters 29 := enters_of Tryd.func29 (by kernel_rfl) rfl
theorem enters22 : Enters 22 := enters_of Tryd.func22 (by kernel_rfl) rfl
theorem notEmpty_of (s : ByteArray) (h : ¬ s.size = 0) : s.toList.isEmpty = false := by
  rw [ByteArray.toList_eq]
  have hl := data_length s
  cases he : s.data.toList with
  | nil => rw [he] at hl; exact absurd hl.symm h
  | cons a r => rfl
def lexName (s : ByteArray) : Bool := decide (1 ≤ s.size ∧ s.size ≤ 12) && letterB (bt s 0) && !(bytesOf s).any wrongB
def lex_Name.f (a0 : ByteArray) : Option Bool := some (lexName a0)
set_option maxHeartbeats 800000 in
set_option maxRecDepth 100000 in
theorem lex_Name.calls (a0 : ByteArray) (r : Bool) (w : World) (h : lex_Name.f a0 = some r) :
    Calls Tryd.prog 14 #[.string a0] w fun e w' => e = .returned (.bool r) ∧ Below w.heap.size w w' := by
  obtain rfl : lexName a0 = r := Option.some.inj h
  clear h
  by_cases h0 : a0.size = 0
  · obtain rfl : a0 = ⟨#[]⟩ := by cases a0; simpa [ByteArray.size] using h0
    go_enter Tryd.func14, Tryd.ntmps14
    go_wp2
    go_ret
    exact ⟨ret_bool rfl, Below.refl _ _⟩
  · have he : a0.toList.isEmpty = false := notEmpty_of a0 h0
    by_cases h12 : 12 < a0.size
    · go_enter Tryd.func14, Tryd.ntmps14
      go_wp2
      go_ret
      exact ⟨ret_bool (by unfold lexName; rw [decide_eq_false (by omega)]; rfl), Below.refl _ _⟩
    · have hb0 : bt a0 0 = ((a0[0]'(by omega)).toNat : Int) := (bt_at a0 0 (show (0 : Int).toNat < a0.size by simp; omega)).symm
      cases hl : letterB (bt a0 0) with
      | false =>
        have hcall : ∀ w : World, Aside0 (Calls Tryd.prog 28 #[.int .u8 ((a0[0]'(by omega)).toNat : Int)] w fun e w' => e = .returned (.bool false) ∧ w = w') := fun w => ⟨by rw [← hb0]; exact (letter_any _ w).mono (fun _ _ ⟨h1, h2⟩ => ⟨by rw [h1, hl], h2⟩)⟩
        have HL := Aside0.mk hl
        clear hl hb0
        go_enter Tryd.func14, Tryd.ntmps14
        go_wp2_with (go_at_call 28; refine (hcall _).out.mono ?_; rintro e w' ⟨rfl, rfl⟩)
        go_ret
        exact ⟨ret_bool (by unfold lexName; rw [HL.out, Bool.and_false, Bool.false_and]), Below.refl _ _⟩
      | true =>
        have hcall : ∀ w : World, Aside0 (Calls Tryd.prog 28 #[.int .u8 ((a0[0]'(by omega)).toNat : Int)] w fun e w' => e = .returned (.bool true) ∧ w = w') := fun w => ⟨by rw [← hb0]; exact (letter_any _ w).mono (fun _ _ ⟨h1, h2⟩ => ⟨by rw [h1, hl], h2⟩)⟩
        have HL := Aside0.mk hl
        clear hl hb0
        have kb := fun W => print_bytes (P := Tryd.prog) 9 43 5 Tryd.underlying9 Tryd.underlying43 Tryd.underlying5 a0 W
        have hrd : Aside0 (ReadsInt (Lib.bytesWorld w 5 a0) .u8 (some ⟨w.heap.size, 0, none⟩) (bytesOf a0).length (bytesOf a0)) := ⟨by rw [bytesOf_length]; exact bytes_reads w 5 a0 (by omega)⟩
        have hln : (bytesOf a0).length = a0.size := bytesOf_length a0
        have hc2 := Aside0.mk (containsFunc_any 29 enters29 wrongB wrong_any (some ⟨w.heap.size, 0, none⟩) (grownCap w a0.size 0 5) (bytesOf a0) (Lib.bytesWorld w 5 a0) hrd (by rw [hln]; omega))
        rw [hln] at hc2
        clear hln
        go_enter Tryd.func14, Tryd.ntmps14
        go_wp2_with (first | (go_at_call 28; refine (hcall _).out.mono ?_; rintro e w' ⟨rfl, rfl⟩) | (go_at_call 21; refine hc2.out.mono ?_; rintro e w' ⟨rfl, rfl⟩))
        go_ret
        exact ⟨ret_bool (by unfold lexName; rw [HL.out, decide_eq_true (by omega)]; rfl), bytes_below (Below.refl _ _) (Nat.le_refl _) _ _⟩
end Go.Proofs.YtidojompkihboaaDoor.X
