import Derived.Test.YtidojompkihboaaDoorXx5
import Derived.Test.YtidojompkihboaaDoorAlive
namespace Go.Proofs.YtidojompkihboaaDoor.X
open Go.RowKit Go.Proofs.YtidojompkihboaaDoorW.PrintWords Go.Proofs.YtidojompkihboaaDoorW.PrintLast

theorem wrap_up {i n : Int} (h0 : 0 ≤ i) (h : i < n) (hn : n ≤ 9223372036854775807) : wrap64 (i + 1) = i + 1 := by
  unfold wrap64; omega
theorem alive_ev : Ev comptrollerlaw05_alive.f true := Ev.of comptrollerlaw05_alive.mono alive20

theorem index_ev (l : List ByteArray) (s : ByteArray) (hl : (l.length : Int) ≤ 9223372036854775807) : ∀ (d : Nat) (i : Int), 0 ≤ i → i ≤ l.length → (l.length : Int) - i = d →
    ∃ r, Ev (fun k => slices_Index_string_string.l0 k l s l.length i) r ∧ -1 ≤ r ∧ r < l.length ∧ (0 ≤ r → i ≤ r ∧ (rdOf ByteArray.empty l r).toList = s.toList) ∧
      (∀ j, i ≤ j → j < l.length → (rdOf ByteArray.empty l j).toList = s.toList → 0 ≤ r ∧ r ≤ j) := by
  intro d
  induction d with
  | zero =>
    intro i h0 h1 hd
    exact ⟨-1, Ev.step (f := fun _ => some (-1)) (fun k => by simp only [slices_Index_string_string.l0]; rw [if_neg (by omega)]) (Ev.now _), by omega, by omega, fun h => by omega, fun j h2 h3 => by omega⟩
  | succ d ih =>
    intro i h0 h1 hd
    have hlt : i < l.length := by omega
    by_cases he : s.toList = (rdOf ByteArray.empty l i).toList
    · exact ⟨i, Ev.step (f := fun _ => some i) (fun k => by simp only [slices_Index_string_string.l0]; rw [if_pos hlt, if_pos h0, if_pos hlt, if_pos he]) (Ev.now _), by omega, by omega, fun _ => ⟨by omega, he.symm⟩, fun j h2 _ _ => ⟨h0, h2⟩⟩
    · obtain ⟨r, hr, h2, h3, h4, h5⟩ := ih (i + 1) (by omega) (by omega) (by omega)
      refine ⟨r, Ev.step (fun k => by simp only [slices_Index_string_string.l0]; rw [if_pos hlt, if_pos h0, if_pos hlt, if_neg he, wrap_up h0 hlt hl]) hr, h2, h3, fun h => ⟨by have := (h4 h).1; omega, (h4 h).2⟩, fun j hj hjl hje => ?_⟩
      by_cases hij : j = i
      · subst hij; exact absurd hje.symm he
      · exact h5 j (by omega) hjl hje
theorem pick_ev (l : List ByteArray) (s : ByteArray) (hl : (l.length : Int) ≤ 9223372036854775807) :
    ∃ r, Ev (fun k => lex_Pick.f k s l) r ∧ -1 ≤ r ∧ r < l.length ∧ (0 ≤ r → (rdOf ByteArray.empty l r).toList = s.toList) ∧
      (∀ j : Int, 0 ≤ j → j < l.length → (rdOf ByteArray.empty l j).toList = s.toList → 0 ≤ r ∧ r ≤ j) := by
  obtain ⟨r, hr, h2, h3, h4, h5⟩ := index_ev l s hl l.length 0 (by omega) (by omega) (by omega)
  exact ⟨r, Ev.bind (g := fun k => slices_Index_string_string.f k l s) hr (Ev.now _), h2, h3, fun h => (h4 h).2, h5⟩
theorem picks_loop (s : ByteArray) (l : List ByteArray) (r : Int) (hl : (l.length : Int) ≤ 9223372036854775807) (h : ∀ j : Int, 0 ≤ j → j < l.length → (rdOf ByteArray.empty l j).toList = s.toList → 0 ≤ r ∧ r ≤ j) :
    ∀ (d : Nat) (i : Int), 0 ≤ i → i ≤ l.length → (l.length : Int) - i = d → Ev (fun k => comptrollerlaw05_LexPicks.l0 k s r l l.length i) true := by
  intro d
  induction d with
  | zero =>
    intro i h0 h1 hd
    exact Ev.step (f := fun _ => some true) (fun k => by simp only [comptrollerlaw05_LexPicks.l0]; rw [if_neg (by omega)]) (Ev.now _)
  | succ d ih =>
    intro i h0 h1 hd
    have hlt : i < l.length := by omega
    refine Ev.step (fun k => ?_) (ih (i + 1) (by omega) (by omega) (by omega))
    simp only [comptrollerlaw05_LexPicks.l0]
    rw [if_pos hlt, if_pos h0, if_pos hlt, wrap_up h0 hlt hl]
    by_cases he : (rdOf ByteArray.empty l i).toList = s.toList
    · have := h i h0 hlt he
      rw [if_pos he, if_neg (by omega), if_neg (by omega)]
    · rw [if_neg he]
theorem LexPicks_pure (s : ByteArray) (l : List ByteArray) : ∃ k, comptrollerlaw05_LexPicks.f k s l = some true := by
  refine Ev.rounds (Ev.bind alive_ev ?_)
  by_cases hl : (l.length : Int) > 60
  · exact Ev.congr (fun k => by rw [if_pos rfl, if_pos hl]) (Ev.now _)
  · obtain ⟨r, hr, h2, h3, h4, h5⟩ := pick_ev l s (by omega)
    have loop := picks_loop s l r (by omega) h5 l.length 0 (by omega) (by omega) (by omega)
    refine Ev.congr (fun k => by rw [if_pos rfl, if_neg hl]) (Ev.bind hr ?_)
    by_cases hr0 : 0 ≤ r
    · refine Ev.congr (fun k => by rw [if_neg (by omega), if_neg (by omega), if_pos hr0, if_pos hr0, if_pos h3]) (Ev.step (fun k => ?_) loop)
      simp only [comptrollerlaw05_LexPicks.j0]
      rw [if_neg (by rw [h4 hr0]; simp)]
    · refine Ev.congr (fun k => by rw [if_neg (by omega), if_neg (by omega), if_neg (by omega)]) (Ev.step (fun k => ?_) loop)
      simp only [comptrollerlaw05_LexPicks.j0]
      rw [if_neg (by simp)]
end Go.Proofs.YtidojompkihboaaDoor.X
