import Derived.Test.YtidojompkihboaaDoorXx6
import Derived.Test.YtidojompkihboaaDoorPicksPure
import Derived.Test.YtidojompkihboaaDoorPlainL
namespace Go.Proofs.YtidojompkihboaaDoor.Pure
open Go.RowKit Go.Proofs.YtidojompkihboaaDoor.X Go.Proofs.YtidojompkihboaaDoorW.PrintWords Go.Proofs.YtidojompkihboaaDoorW.PrintLast

/-- What has been written so far: the lines that it has, the number of the next one. -/
structure Told (T : List UInt8) (x4 : List Int) (x5 : Int) : Prop where
  lines : ∀ r, linesL 1 [] (T ++ r) = (x4.map fun n => (n, [[(119 : UInt8)]])) ++ linesL x5 [] r
  plain : T.any odd8 = false
theorem Told.nl {T : List UInt8} {x4 : List Int} {x5 : Int} (h : Told T x4 x5) : Told (T ++ [10]) x4 (x5 + 1) := by
  refine ⟨fun r => ?_, by rw [List.any_append, h.plain]; rfl⟩
  rw [List.append_assoc, h.lines, List.singleton_append, linesL, if_pos rfl]
  rfl
theorem Told.w {T : List UInt8} {x4 : List Int} {x5 : Int} (h : Told T x4 x5) : Told (T ++ [119, 10]) (x4 ++ [x5]) (x5 + 1) := by
  refine ⟨fun r => ?_, by rw [List.any_append, h.plain]; rfl⟩
  rw [List.append_assoc, h.lines, show [119, 10] ++ r = [119] ++ 10 :: r from rfl, linesL_nl [119] r x5 (by simp)]
  rw [List.map_append, List.append_assoc]
  rfl
theorem Lb_app (a b : ByteArray) : Lb (a ++ b) = Lb a ++ Lb b := by simp [Lb, ByteArray.data_append]
theorem tmod3 (g : Int) (h : 0 ≤ g) : 0 ≤ Int.tmod g 3 ∧ Int.tmod g 3 ≤ 2 := by
  rw [Int.tmod_eq_emod_of_nonneg h]; omega

theorem last_loop (x4 : List Int) (hl : x4.length ≤ 200) : ∀ (d : Nat) (i : Int), 0 ≤ i → i ≤ x4.length → (x4.length : Int) - i = d →
    Ev (fun k => comptrollerlaw05_LexNumbers.l2 k x4 (x4.map fun n => toS42 (n, [[(119 : UInt8)]])) (x4.length : Int) i) true := by
  intro d
  induction d with
  | zero =>
    intro i h0 h1 hd
    exact Ev.step (f := fun _ => some true) (fun k => by simp only [comptrollerlaw05_LexNumbers.l2]; rw [if_neg (by omega)]) (Ev.now _)
  | succ d ih =>
    intro i h0 h1 hd
    have hlt : i < x4.length := by omega
    have hn : i.toNat < x4.length := by omega
    refine Ev.step (fun k => ?_) (ih (i + 1) (by omega) (by omega) (by omega))
    have hr : rd_T42 (x4.map fun n => toS42 (n, [[(119 : UInt8)]])) i = toS42 (rd x4 i, [[119]]) := by
      simp [rd_T42, rd, List.getD_eq_getElem?_getD, List.getElem?_eq_getElem hn]
    simp only [comptrollerlaw05_LexNumbers.l2]
    rw [if_pos hlt, if_pos h0, if_pos (by rw [List.length_map]; exact hlt), if_pos hlt, hr, if_pos (show (toS42 (rd x4 i, [[119]])).f0 = rd x4 i from rfl), if_pos (show ((toS42 (rd x4 i, [[(119:UInt8)]])).f1.length : Int) = 1 from rfl), wrap_up h0 hlt (by omega)]

theorem inner_loop (l : List Int) (i : Int) (g : Int) (hg0 : 0 ≤ g) (hg : g ≤ 2) (R : ByteArray → List Int → Int → Prop)
    (hnext : ∀ (T : ByteArray) (x4 : List Int) (x5 : Int), Told (Lb T) x4 x5 → R T x4 x5 → T.size + 2 ≤ 9223372036854775807 → x4.length < 17592186044416 → Ev (fun k => comptrollerlaw05_LexNumbers.l0 k (T ++ (⟨#[119, 10]⟩ : ByteArray)) (x4 ++ [x5]) (wrap64 (x5 + 1)) l l.length (wrap64 (i + 1))) true) :
    ∀ (d : Nat) (j : Int) (T : ByteArray) (x4 : List Int) (x5 : Int), 0 ≤ j → j ≤ g → g - j = d → Told (Lb T) x4 x5 → 1 ≤ x5 → x5 + d ≤ 9000000000000000000 → T.size + d + 2 ≤ 9000000000000000000 → x4.length < 17592186044416 →
      (∀ T' x5', T'.size = T.size + d → x5' = x5 + d → R T' x4 x5') → Ev (fun k => comptrollerlaw05_LexNumbers.l1 k T x4 x5 l l.length i g j) true := by
  intro d
  induction d with
  | zero =>
    intro j T x4 x5 h0 h1 hd ht h5 hb hsz hl hR
    refine Ev.step (fun k => ?_) (hnext T x4 x5 ht (hR T x5 (by omega) (by omega)) (by omega) hl)
    simp only [comptrollerlaw05_LexNumbers.l1]
    rw [if_neg (by omega), if_pos (by omega), if_pos hl]
  | succ d ih =>
    intro j T x4 x5 h0 h1 hd ht h5 hb hsz hl hR
    have hts : (T ++ (⟨#[10]⟩ : ByteArray)).size = T.size + 1 := by rw [ByteArray.size_append]; rfl
    refine Ev.step (fun k => ?_) (ih (j + 1) (T ++ (⟨#[10]⟩ : ByteArray)) x4 (x5 + 1) (by omega) (by omega) (by omega) (by rw [Lb_app]; exact ht.nl) (by omega) (by omega) (by rw [hts]; omega) hl
      (fun T' x5' h2 h3 => hR T' x5' (by rw [hts] at h2; omega) (by omega)))
    simp only [comptrollerlaw05_LexNumbers.l1]
    rw [if_pos (by omega), if_pos (by omega), show wrap64 (x5 + 1) = x5 + 1 from by unfold wrap64; omega, show (j + 1) % 256 = j + 1 from by omega]

theorem outer_loop (l : List Int) (hl : l.length ≤ 200) (hwf : ∀ x ∈ l, 0 ≤ x) : ∀ (d : Nat) (i : Int) (T : ByteArray) (x4 : List Int) (x5 : Int), 0 ≤ i → i ≤ l.length → (l.length : Int) - i = d → Told (Lb T) x4 x5 → 1 ≤ x5 → x5 ≤ 1 + 3 * i → T.size ≤ 4 * i.toNat → x4.length = i.toNat →
    Ev (fun k => comptrollerlaw05_LexNumbers.l0 k T x4 x5 l l.length i) true := by
  intro d
  induction d with
  | zero =>
    intro i T x4 x5 h0 h1 hd ht h5 h5' hT h4
    have hlines : lexLines T = (x4.map fun n => toS42 (n, [[(119 : UInt8)]]), 0) := by
      rw [lexLines_list T (by omega) ht.plain]
      have h := ht.lines []
      rw [List.append_nil, linesL] at h
      have he : emit x5 [] = [] := rfl
      rw [he, List.append_nil] at h
      rw [h, List.map_map]; rfl
    have hf : lex_Lines.f T = some (x4.map fun n => toS42 (n, [[(119 : UInt8)]]), 0) := by unfold lex_Lines.f; rw [hlines]
    have hlast := last_loop x4 (by omega) x4.length 0 (by omega) (by omega) (by omega)
    refine Ev.step (fun k => ?_) (Ev.step (g := fun k => comptrollerlaw05_LexNumbers.j2 k x4 (x4.map fun n => toS42 (n, [[(119 : UInt8)]])) false) (fun k => ?_) hlast)
    · simp only [comptrollerlaw05_LexNumbers.l0]
      rw [if_neg (by omega), hf]
      simp only [Option.bind_some, if_true]
      rw [show ((((x4.map fun n => toS42 (n, [[(119 : UInt8)]])).length : Int) != (x4.length : Int))) = false from by simp]
    · simp only [comptrollerlaw05_LexNumbers.j2]
      rw [if_neg (by simp), List.length_map]
  | succ d ih =>
    intro i T x4 x5 h0 h1 hd ht h5 h5' hT h4
    have hlt : i < l.length := by omega
    have hn : i.toNat < l.length := by omega
    have hg := tmod3 (rd l i) (by rw [show rd l i = l[i.toNat] from by simp [rd, List.getD_eq_getElem?_getD, List.getElem?_eq_getElem hn]]; exact hwf _ (List.getElem_mem _))
    refine Ev.step (fun k => ?_) (inner_loop l i (Int.tmod (rd l i) 3) hg.1 hg.2 (fun T' x4' x5' => T'.size ≤ T.size + 2 ∧ x4' = x4 ∧ 1 ≤ x5' ∧ x5' ≤ x5 + 2) ?_ (Int.tmod (rd l i) 3).toNat 0 T x4 x5 (by omega) (by omega) (by omega) ht h5 (by omega) (by omega) (by omega)
      (fun T' x5' h2 h3 => ⟨by omega, rfl, by omega, by omega⟩))
    · simp only [comptrollerlaw05_LexNumbers.l0]
      rw [if_pos hlt, if_pos h0, if_pos hlt]
    · rintro T' x4' x5' ht' ⟨h2, rfl, h3, h3'⟩ _ _
      have hts : (T' ++ (⟨#[119, 10]⟩ : ByteArray)).size = T'.size + 2 := by rw [ByteArray.size_append]; rfl
      rw [show wrap64 (x5' + 1) = x5' + 1 from by unfold wrap64; omega, wrap_up h0 hlt (by omega)]
      exact ih (i + 1) _ _ (x5' + 1) (by omega) (by omega) (by omega) (by rw [Lb_app]; exact ht'.w) (by omega) (by omega) (by rw [hts]; omega) (by rw [List.length_append, List.length_singleton]; omega)

theorem LexNumbers : comptrollerlaw05_LexNumbers.Pure := by
  intro l0 _ _ hwf
  refine Ev.rounds (Ev.bind alive_ev ?_)
  by_cases hl : (l0.length : Int) > 200
  · exact Ev.congr (fun k => by rw [if_pos rfl, if_pos hl]) (Ev.now _)
  · refine Ev.congr (fun k => by rw [if_pos rfl, if_neg hl]) ?_
    refine outer_loop l0 (by omega) (fun x hx => ?_) l0.length 0 _ _ 1 (by omega) (by omega) (by omega) ⟨fun r => rfl, rfl⟩ (by omega) (by omega) (by simp [ByteArray.size]) rfl
    have := hwf x hx
    simp [Lit.wf, IntKind.min, IntKind.max, IntKind.signed, IntKind.bits] at this
    omega
end Go.Proofs.YtidojompkihboaaDoor.Pure
