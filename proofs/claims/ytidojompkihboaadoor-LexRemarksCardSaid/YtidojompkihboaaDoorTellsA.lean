/- What the document's Words, Lines and Same come to, and how the two kinds of lines turn into each other. -/
import Derived.Test.YtidojompkihboaaDoorXx5
import Derived.Test.YtidojompkihboaaDoorPicksPure
import Derived.Test.YtidojompkihboaaDoorPlainL
namespace Go.Proofs.YtidojompkihboaaDoor.X
open Go.RowKit Go.Proofs.YtidojompkihboaaDoorW.PrintWords Go.Proofs.YtidojompkihboaaDoorW.PrintLast

def o49 (x : S42) : S49 := ⟨x.f0, x.f1⟩
def o42 (x : S49) : S42 := ⟨x.f0, x.f1⟩
def toS49 (x : Int × List (List UInt8)) : S49 := ⟨x.1, x.2.map mkB⟩
theorem o49_to (l : List (Int × List (List UInt8))) : (l.map toS42).map o49 = l.map toS49 := by rw [List.map_map]; rfl
theorem take_map_succ {α β : Type} (g : α → β) (l : List α) (i : Int) (h0 : 0 ≤ i) (h : i.toNat < l.length) : (l.take i.toNat).map g ++ [g l[i.toNat]] = (l.take (i + 1).toNat).map g := by
  rw [show (i + 1).toNat = i.toNat + 1 from by omega, List.take_succ_eq_append_getElem h, List.map_append]; rfl
theorem rd42 {l : List S42} {i : Int} (h : i.toNat < l.length) : rd_T42 l i = l[i.toNat] := by simp [rd_T42, List.getD_eq_getElem?_getD, List.getElem?_eq_getElem h]
theorem rd49 {l : List S49} {i : Int} (h : i.toNat < l.length) : rd_T49 l i = l[i.toNat] := by simp [rd_T49, List.getD_eq_getElem?_getD, List.getElem?_eq_getElem h]
theorem rdS {l : List ByteArray} {i : Int} (h : i.toNat < l.length) : rdOf ByteArray.empty l i = l[i.toNat] := by simp [rdOf, List.getD_eq_getElem?_getD, List.getElem?_eq_getElem h]
theorem toList_data (s : ByteArray) : s.toList = Lb s := ByteArray.toList_eq s
theorem ours_loop (l : List S42) (hl : l.length < 4398046511104) : ∀ (d : Nat) (i : Int), 0 ≤ i → i ≤ l.length → (l.length : Int) - i = d →
    Ev (fun k => comptrollerlaw05_Ours.l0 k ((l.take i.toNat).map o49) l l.length i) (l.map o49) := by
  intro d
  induction d with
  | zero =>
    intro i h0 h1 hd
    refine Ev.step (f := fun _ => some (l.map o49)) (fun k => ?_) (Ev.now _)
    simp only [comptrollerlaw05_Ours.l0]
    rw [if_neg (by omega), List.take_of_length_le (by omega)]
  | succ d ih =>
    intro i h0 h1 hd
    have hlt : i < l.length := by omega
    have hn : i.toNat < l.length := by omega
    refine Ev.step (fun k => ?_) (ih (i + 1) (by omega) (by omega) (by omega))
    simp only [comptrollerlaw05_Ours.l0]
    rw [if_pos hlt, if_pos h0, if_pos hlt, if_pos (by rw [List.length_map, List.length_take]; omega), wrap_up h0 hlt (by omega), rd42 hn]
    rw [← take_map_succ o49 l i h0 hn]; rfl
theorem ours_ev (l : List S42) (hl : l.length < 4398046511104) : Ev (fun k => comptrollerlaw05_Ours.f k l) (l.map o49) :=
  ours_loop l hl l.length 0 (by omega) (by omega) (by omega)
theorem theirs_loop (l : List S49) (hl : l.length < 4398046511104) : ∀ (d : Nat) (i : Int), 0 ≤ i → i ≤ l.length → (l.length : Int) - i = d →
    Ev (fun k => comptrollerlaw05_theirs.l0 k ((l.take i.toNat).map o42) l l.length i) (l.map o42) := by
  intro d
  induction d with
  | zero =>
    intro i h0 h1 hd
    refine Ev.step (f := fun _ => some (l.map o42)) (fun k => ?_) (Ev.now _)
    simp only [comptrollerlaw05_theirs.l0]
    rw [if_neg (by omega), List.take_of_length_le (by omega)]
  | succ d ih =>
    intro i h0 h1 hd
    have hlt : i < l.length := by omega
    have hn : i.toNat < l.length := by omega
    refine Ev.step (fun k => ?_) (ih (i + 1) (by omega) (by omega) (by omega))
    simp only [comptrollerlaw05_theirs.l0]
    rw [if_pos hlt, if_pos h0, if_pos hlt, if_pos (by rw [List.length_map, List.length_take]; omega), wrap_up h0 hlt (by omega), rd49 hn]
    rw [← take_map_succ o42 l i h0 hn]; rfl
theorem theirs_ev (l : List S49) (hl : l.length < 4398046511104) : Ev (fun k => comptrollerlaw05_theirs.f k l) (l.map o42) :=
  theirs_loop l hl l.length 0 (by omega) (by omega) (by omega)

/-- The very same lines are the same. -/
theorem same_in (l : List S49) (i : Int) (h0 : 0 ≤ i) (hn : i < l.length) (hw : ∀ x ∈ l, (x.f1.length : Int) ≤ 9223372036854775807) (hnext : Ev (fun k => comptrollerref05_Same.l0 k l l (wrap64 (i + 1))) true) :
    ∀ (d : Nat) (j : Int), 0 ≤ j → j ≤ (rd_T49 l i).f1.length → ((rd_T49 l i).f1.length : Int) - j = d → Ev (fun k => comptrollerref05_Same.l1 k l l i j) true := by
  have hb : ((rd_T49 l i).f1.length : Int) ≤ 9223372036854775807 := by
    rw [rd49 (by omega : i.toNat < l.length)]; exact hw _ (List.getElem_mem _)
  intro d
  induction d with
  | zero =>
    intro j j0 j1 hd
    refine Ev.step (fun k => ?_) hnext
    simp only [comptrollerref05_Same.l1]
    rw [if_pos h0, if_pos hn, if_neg (by omega)]
  | succ d ih =>
    intro j j0 j1 hd
    have hlt : j < (rd_T49 l i).f1.length := by omega
    refine Ev.step (fun k => ?_) (ih (j + 1) (by omega) (by omega) (by omega))
    simp only [comptrollerref05_Same.l1]
    rw [if_pos h0, if_pos hn, if_pos hlt, if_pos j0, if_pos hn, if_pos hlt, if_pos trivial, wrap_up j0 hlt hb]
theorem same_loop (l : List S49) (hl : (l.length : Int) ≤ 9223372036854775807) (hw : ∀ x ∈ l, (x.f1.length : Int) ≤ 9223372036854775807) : ∀ (d : Nat) (i : Int), 0 ≤ i → i ≤ l.length → (l.length : Int) - i = d →
    Ev (fun k => comptrollerref05_Same.l0 k l l i) true := by
  intro d
  induction d with
  | zero =>
    intro i h0 h1 hd
    refine Ev.step (f := fun _ => some true) (fun k => ?_) (Ev.now _)
    simp only [comptrollerref05_Same.l0]
    rw [if_neg (by omega)]
  | succ d ih =>
    intro i h0 h1 hd
    have hlt : i < l.length := by omega
    have hin := same_in l i h0 hlt hw (by rw [wrap_up h0 hlt hl]; exact ih (i + 1) (by omega) (by omega) (by omega)) (rd_T49 l i).f1.length 0 (by omega) (by omega) (by omega)
    refine Ev.step (g := fun k => comptrollerref05_Same.l0 k l l i) (f := fun k => comptrollerref05_Same.j1 k l l i false) (fun k => ?_) (Ev.step (fun k => ?_) hin)
    · simp only [comptrollerref05_Same.l0]
      rw [if_pos hlt, if_pos h0, if_pos hlt, if_pos trivial]
      simp
    · simp only [comptrollerref05_Same.j1]
      rw [if_neg (by simp)]
theorem same_ev (l : List S49) (hl : (l.length : Int) ≤ 9223372036854775807) (hw : ∀ x ∈ l, (x.f1.length : Int) ≤ 9223372036854775807) : Ev (fun k => comptrollerref05_Same.f k l l) true :=
  Ev.congr (fun k => by unfold comptrollerref05_Same.f; rw [if_pos rfl]) (same_loop l hl hw l.length 0 (by omega) (by omega) (by omega))

theorem bt_list (s : ByteArray) (i : Int) (_h0 : 0 ≤ i) (h : i.toNat < (Lb s).length) : bt s i = (((Lb s)[i.toNat]).toNat : Int) := by
  have hs : i.toNat < s.size := by rw [← Lb_size]; exact h
  rw [← bt_at s i hs]
  congr 1
theorem drop_one (l : List UInt8) (i : Int) (h0 : 0 ≤ i) (h : i.toNat < l.length) : l.drop i.toNat = l[i.toNat] :: l.drop (i + 1).toNat := by
  rw [show (i + 1).toNat = i.toNat + 1 from by omega, List.drop_eq_getElem_cons h]
theorem cutL_cons (c : UInt8) (l : List UInt8) : cutL (c :: l) = if c = 35 then [] else c :: cutL l := by
  unfold cutL
  by_cases h : c = 35
  · rw [if_pos h, List.takeWhile_cons_of_neg (by simp [h])]
  · rw [if_neg h, List.takeWhile_cons_of_pos (by simp [h])]
theorem u8_eq {c d : UInt8} : ((c.toNat : Int) = (d.toNat : Int)) ↔ c = d := by
  rw [Int.ofNat_inj, UInt8.toNat_inj]
theorem toList_nil {s : ByteArray} : s.toList = [] ↔ Lb s = [] := by rw [toList_data]
theorem words_loop (s : ByteArray) (hs : s.size ≤ 20000) : ∀ (d : Nat) (i : Int) (out : List ByteArray) (w : ByteArray), 0 ≤ i → i ≤ s.size → (s.size : Int) - i = d → out.length ≤ i.toNat → w.size ≤ i.toNat →
    Ev (fun k => comptrollerref05_Words.l0 k s out w i) (out ++ (fieldsL (Lb w) (cutL ((Lb s).drop i.toNat))).map mkB) := by
  have hend : ∀ (i : Int) (out : List ByteArray) (w : ByteArray), out.length ≤ 20000 → Ev (fun k => comptrollerref05_Words.j1 k s out w i false) (out ++ (fieldsL (Lb w) []).map mkB) := by
    intro i out w h
    refine Ev.step (f := fun _ => some (out ++ (fieldsL (Lb w) []).map mkB)) (fun k => ?_) (Ev.now _)
    simp only [comptrollerref05_Words.j1]
    rw [if_neg (by simp), fieldsL]
    by_cases hw : Lb w = []
    · rw [if_pos (toList_nil.2 hw), if_pos hw]; simp
    · rw [if_neg (fun e => hw (toList_nil.1 e)), if_neg hw, if_pos (by omega), List.map_cons, List.map_nil, mkB_Lb]
  intro d
  induction d with
  | zero =>
    intro i out w h0 h1 hd ho hw
    have hdr : (Lb s).drop i.toNat = [] := List.drop_eq_nil_of_le (by rw [Lb_size]; omega)
    rw [hdr, show cutL [] = [] from rfl]
    refine Ev.step (fun k => ?_) (hend i out w (by omega))
    simp only [comptrollerref05_Words.l0]
    rw [if_neg (by omega)]
  | succ d ih =>
    intro i out w h0 h1 hd ho hw
    have hlt : i < s.size := by omega
    have hn : i.toNat < (Lb s).length := by rw [Lb_size]; omega
    have hb := bt_list s i h0 hn
    rw [drop_one _ i h0 hn, cutL_cons]
    by_cases hc : (Lb s)[i.toNat] = 35
    · rw [if_pos hc]
      refine Ev.step (fun k => ?_) (hend i out w (by omega))
      simp only [comptrollerref05_Words.l0]
      rw [if_pos hlt, if_pos h0, hb, hc]
      rfl
    · rw [if_neg hc]
      have hne : bt s i ≠ 35 := by
        rw [hb]; intro e; exact hc (u8_eq.1 (e.trans (by rfl)))
      by_cases hbl : blank8 ((Lb s)[i.toNat]) = true
      · have h2 : Ev (fun k => comptrollerref05_Words.j2 k s out w i true) (out ++ (fieldsL (Lb w) ((Lb s)[i.toNat] :: cutL ((Lb s).drop (i + 1).toNat))).map mkB) := by
          rw [fieldsL, if_pos hbl]
          by_cases hw0 : Lb w = []
          · rw [if_pos hw0]
            refine Ev.step (fun k => ?_) (ih (i + 1) out ⟨#[]⟩ (by omega) (by omega) (by omega) (by omega) (Nat.zero_le _))
            simp only [comptrollerref05_Words.j2]
            rw [if_pos trivial, if_pos (toList_nil.2 hw0), wrap_up h0 hlt (by omega)]
          · rw [if_neg hw0, List.map_cons, mkB_Lb, show out ++ w :: List.map mkB (fieldsL [] (cutL ((Lb s).drop (i + 1).toNat))) = (out ++ [w]) ++ List.map mkB (fieldsL [] (cutL ((Lb s).drop (i + 1).toNat))) from by simp]
            refine Ev.step (fun k => ?_) (ih (i + 1) (out ++ [w]) ⟨#[]⟩ (by omega) (by omega) (by omega) (by rw [List.length_append, List.length_singleton]; omega) (Nat.zero_le _))
            simp only [comptrollerref05_Words.j2]
            rw [if_pos trivial, if_neg (fun e => hw0 (toList_nil.1 e)), if_pos (by omega), wrap_up h0 hlt (by omega)]
        have h1' : Ev (fun k => comptrollerref05_Words.j1 k s out w i true) (out ++ (fieldsL (Lb w) ((Lb s)[i.toNat] :: cutL ((Lb s).drop (i + 1).toNat))).map mkB) := by
          refine Ev.step (fun k => ?_) h2
          simp only [comptrollerref05_Words.j1]
          rw [if_pos trivial, if_pos h0, if_pos hlt, hb]
          unfold blank8 at hbl
          rw [Bool.or_eq_true, decide_eq_true_eq, decide_eq_true_eq] at hbl
          rcases hbl with e | e
          · rw [e]; rfl
          · rw [e]; rfl
        refine Ev.step (fun k => ?_) h1'
        simp only [comptrollerref05_Words.l0]
        rw [if_pos hlt, if_pos h0, show (bt s i != 35) = true from by simpa using hne]
      · rw [fieldsL, if_neg hbl]
        have hx : s.extract i.toNat (i + 1).toNat = mkB [(Lb s)[i.toNat]] := by
          rw [extract_mk, drop_one _ i h0 hn, show (i + 1).toNat - i.toNat = 1 from by omega]; rfl
        have hxs : (mkB [(Lb s)[i.toNat]]).size = 1 := rfl
        have hLb : Lb (w ++ mkB [(Lb s)[i.toNat]]) = Lb w ++ [(Lb s)[i.toNat]] := by simp [Lb, ByteArray.data_append]
        have hsz : (w ++ mkB [(Lb s)[i.toNat]]).size = w.size + 1 := by rw [ByteArray.size_append, hxs]
        have hrec := ih (i + 1) out (w ++ mkB [(Lb s)[i.toNat]]) (by omega) (by omega) (by omega) (by omega) (by rw [hsz]; omega)
        rw [hLb] at hrec
        have h2 : Ev (fun k => comptrollerref05_Words.j2 k s out w i false) (out ++ (fieldsL (Lb w ++ [(Lb s)[i.toNat]]) (cutL ((Lb s).drop (i + 1).toNat))).map mkB) := by
          refine Ev.step (fun k => ?_) hrec
          simp only [comptrollerref05_Words.j2]
          rw [if_neg (by simp), if_pos h0, wrap_up h0 hlt (by omega), if_pos (by omega), if_pos (by omega), hx, hxs, if_pos (by omega)]
        have h1' : Ev (fun k => comptrollerref05_Words.j1 k s out w i true) (out ++ (fieldsL (Lb w ++ [(Lb s)[i.toNat]]) (cutL ((Lb s).drop (i + 1).toNat))).map mkB) := by
          refine Ev.step (fun k => ?_) h2
          simp only [comptrollerref05_Words.j1]
          unfold blank8 at hbl
          rw [Bool.or_eq_true, decide_eq_true_eq, decide_eq_true_eq, not_or] at hbl
          have h9 : ¬ bt s i = 9 := by rw [hb]; intro e; exact hbl.2 (u8_eq.1 (e.trans (by rfl)))
          have h32 : ¬ bt s i = 32 := by rw [hb]; intro e; exact hbl.1 (u8_eq.1 (e.trans (by rfl)))
          rw [if_pos trivial, if_pos h0, if_pos hlt, if_neg h9, show (bt s i == 32) = false from by simpa using h32]
        refine Ev.step (fun k => ?_) h1'
        simp only [comptrollerref05_Words.l0]
        rw [if_pos hlt, if_pos h0, show (bt s i != 35) = true from by simpa using hne]
theorem words_ev (s : ByteArray) (hs : s.size ≤ 20000) : Ev (fun k => comptrollerref05_Words.f k s) ((fieldsL [] (cutL (Lb s))).map mkB) := by
  have := words_loop s hs s.size 0 [] ⟨#[]⟩ (by omega) (by omega) (by omega) (Nat.zero_le _) (Nat.zero_le _)
  rw [List.nil_append, show (0 : Int).toNat = 0 from rfl, List.drop_zero] at this
  exact this

theorem lines_second (s : ByteArray) (hs : s.size ≤ 20000) : ∀ (d : Nat) (i : Int) (out : List S49) (n at_ : Int), 0 ≤ at_ → at_ ≤ i → i ≤ s.size → (s.size : Int) - i = d → out.length ≤ i.toNat → 0 ≤ n → n ≤ i + 1 →
    Ev (fun k => comptrollerref05_Lines.l1 k s out n at_ i) (out ++ (linesL n (((Lb s).drop at_.toNat).take (i.toNat - at_.toNat)) ((Lb s).drop i.toNat)).map toS49, 0) := by
  have hemit : ∀ (i : Int) (out : List S49) (n at_ : Int) (R : List S49 × Int), 0 ≤ at_ → at_ ≤ i → i ≤ s.size → out.length ≤ 20000 → 0 ≤ n → n ≤ 20001 → 
      Ev (fun k => comptrollerref05_Lines.l1 k s (out ++ (emit n (((Lb s).drop at_.toNat).take (i.toNat - at_.toNat))).map toS49) (n + 1) (i + 1) (i + 1)) R → Ev (fun k => comptrollerref05_Lines.j2 k s out n at_ i true) R := by
    intro i out n at_ R h0 h1 h2 h3 h4 h5 h
    have hx := extract_mk s at_.toNat i.toNat
    have hxs : (s.extract at_.toNat i.toNat).size ≤ 20000 := Nat.le_trans (extract_size_le s _ _) hs
    have hwd := words_ev _ hxs
    rw [hx, Lb_mkB] at hwd
    refine Ev.step (g := fun k => comptrollerref05_Lines.j2 k s out n at_ i true) (fun k => ?_) (Ev.bind hwd (f := fun k t154 => if (t154.length : Int) > 0 then (if out.length < 4398046511104 then (comptrollerref05_Lines.l1 k s (out ++ [(⟨n, t154⟩ : S49)]) (n + 1) (i + 1) (i + 1)) else (none)) else (comptrollerref05_Lines.l1 k s out (n + 1) (i + 1) (i + 1))) ?_)
    · simp only [comptrollerref05_Lines.j2]
      rw [if_pos trivial, if_pos h0, if_pos h1, if_pos h2, hx, show wrap64 (n + 1) = n + 1 from by unfold wrap64; omega, show wrap64 (i + 1) = i + 1 from by unfold wrap64; omega]
    · unfold emit at h
      by_cases he : fieldsL [] (cutL (((Lb s).drop at_.toNat).take (i.toNat - at_.toNat))) = []
      · rw [if_pos he, List.map_nil, List.append_nil] at h
        refine Ev.congr (fun k => ?_) h
        rw [he, if_neg (by simp)]
      · rw [if_neg he] at h
        refine Ev.congr (fun k => ?_) h
        rw [if_pos (show (((fieldsL [] (cutL (((Lb s).drop at_.toNat).take (i.toNat - at_.toNat)))).map mkB).length : Int) > 0 from by rw [List.length_map]; have hp := List.length_pos_iff.2 he; exact Int.natCast_pos.2 hp), if_pos (show out.length < 4398046511104 by clear h; omega)]; rfl
  intro d
  induction d with
  | zero =>
    intro i out n at_ h0 h1 h2 hd ho hn0 hn1
    have hi : i = s.size := by omega
    have hdr : (Lb s).drop i.toNat = [] := List.drop_eq_nil_of_le (by rw [Lb_size]; omega)
    rw [hdr, linesL]
    refine Ev.step (fun k => ?_) (hemit i out n at_ _ h0 h1 h2 (by omega) hn0 (by omega) (Ev.step (f := fun _ => some _) (fun k => ?_) (Ev.now _)))
    · simp only [comptrollerref05_Lines.l1]
      rw [if_pos h2, if_pos hi]
    · simp only [comptrollerref05_Lines.l1]
      rw [if_neg (by omega)]
  | succ d ih =>
    intro i out n at_ h0 h1 h2 hd ho hn0 hn1
    have hlt : i < s.size := by omega
    have hn : i.toNat < (Lb s).length := by rw [Lb_size]; omega
    have hb := bt_list s i (by omega) hn
    rw [drop_one _ i (by omega) hn, linesL]
    by_cases hc : (Lb s)[i.toNat] = 10
    · rw [if_pos hc]
      have hrec := ih (i + 1) (out ++ (emit n (((Lb s).drop at_.toNat).take (i.toNat - at_.toNat))).map toS49) (n + 1) (i + 1) (by omega) (by omega) (by omega) (by omega)
        (by rw [List.length_append, List.length_map]; have : (emit n (((Lb s).drop at_.toNat).take (i.toNat - at_.toNat))).length ≤ 1 := (by unfold emit; split <;> simp); omega) (by omega) (by omega)
      rw [Nat.sub_self, List.take_zero] at hrec
      rw [List.map_append, ← List.append_assoc]
      refine Ev.step (fun k => ?_) (hemit i out n at_ _ h0 h1 h2 (by omega) hn0 (by omega) hrec)
      simp only [comptrollerref05_Lines.l1]
      rw [if_pos h2, if_neg (by omega), if_pos (by omega), if_pos hlt, hb, hc]; rfl
    · rw [if_neg hc]
      have hrec := ih (i + 1) out n at_ h0 (by omega) (by omega) (by omega) (by omega) hn0 (by omega)
      have hcur : ((Lb s).drop at_.toNat).take (i.toNat - at_.toNat) ++ [(Lb s)[i.toNat]] = ((Lb s).drop at_.toNat).take ((i + 1).toNat - at_.toNat) := by
        rw [show (i + 1).toNat - at_.toNat = (i.toNat - at_.toNat) + 1 from by omega, List.take_succ_eq_append_getElem (by rw [List.length_drop]; omega)]
        simp [show at_.toNat + (i.toNat - at_.toNat) = i.toNat from by omega]
      rw [hcur]
      refine Ev.step (g := fun k => comptrollerref05_Lines.l1 k s out n at_ i) (f := fun k => comptrollerref05_Lines.j2 k s out n at_ i false) (fun k => ?_) (Ev.step (fun k => ?_) hrec)
      · simp only [comptrollerref05_Lines.l1]
        have h10 : ¬ bt s i = 10 := by rw [hb]; intro e; exact hc (u8_eq.1 (e.trans (by rfl)))
        rw [if_pos h2, if_neg (by omega), if_pos (by omega), if_pos hlt, show (bt s i == 10) = false from by simpa using h10]
      · simp only [comptrollerref05_Lines.j2]
        rw [if_neg (by simp), show wrap64 (i + 1) = i + 1 from by unfold wrap64; omega]
theorem lines_first (s : ByteArray) (hs : s.size ≤ 20000) (R : List S49 × Int) (hR : Ev (fun k => comptrollerref05_Lines.l1 k s [] 1 0 0) R) : ∀ (d : Nat) (i : Int), 0 ≤ i → i ≤ s.size → (s.size : Int) - i = d →
    Ev (fun k => comptrollerref05_Lines.l0 k s i) (if ((Lb s).drop i.toNat).any odd8 = true then ([], 5) else R) := by
  intro d
  induction d with
  | zero =>
    intro i h0 h1 hd
    have hdr : (Lb s).drop i.toNat = [] := List.drop_eq_nil_of_le (by rw [Lb_size]; omega)
    rw [hdr, List.any_nil, if_neg (by simp)]
    refine Ev.step (fun k => ?_) hR
    simp only [comptrollerref05_Lines.l0]
    rw [if_neg (by omega)]
  | succ d ih =>
    intro i h0 h1 hd
    have hlt : i < s.size := by omega
    have hn : i.toNat < (Lb s).length := by rw [Lb_size]; omega
    have hb := bt_list s i h0 hn
    have hrec := ih (i + 1) (by omega) (by omega) (by omega)
    rw [drop_one _ i h0 hn, List.any_cons]
    have hodd : odd8 ((Lb s)[i.toNat]) = oddB (bt s i) := by rw [hb]; rfl
    rw [hodd]
    cases ho : oddB (bt s i) with
    | true =>
      refine Ev.step (f := fun _ => some ([], 5)) (fun k => ?_) (Ev.now _)
      simp only [comptrollerref05_Lines.l0]
      unfold oddB at ho
      simp at ho
      rw [if_pos hlt, if_pos h0, if_neg (by omega), if_neg (by omega)]
      by_cases hx : bt s i < 32
      · rw [if_pos hx]
      · rw [if_neg hx, if_pos (by omega)]
    | false =>
      rw [Bool.false_or]
      refine Ev.step (fun k => ?_) hrec
      simp only [comptrollerref05_Lines.l0]
      unfold oddB at ho
      simp at ho
      rw [if_pos hlt, if_pos h0, wrap_up h0 hlt (by omega)]
      by_cases h9 : bt s i = 9
      · rw [if_pos h9]
      · by_cases h10 : bt s i = 10
        · rw [if_neg h9, if_pos h10]
        · rw [if_neg h9, if_neg h10, if_neg (by have := ho h9 h10; omega), if_neg (by have := ho h9 h10; omega)]
/-- The document's Lines are lex.Lines'. -/
theorem refLines_ev (s : ByteArray) : Ev (fun k => comptrollerref05_Lines.f k s) ((lexLines s).1.map o49, (lexLines s).2) := by
  by_cases hs : s.size ≤ 20000
  · have h2 := lines_second s hs s.size 0 [] 1 0 (by omega) (by omega) (by omega) (by omega) (Nat.zero_le _) (by omega) (by omega)
    have h1 := lines_first s hs _ h2 s.size 0 (by omega) (by omega) (by omega)
    have hr : (if ((Lb s).drop (0 : Int).toNat).any odd8 = true then (([] : List S49), (5 : Int)) else ([] ++ (linesL 1 (((Lb s).drop (0 : Int).toNat).take ((0 : Int).toNat - (0 : Int).toNat)) ((Lb s).drop (0 : Int).toNat)).map toS49, 0)) = ((lexLines s).1.map o49, (lexLines s).2) := by
      rw [show (0 : Int).toNat = 0 from rfl, List.drop_zero, Nat.sub_self, List.take_zero, List.nil_append]
      by_cases ho : (Lb s).any odd8 = true
      · rw [if_pos ho]
        unfold lexLines
        rw [if_neg (by omega), any_odd, if_pos ho]; rfl
      · rw [if_neg ho, lexLines_list s hs (by simpa using ho), o49_to]
    rw [hr] at h1
    exact Ev.congr (fun k => by unfold comptrollerref05_Lines.f; rw [if_neg (by omega)]) h1
  · refine Ev.congr (f := fun _ => some _) (fun k => ?_) (Ev.now _)
    unfold comptrollerref05_Lines.f lexLines
    rw [if_pos (by omega), if_pos (by omega)]; rfl
end Go.Proofs.YtidojompkihboaaDoor.X
