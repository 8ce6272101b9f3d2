/- What the document's Name, Join and Pick come to; what 'few' tells; LexTells. -/
import Derived.Test.YtidojompkihboaaDoorTellsA
namespace Go.Proofs.YtidojompkihboaaDoor.X
open Go.RowKit Go.Proofs.YtidojompkihboaaDoorW.PrintWords Go.Proofs.YtidojompkihboaaDoorW.PrintLast

theorem refletter (c : Int) : comptrollerref05_letter.f c = some (letterB c) := by
  unfold comptrollerref05_letter.f letterB
  by_cases h1 : c ≥ 97
  · rw [if_pos h1]
    by_cases h2 : c ≤ 122
    · rw [if_pos h2, decide_eq_true (by omega)]
    · rw [if_neg h2, if_pos (by omega)]
      congr 1
      rw [decide_eq_decide]; omega
  · rw [if_neg h1]
    by_cases h3 : c ≥ 65
    · rw [if_pos h3]
      congr 1
      rw [decide_eq_decide]; omega
    · rw [if_neg h3, decide_eq_false (by omega)]
theorem bytes_drop (s : ByteArray) (i : Int) (h0 : 0 ≤ i) (h : i < s.size) : (bytesOf s).drop i.toNat = bt s i :: (bytesOf s).drop (i + 1).toNat := by
  have hn : i.toNat < (Lb s).length := by rw [Lb_size]; omega
  unfold bytesOf
  rw [← List.map_drop, ← List.map_drop, show s.data.toList = Lb s from rfl, drop_one _ i h0 hn, List.map_cons, bt_list s i h0 hn]
theorem refname_loop (s : ByteArray) (hs : s.size ≤ 12) : ∀ (d : Nat) (i : Int), 0 ≤ i → i ≤ s.size → (s.size : Int) - i = d →
    Ev (fun k => comptrollerref05_Name.l0 k s i) (!((bytesOf s).drop i.toNat).any wrongB) := by
  intro d
  induction d with
  | zero =>
    intro i h0 h1 hd
    have hdr : (bytesOf s).drop i.toNat = [] := List.drop_eq_nil_of_le (by unfold bytesOf; rw [List.length_map, show s.data.toList = Lb s from rfl, Lb_size]; omega)
    rw [hdr]
    refine Ev.step (f := fun _ => some true) (fun k => ?_) (Ev.now _)
    simp only [comptrollerref05_Name.l0]
    rw [if_neg (by omega)]
  | succ d ih =>
    intro i h0 h1 hd
    have hlt : i < s.size := by omega
    have hrec := ih (i + 1) (by omega) (by omega) (by omega)
    rw [bytes_drop s i h0 hlt, List.any_cons]
    generalize hc : bt s i = c
    cases hw : wrongB c with
    | true =>
      refine Ev.step (f := fun _ => some false) (fun k => ?_) (Ev.now _)
      simp only [comptrollerref05_Name.l0]
      rw [if_pos hlt, if_pos h0, hc, refletter]
      unfold wrongB at hw
      simp at hw
      obtain ⟨⟨⟨⟨e1, e2⟩, e3⟩, e4⟩, e5⟩ := hw
      rw [e1, Option.bind_some, if_neg (by simp)]
      by_cases h48 : c < 48
      · rw [if_pos h48, if_neg e3, if_neg e4, if_neg e5]
      · rw [if_neg h48, if_pos (by omega), if_neg e3, if_neg e4, if_neg e5]
    | false =>
      rw [Bool.false_or]
      refine Ev.step (fun k => ?_) hrec
      simp only [comptrollerref05_Name.l0]
      rw [if_pos hlt, if_pos h0, hc, refletter, wrap_up h0 hlt (by omega), Option.bind_some]
      cases hl : letterB c with
      | true => rw [if_pos rfl]
      | false =>
        rw [if_neg (by simp)]
        unfold wrongB at hw
        rw [hl] at hw
        simp at hw
        by_cases h46 : c = 46
        · subst h46; rfl
        · by_cases h95 : c = 95
          · subst h95; rfl
          · by_cases h45 : c = 45
            · subst h45; rfl
            · have h48 : ¬ c < 48 := by
                intro h; exact h45 (hw (.inl h) h46 h95)
              have h57 : ¬ c > 57 := by
                intro h; exact h45 (hw (.inr h) h46 h95)
              rw [if_neg h48, if_neg h57]
theorem refname_ev (s : ByteArray) : Ev (fun k => comptrollerref05_Name.f k s) (lexName s) := by
  unfold lexName
  by_cases h1 : (s.size : Int) < 1
  · rw [decide_eq_false (by omega), Bool.false_and, Bool.false_and]
    refine Ev.congr (f := fun k => comptrollerref05_Name.j0 k s true) (fun k => by unfold comptrollerref05_Name.f; rw [if_pos h1]) (Ev.step (f := fun _ => some false) (fun k => by simp only [comptrollerref05_Name.j0]; rw [if_pos trivial]) (Ev.now _))
  · by_cases h2 : (s.size : Int) > 12
    · rw [decide_eq_false (by omega), Bool.false_and, Bool.false_and]
      refine Ev.congr (f := fun k => comptrollerref05_Name.j0 k s true) (fun k => by unfold comptrollerref05_Name.f; rw [if_neg h1, if_pos h2]) (Ev.step (f := fun _ => some false) (fun k => by simp only [comptrollerref05_Name.j0]; rw [if_pos trivial]) (Ev.now _))
    · rw [decide_eq_true (by omega), Bool.true_and]
      have hl := refname_loop s (by omega) s.size 0 (by omega) (by omega) (by omega)
      rw [show (0 : Int).toNat = 0 from rfl, List.drop_zero] at hl
      refine Ev.congr (f := fun k => comptrollerref05_Name.j0 k s (!letterB (bt s 0))) (fun k => by unfold comptrollerref05_Name.f; rw [if_neg h1, if_neg h2, if_pos (by omega), refletter]; rfl) ?_
      cases hb : letterB (bt s 0) with
      | true =>
        rw [Bool.true_and]
        exact Ev.step (fun k => by simp only [comptrollerref05_Name.j0]; rw [if_neg (by simp)]) hl
      | false =>
        rw [Bool.false_and]
        exact Ev.step (f := fun _ => some false) (fun k => by simp only [comptrollerref05_Name.j0]; rw [if_pos (by simp)]) (Ev.now _)

structure FewP (l : List S49) : Prop where
  len : l.length ≤ 60
  all : ∀ x ∈ l, x.f1.length ≤ 60 ∧ ∀ w ∈ x.f1, w.size ≤ 100
theorem few_in (l : List S49) (i : Int) (ws : List ByteArray) (hws : ws.length ≤ 60) (Q : Prop) (hnext : ∃ b, Ev (fun k => comptrollerlaw05_few.l0 k l l l.length (wrap64 (i + 1))) b ∧ (b = true → Q)) :
    ∀ (d : Nat) (j : Int), 0 ≤ j → j ≤ ws.length → (ws.length : Int) - j = d →
      ∃ b, Ev (fun k => comptrollerlaw05_few.l1 k l l l.length i ws ws.length j) b ∧ (b = true → Q ∧ ∀ w ∈ ws.drop j.toNat, w.size ≤ 100) := by
  intro d
  induction d with
  | zero =>
    intro j h0 h1 hd
    obtain ⟨b, hb, hq⟩ := hnext
    refine ⟨b, Ev.step (fun k => ?_) hb, fun h => ⟨hq h, ?_⟩⟩
    · simp only [comptrollerlaw05_few.l1]
      rw [if_neg (by omega)]
    · rw [List.drop_eq_nil_of_le (by omega)]; exact fun _ h => by cases h
  | succ d ih =>
    intro j h0 h1 hd
    have hlt : j < ws.length := by omega
    have hn : j.toNat < ws.length := by omega
    by_cases hs : ((rdOf ByteArray.empty ws j).size : Int) > 100
    · refine ⟨false, Ev.step (f := fun _ => some false) (fun k => ?_) (Ev.now _), fun h => by cases h⟩
      simp only [comptrollerlaw05_few.l1]
      rw [if_pos hlt, if_pos h0, if_pos hlt, if_pos hs]
    · obtain ⟨b, hb, hq⟩ := ih (j + 1) (by omega) (by omega) (by omega)
      refine ⟨b, Ev.step (fun k => ?_) hb, fun h => ⟨(hq h).1, fun w hw => ?_⟩⟩
      · simp only [comptrollerlaw05_few.l1]
        rw [if_pos hlt, if_pos h0, if_pos hlt, if_neg hs, wrap_up h0 hlt (by omega)]
      · rw [List.drop_eq_getElem_cons hn] at hw
        rcases List.mem_cons.1 hw with rfl | hw
        · rw [rdS hn] at hs; omega
        · exact (hq h).2 w (by rw [show (j + 1).toNat = j.toNat + 1 from by omega]; exact hw)
theorem few_loop (l : List S49) (hl : (l.length : Int) ≤ 9223372036854775807) : ∀ (d : Nat) (i : Int), 0 ≤ i → i ≤ l.length → (l.length : Int) - i = d →
    ∃ b, Ev (fun k => comptrollerlaw05_few.l0 k l l l.length i) b ∧ (b = true → l.length ≤ 60 ∧ ∀ x ∈ l.drop i.toNat, x.f1.length ≤ 60 ∧ ∀ w ∈ x.f1, w.size ≤ 100) := by
  intro d
  induction d with
  | zero =>
    intro i h0 h1 hd
    refine ⟨decide ((l.length : Int) ≤ 60), Ev.step (f := fun _ => some (decide ((l.length : Int) ≤ 60))) (fun k => ?_) (Ev.now _), fun h => ⟨by have := of_decide_eq_true h; omega, ?_⟩⟩
    · simp only [comptrollerlaw05_few.l0]
      rw [if_neg (by omega)]
    · rw [List.drop_eq_nil_of_le (by omega)]; exact fun _ h => by cases h
  | succ d ih =>
    intro i h0 h1 hd
    have hlt : i < l.length := by omega
    have hn : i.toNat < l.length := by omega
    by_cases hs : ((rd_T49 l i).f1.length : Int) > 60
    · refine ⟨false, Ev.step (f := fun _ => some false) (fun k => ?_) (Ev.now _), fun h => by cases h⟩
      simp only [comptrollerlaw05_few.l0]
      rw [if_pos hlt, if_pos h0, if_pos hlt, if_pos hs]
    · have hrec := ih (i + 1) (by omega) (by omega) (by omega)
      rw [← wrap_up h0 hlt hl] at hrec
      obtain ⟨b, hb, hq⟩ := few_in l i (rd_T49 l i).f1 (by omega) _ hrec (rd_T49 l i).f1.length 0 (by omega) (by omega) (by omega)
      refine ⟨b, Ev.step (fun k => ?_) hb, fun h => ⟨(hq h).1.1, fun x hx => ?_⟩⟩
      · simp only [comptrollerlaw05_few.l0]
        rw [if_pos hlt, if_pos h0, if_pos hlt, if_neg hs]
      · rw [List.drop_eq_getElem_cons hn] at hx
        have hg := hq h
        rw [wrap_up h0 hlt hl, show (0 : Int).toNat = 0 from rfl, List.drop_zero] at hg
        rcases List.mem_cons.1 hx with rfl | hx
        · rw [← rd49 hn]; exact ⟨by omega, hg.2⟩
        · exact hg.1.2 x (by rw [show (i + 1).toNat = i.toNat + 1 from by omega]; exact hx)
theorem few_ev (l : List S49) (hl : (l.length : Int) ≤ 9223372036854775807) : ∃ b, Ev (fun k => comptrollerlaw05_few.f k l) b ∧ (b = true → FewP l) := by
  obtain ⟨b, hb, hq⟩ := few_loop l hl l.length 0 (by omega) (by omega) (by omega)
  exact ⟨b, hb, fun h => ⟨(hq h).1, (hq h).2⟩⟩

/-- What is still to be written of a line's words, from the jth on. -/
def restJ (j : Nat) (ws : List ByteArray) : List UInt8 := if j = 0 then joinWords ws else Lib.joinTail [32] ((ws.drop j).map Lb)
theorem restJ_end (ws : List ByteArray) : restJ ws.length ws = [] := by
  unfold restJ
  by_cases h : ws.length = 0
  · rw [if_pos h, List.eq_nil_of_length_eq_zero h]; rfl
  · rw [if_neg h, List.drop_length]; rfl
theorem restJ_step (j : Nat) (ws : List ByteArray) (h : j < ws.length) : restJ j ws = ((if j = 0 then [] else [32]) ++ Lb ws[j]) ++ restJ (j + 1) ws := by
  unfold restJ
  rw [if_neg (show ¬ j + 1 = 0 by omega)]
  by_cases h0 : j = 0
  · subst h0
    rw [if_pos rfl, if_pos rfl, List.nil_append]
    unfold joinWords
    conv => lhs; rw [show ws = ws[0] :: ws.drop 1 from by rw [← List.drop_eq_getElem_cons h, List.drop_zero]]
    rw [List.map_cons, Lib.join_cons]
  · rw [if_neg h0, if_neg h0, List.drop_eq_getElem_cons h, List.map_cons]
    simp [Lib.joinTail]
theorem Lb_cat (a b : ByteArray) : Lb (a ++ b) = Lb a ++ Lb b := by simp [Lb, ByteArray.data_append]
theorem join_in (l : List S49) (i : Int) (h0 : 0 ≤ i) (hi : i < l.length) (hf : FewP l) (S : Nat) (hS : S ≤ 100000000) (R : ByteArray) (G : List UInt8)
    (hnext : ∀ T : ByteArray, Lb T = G ++ joinWords (rd_T49 l i).f1 → T.size ≤ S + 6060 → Ev (fun k => comptrollerref05_Join.l0 k l (T ++ (⟨#[10]⟩ : ByteArray)) (wrap64 (i + 1))) R) :
    ∀ (d : Nat) (j : Int) (T : ByteArray), 0 ≤ j → j ≤ (rd_T49 l i).f1.length → ((rd_T49 l i).f1.length : Int) - j = d → T.size ≤ S + 101 * j.toNat → Lb T ++ restJ j.toNat (rd_T49 l i).f1 = G ++ joinWords (rd_T49 l i).f1 →
      Ev (fun k => comptrollerref05_Join.l1 k l T i j) R := by
  have hn : i.toNat < l.length := by omega
  have hx := hf.all _ (List.getElem_mem hn)
  rw [← rd49 hn] at hx
  generalize hws : (rd_T49 l i).f1 = ws at hx hnext ⊢
  intro d
  induction d with
  | zero =>
    intro j T j0 j1 hd hsz hT
    rw [show j.toNat = ws.length from by omega, restJ_end, List.append_nil] at hT
    refine Ev.step (fun k => ?_) (hnext T hT (by omega))
    simp only [comptrollerref05_Join.l1]
    rw [if_pos h0, if_pos hi, hws, if_neg (by omega), if_pos (by omega)]
  | succ d ih =>
    intro j T j0 j1 hd hsz hT
    have hlt : j < ws.length := by omega
    have hjn : j.toNat < ws.length := by omega
    have hw : (rdOf ByteArray.empty ws j).size ≤ 100 := by rw [rdS hjn]; exact hx.2 _ (List.getElem_mem _)
    rw [restJ_step _ _ hjn, ← rdS hjn] at hT
    by_cases hj : j > 0
    · have h1 : (T ++ (⟨#[32]⟩ : ByteArray)).size = T.size + 1 := by rw [ByteArray.size_append]; rfl
      have h2 : ((T ++ (⟨#[32]⟩ : ByteArray)) ++ rdOf ByteArray.empty ws j).size = T.size + 1 + (rdOf ByteArray.empty ws j).size := by rw [ByteArray.size_append, h1]
      refine Ev.step (fun k => ?_) (ih (j + 1) ((T ++ (⟨#[32]⟩ : ByteArray)) ++ rdOf ByteArray.empty ws j) (by omega) (by omega) (by omega) (by rw [h2]; omega) ?_)
      · simp only [comptrollerref05_Join.l1]
        rw [if_pos h0, if_pos hi, hws, if_pos hlt, if_pos hj, if_pos (by omega), if_pos j0, if_pos (by rw [h1]; omega), wrap_up j0 hlt (by omega)]
      · rw [← hT, Lb_cat, Lb_cat, if_neg (by omega), show (j + 1).toNat = j.toNat + 1 from by omega, show Lb (⟨#[32]⟩ : ByteArray) = [32] from rfl]
        simp only [List.append_assoc]
    · have h2 : (T ++ rdOf ByteArray.empty ws j).size = T.size + (rdOf ByteArray.empty ws j).size := by rw [ByteArray.size_append]
      refine Ev.step (fun k => ?_) (ih (j + 1) (T ++ rdOf ByteArray.empty ws j) (by omega) (by omega) (by omega) (by rw [h2]; omega) ?_)
      · simp only [comptrollerref05_Join.l1]
        rw [if_pos h0, if_pos hi, hws, if_pos hlt, if_neg hj, if_pos j0, if_pos (by omega), wrap_up j0 hlt (by omega)]
      · rw [← hT, Lb_cat, if_pos (by omega), show (j + 1).toNat = j.toNat + 1 from by omega]
        simp
theorem joinLines_cons (x : S42) (r : List S42) : joinLines (x :: r) = (joinWords x.f1 ++ [10]) ++ joinLines r := by
  unfold joinLines; rw [List.flatMap_cons]
theorem join_loop (l : List S49) (hf : FewP l) : ∀ (d : Nat) (i : Int) (T : ByteArray), 0 ≤ i → i ≤ l.length → (l.length : Int) - i = d → T.size ≤ 6061 * i.toNat →
    ∃ R, Ev (fun k => comptrollerref05_Join.l0 k l T i) R ∧ Lb R = Lb T ++ joinLines ((l.drop i.toNat).map o42) ∧ R.size ≤ 6061 * l.length := by
  have hl := hf.len
  intro d
  induction d with
  | zero =>
    intro i T h0 h1 hd hT
    refine ⟨T, Ev.step (f := fun _ => some T) (fun k => ?_) (Ev.now _), ?_, by omega⟩
    · simp only [comptrollerref05_Join.l0]
      rw [if_neg (by omega)]
    · rw [List.drop_eq_nil_of_le (by omega)]; simp [joinLines]
  | succ d ih =>
    intro i T h0 h1 hd hT
    have hlt : i < l.length := by omega
    have hn : i.toNat < l.length := by omega
    have hnl : (⟨#[10]⟩ : ByteArray).size = 1 := rfl
    have hTn : ∀ T' : ByteArray, T'.size ≤ 6061 * i.toNat + 6060 → (T' ++ (⟨#[10]⟩ : ByteArray)).size ≤ 6061 * (i + 1).toNat := by
      intro T' h; rw [ByteArray.size_append, hnl]; omega
    obtain ⟨T1, hT1, hT1s⟩ : ∃ T1 : ByteArray, Lb T1 = Lb T ++ joinWords (rd_T49 l i).f1 ∧ True := ⟨mkB (Lb T ++ joinWords (rd_T49 l i).f1), Lb_mkB _, trivial⟩
    by_cases hs1 : T1.size ≤ 6061 * i.toNat + 6060
    · obtain ⟨R, hR, hR1, hR2⟩ := ih (i + 1) (T1 ++ (⟨#[10]⟩ : ByteArray)) (by omega) (by omega) (by omega) (hTn T1 hs1)
      refine ⟨R, Ev.step (g := fun k => comptrollerref05_Join.l0 k l T i) (fun k => ?_) (join_in l i h0 hlt hf (6061 * i.toNat) (by omega) R (Lb T) (fun T' h1 h2 => ?_) (rd_T49 l i).f1.length 0 T (by omega) (by omega) (by omega) (by omega) (by rw [show (0 : Int).toNat = 0 from rfl]; unfold restJ; rw [if_pos rfl])), ?_, hR2⟩
      · simp only [comptrollerref05_Join.l0]
        rw [if_pos hlt]
      · obtain rfl : T' = T1 := Lb_inj (h1.trans hT1.symm)
        rw [wrap_up h0 hlt (by omega)]
        exact hR
      · rw [hR1, Lb_cat, hT1, List.drop_eq_getElem_cons hn, List.map_cons, joinLines_cons, show (i + 1).toNat = i.toNat + 1 from by omega, rd49 hn]
        simp [o42, Lb]
    · exfalso
      apply hs1
      have hx := hf.all _ (List.getElem_mem hn)
      rw [← rd49 hn] at hx
      have hjl : ∀ ws : List ByteArray, (∀ w ∈ ws, w.size ≤ 100) → (Lib.joinTail [32] (ws.map Lb)).length ≤ 101 * ws.length := by
        intro ws
        induction ws with
        | nil => intro _; simp [Lib.joinTail]
        | cons w ws ih =>
          intro h
          have := ih (fun x hx => h x (List.mem_cons_of_mem _ hx))
          have hw := h w List.mem_cons_self
          rw [← Lb_size] at hw
          unfold Lib.joinTail at this ⊢
          rw [List.map_cons, List.map_cons, List.flatten_cons, List.length_append, List.length_append, List.length_singleton, List.length_cons]
          omega
      have hjw : ∀ ws : List ByteArray, (∀ w ∈ ws, w.size ≤ 100) → (joinWords ws).length ≤ 101 * ws.length := by
        intro ws h
        cases ws with
        | nil => simp [joinWords, Lib.join]
        | cons w ws =>
          have := hjl ws (fun x hx => h x (List.mem_cons_of_mem _ hx))
          have hw := h w List.mem_cons_self
          rw [← Lb_size] at hw
          unfold joinWords
          rw [List.map_cons, Lib.join_cons, List.length_append, List.length_cons]
          have he : (w.data.toList).length ≤ 100 := hw
          have he2 : (Lib.joinTail [32] (ws.map fun x => x.data.toList)).length ≤ 101 * ws.length := this
          omega
      have := hjw _ hx.2
      rw [← Lb_size, hT1, List.length_append, Lb_size]
      omega
theorem pickref_loop (s : ByteArray) (l : List ByteArray) (r : Int) (hl : (l.length : Int) ≤ 9223372036854775807) (h2 : -1 ≤ r) (h3 : r < l.length) (h4 : 0 ≤ r → (rdOf ByteArray.empty l r).toList = s.toList)
    (h5 : ∀ j : Int, 0 ≤ j → j < l.length → (rdOf ByteArray.empty l j).toList = s.toList → 0 ≤ r ∧ r ≤ j) : ∀ (d : Nat) (i : Int), 0 ≤ i → i ≤ l.length → (0 ≤ r → i ≤ r) → (l.length : Int) - i = d → Ev (fun k => comptrollerref05_Pick.l0 k s l i) r := by
  intro d
  induction d with
  | zero =>
    intro i h0 h1 hr hd
    refine Ev.step (f := fun _ => some r) (fun k => ?_) (Ev.now _)
    simp only [comptrollerref05_Pick.l0]
    rw [if_neg (by omega), show r = -1 from by omega]
  | succ d ih =>
    intro i h0 h1 hr hd
    have hlt : i < l.length := by omega
    by_cases he : (rdOf ByteArray.empty l i).toList = s.toList
    · have := h5 i h0 hlt he
      have hri : r = i := by have := hr this.1; omega
      refine Ev.step (f := fun _ => some r) (fun k => ?_) (Ev.now _)
      simp only [comptrollerref05_Pick.l0]
      rw [if_pos hlt, if_pos h0, if_pos he, hri]
    · have hne : r ≠ i := fun e => he (by rw [← e]; exact h4 (by omega))
      refine Ev.step (fun k => ?_) (ih (i + 1) (by omega) (by omega) (fun h => by have := hr h; omega) (by omega))
      simp only [comptrollerref05_Pick.l0]
      rw [if_pos hlt, if_pos h0, if_neg he, wrap_up h0 hlt hl]

theorem fields_len (l : List UInt8) : ∀ cur : List UInt8, (fieldsL cur l).length ≤ l.length + 1 := by
  induction l with
  | nil => intro cur; rw [fieldsL]; split <;> simp
  | cons c r ih =>
    intro cur
    rw [fieldsL]
    have h1 := ih []
    have h2 := ih (cur ++ [c])
    by_cases hb : blank8 c = true
    · rw [if_pos hb]
      by_cases hc : cur = []
      · rw [if_pos hc, List.length_cons]; omega
      · rw [if_neg hc, List.length_cons, List.length_cons]; omega
    · rw [if_neg hb, List.length_cons]; omega
theorem linesL_bound (r : List UInt8) : ∀ (n : Int) (cur : List UInt8), (linesL n cur r).length ≤ r.length + 1 ∧ ∀ x ∈ linesL n cur r, x.2.length ≤ cur.length + r.length + 1 := by
  have he : ∀ (n : Int) (cur : List UInt8), (emit n cur).length ≤ 1 ∧ ∀ x ∈ emit n cur, x.2.length ≤ cur.length + 1 := by
    intro n cur
    unfold emit
    by_cases h : fieldsL [] (cutL cur) = []
    · rw [if_pos h]; exact ⟨by simp, fun _ h => by cases h⟩
    · rw [if_neg h]
      refine ⟨by simp, fun x hx => ?_⟩
      rw [List.mem_singleton.1 hx]
      have h1 := fields_len (cutL cur) []
      have h2 : (cutL cur).length ≤ cur.length := (List.takeWhile_sublist _).length_le
      show (fieldsL [] (cutL cur)).length ≤ _
      omega
  induction r with
  | nil =>
    intro n cur
    rw [linesL]
    exact ⟨by have := (he n cur).1; simpa using this, fun x hx => by have := (he n cur).2 x hx; simp; omega⟩
  | cons c r ih =>
    intro n cur
    rw [linesL]
    by_cases hc : c = 10
    · rw [if_pos hc]
      refine ⟨?_, fun x hx => ?_⟩
      · rw [List.length_append, List.length_cons]
        have := (he n cur).1; have := (ih (n + 1) []).1; omega
      · rw [List.length_cons]
        rcases List.mem_append.1 hx with hx | hx
        · have := (he n cur).2 x hx; omega
        · have := (ih (n + 1) []).2 x hx; rw [List.length_nil] at this; omega
    · rw [if_neg hc]
      have := ih n (cur ++ [c])
      refine ⟨by rw [List.length_cons]; have := this.1; omega, fun x hx => ?_⟩
      have h := this.2 x hx
      rw [List.length_append, List.length_singleton] at h
      rw [List.length_cons]; omega
theorem lexLines_bound (s : ByteArray) : (lexLines s).1.length ≤ 20001 ∧ ∀ x ∈ (lexLines s).1, x.f1.length ≤ 20001 := by
  by_cases hs : s.size ≤ 20000
  · by_cases ho : (Lb s).any odd8 = true
    · unfold lexLines
      rw [if_neg (by omega), any_odd, if_pos ho]
      exact ⟨by simp, fun _ h => by cases h⟩
    · rw [lexLines_list s hs (by simpa using ho)]
      have h := linesL_bound (Lb s) 1 []
      rw [Lb_size] at h
      refine ⟨by rw [List.length_map]; omega, fun x hx => ?_⟩
      obtain ⟨y, hy, rfl⟩ := List.mem_map.1 hx
      have h2 := h.2 y hy
      show (y.2.map mkB).length ≤ _
      rw [List.length_map]
      rw [List.length_nil] at h2
      omega
  · unfold lexLines
    rw [if_pos (by omega)]
    exact ⟨by simp, fun _ h => by cases h⟩
theorem same_o49 (l : List S42) (h1 : l.length ≤ 20001) (h2 : ∀ x ∈ l, x.f1.length ≤ 20001) : Ev (fun k => comptrollerref05_Same.f k (l.map o49) (l.map o49)) true :=
  same_ev _ (by rw [List.length_map]; omega) (fun x hx => by obtain ⟨y, hy, rfl⟩ := List.mem_map.1 hx; have := h2 y hy; show (y.f1.length : Int) ≤ _; omega)

theorem LexTells_pure (s : ByteArray) (l : List S49) (ws : List ByteArray) (hl : (l.length : Int) ≤ 9223372036854775807) : ∃ k, comptrollerlaw05_LexTells.f k s l ws = some true := by
  have hj1 : Ev (fun k => comptrollerlaw05_LexTells.j0 k s l ws true) true := Ev.step (f := fun _ => some true) (fun k => by simp only [comptrollerlaw05_LexTells.j0]; rw [if_pos trivial]) (Ev.now _)
  have hj0 : FewP l → ws.length ≤ 60 → Ev (fun k => comptrollerlaw05_LexTells.j0 k s l ws false) true := by
    intro hf hw
    have hlen := hf.len
    obtain ⟨hb1, hb2⟩ := lexLines_bound s
    obtain ⟨R, hR, hR1, hR2⟩ := join_loop l hf l.length 0 ⟨#[]⟩ (by omega) (by omega) (by omega) (Nat.zero_le _)
    rw [show (0 : Int).toNat = 0 from rfl, List.drop_zero] at hR1
    have hR1' : Lb R = joinLines (l.map o42) := hR1
    obtain ⟨r, hr, h2, h3, h4, h5⟩ := pick_ev ws s (by omega)
    have hp := pickref_loop s ws r (by omega) h2 h3 h4 h5 ws.length 0 (by omega) (by omega) (fun h => h) (by omega)
    have hjoin : lex_Join.f (l.map o42) = some ⟨(joinLines (l.map o42)).toArray⟩ := by
      unfold lex_Join.f
      rw [if_pos (by rw [← hR1', Lb_size]; omega)]
    refine Ev.step (g := fun k => comptrollerlaw05_LexTells.j0 k s l ws false) (fun k => by simp only [comptrollerlaw05_LexTells.j0]; rw [if_neg (by simp)]) (Ev.bind (g := fun _ => lex_Lines.f s) (Ev.now (lexLines s)) ?_)
    refine Ev.bind (refLines_ev s) ?_
    refine Ev.bind (ours_ev (lexLines s).1 (by omega)) ?_
    refine Ev.bind (same_o49 _ hb1 hb2) ?_
    refine Ev.congr (fun k => by rw [if_pos rfl, if_pos rfl]) (Ev.bind (g := fun _ => lex_Name.f s) (Ev.now (lexName s)) ?_)
    refine Ev.bind (refname_ev s) ?_
    refine Ev.congr (fun k => by rw [if_pos (by simp)]) ?_
    refine Ev.bind (theirs_ev l (by omega)) ?_
    refine Ev.congr (fun k => by rw [hjoin, Option.bind_some]) ?_
    refine Ev.bind (a := R) hR ?_
    refine Ev.congr (fun k => by rw [if_pos (by rw [toList_data, toList_data, hR1'])]) ?_
    refine Ev.bind hr ?_
    refine Ev.bind (g := fun k => comptrollerref05_Pick.f k s ws) hp ?_
    exact Ev.congr (fun k => by rw [show (r == r) = true from by simp]) (Ev.now _)
  obtain ⟨b, hb, hfew⟩ := few_ev l hl
  have hmid : Ev (fun k => ((comptrollerlaw05_few.f k l).bind fun t174 => (if t174 = true then (comptrollerlaw05_LexTells.j0 k s l ws (decide ((ws.length : Int) > 60))) else (comptrollerlaw05_LexTells.j0 k s l ws true)))) true := by
    refine Ev.bind hb ?_
    cases b with
    | false => exact Ev.congr (fun k => by rw [if_neg (by simp)]) hj1
    | true =>
      by_cases hw : (ws.length : Int) > 60
      · exact Ev.congr (fun k => by rw [if_pos rfl, decide_eq_true hw]) hj1
      · exact Ev.congr (fun k => by rw [if_pos rfl, decide_eq_false hw]) (hj0 (hfew rfl) (by omega))
  refine Ev.rounds (Ev.bind alive_ev ?_)
  by_cases h1 : (s.size : Int) > 3000
  · by_cases h2 : (s.size : Int) ≤ 20000
    · exact Ev.congr (fun k => by rw [if_pos rfl, if_pos h1, if_pos h2]) hj1
    · by_cases h3 : (s.size : Int) > 30000
      · exact Ev.congr (fun k => by rw [if_pos rfl, if_pos h1, if_neg h2, if_pos h3]) hj1
      · exact Ev.congr (fun k => by rw [if_pos rfl, if_pos h1, if_neg h2, if_neg h3]) hmid
  · by_cases h3 : (s.size : Int) > 30000
    · exact Ev.congr (fun k => by rw [if_pos rfl, if_neg h1, if_pos h3]) hj1
    · exact Ev.congr (fun k => by rw [if_pos rfl, if_neg h1, if_neg h3]) hmid
end Go.Proofs.YtidojompkihboaaDoor.X
