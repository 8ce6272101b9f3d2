/- What any facts come to, in plain Lean: by rising keys, each once, none of nothing: it is fixed by the sum of each key. -/
import Derived.Test.YtidojompkihboaaRuns
import Derived.Test.YtidojompkihboaaOrd
import Derived.Test.YtidojompkihboaaMerge
namespace Go.Proofs.Ytidojompkihboaa.X
open Go.Sort

def sortL (l : List S40) : List S40 := (Sort.insertionSort (ltOf cfF) l.toArray 0 l.length).toList
def sumL (l : List S40) : Int := (l.map (·.f1)).foldl (· + ·) 0
def absL (l : List S40) : Nat := (l.map (·.f1.natAbs)).sum
/-- What is kept of the facts of one key. -/
def keepL (c : List S40) : List S40 := match c with
  | [] => []
  | x :: r => if sumL (x :: r) = 0 then [] else [⟨x.f0, sumL (x :: r)⟩]
def ofL (l : List S40) : List S40 := (runsF l.length (sortL l)).flatMap keepL
theorem runLen_le (t : List S40) : runLen t ≤ t.length := by
  cases t with
  | nil => exact Nat.le_refl _
  | cons x r => rw [runLen, List.length_cons]; have := (List.takeWhile_sublist (l := r) (fun y : S40 => sameK y.f0 x.f0)).length_le; omega
theorem runLen_pos (x : S40) (r : List S40) : 1 ≤ runLen (x :: r) := by rw [runLen]; omega
theorem absL_app (a b : List S40) : absL (a ++ b) = absL a + absL b := by simp [absL]
theorem keepL_len (c : List S40) : (keepL c).length ≤ 1 := by
  unfold keepL
  split
  · simp
  · split <;> simp
theorem runsF_len : ∀ (n : Nat) (t : List S40), (runsF n t).length ≤ n
  | 0, t => by cases t <;> exact Nat.le_refl _
  | n + 1, [] => by show 0 ≤ n + 1; omega
  | n + 1, x :: r => by rw [runsF, List.length_cons]; have := runsF_len n ((x :: r).drop (runLen (x :: r))); omega
theorem flat_keep (ch : List (List S40)) : (ch.flatMap keepL).length ≤ ch.length := by
  induction ch with
  | nil => exact Nat.le_refl _
  | cons x r ih => rw [List.flatMap_cons, List.length_append, List.length_cons]; have := keepL_len x; omega
theorem ofL_len (l : List S40) : (ofL l).length ≤ l.length := Nat.le_trans (flat_keep _) (runsF_len _ _)
theorem foldl_add (l : List Int) : ∀ a : Int, l.foldl (· + ·) a = a + l.foldl (· + ·) 0 := by
  induction l with
  | nil => intro a; simp
  | cons x r ih => intro a; rw [List.foldl_cons, List.foldl_cons, ih (a + x), ih (0 + x)]; omega
theorem sumL_app (a b : List S40) : sumL (a ++ b) = sumL a + sumL b := by
  unfold sumL
  rw [List.map_append, List.foldl_append, foldl_add]
theorem sumL_cons (x : S40) (r : List S40) : sumL (x :: r) = x.f1 + sumL r := by
  rw [show x :: r = [x] ++ r from rfl, sumL_app]; simp [sumL]
theorem sumL_abs (l : List S40) : -(absL l : Int) ≤ sumL l ∧ sumL l ≤ absL l := by
  induction l with
  | nil => exact ⟨by simp [absL, sumL], by simp [absL, sumL]⟩
  | cons x r ih =>
    have h1 := sumL_cons x r
    have h2 : absL (x :: r) = x.f1.natAbs + absL r := by simp [absL]
    omega
theorem absL_take (l : List S40) (n : Nat) : absL (l.take n) ≤ absL l := by
  have := absL_app (l.take n) (l.drop n)
  rw [List.take_append_drop] at this
  omega
theorem sumL_bound (l : List S40) (n : Nat) (h : absL l < 4611686018427387904) : -4611686018427387904 < sumL (l.take n) ∧ sumL (l.take n) < 4611686018427387904 := by
  have h1 := sumL_abs (l.take n)
  have h2 := absL_take l n
  omega
theorem sumL_take (l : List S40) (i : Int) (h0 : 0 ≤ i) (h1 : i < l.length) : sumL (l.take (i + 1).toNat) = sumL (l.take i.toNat) + (rd_T40 l i).f1 := by
  have hn : i.toNat < l.length := by omega
  rw [show (i + 1).toNat = i.toNat + 1 from by omega, List.take_succ_eq_append_getElem hn, sumL_app]
  have : rd_T40 l i = l[i.toNat] := by
    have := rdF hn
    rwa [show ((i.toNat : Nat) : Int) = i from by omega] at this
  rw [this]; simp [sumL]
theorem abs_at (l : List S40) (i : Int) (h0 : 0 ≤ i) (h1 : i < l.length) : (rd_T40 l i).f1.natAbs ≤ absL l := by
  have hn : i.toNat < l.length := by omega
  have : rd_T40 l i = l[i.toNat] := by
    have := rdF hn
    rwa [show ((i.toNat : Nat) : Int) = i from by omega] at this
  rw [this]
  have h2 := absL_app (l.take i.toNat) (l.drop i.toNat)
  rw [List.take_append_drop, List.drop_eq_getElem_cons hn] at h2
  have h3 : absL (l[i.toNat] :: l.drop (i.toNat + 1)) = l[i.toNat].f1.natAbs + absL (l.drop (i.toNat + 1)) := by unfold absL; rw [List.map_cons, List.sum_cons]
  omega
theorem inner_size (lt : S40 → S40 → Bool) (a : Nat) : ∀ (j : Nat) (d : Array S40), (Sort.insInner lt a j d).size = d.size
  | 0, d => rfl
  | j + 1, d => by
    rw [Sort.insInner]
    split
    · rw [inner_size lt a j]; simp [Sort.swp]
    · rfl
theorem outer_size (lt : S40 → S40 → Bool) (a b : Nat) : ∀ (n i : Nat) (d : Array S40), b - i = n → (Sort.insOuter lt a b i d).size = d.size := by
  intro n
  induction n with
  | zero => intro i d h; rw [Sort.insOuter, if_neg (by omega)]
  | succ n ih => intro i d h; rw [Sort.insOuter, if_pos (by omega), ih _ _ (by omega), inner_size]
theorem sort_size (lt : S40 → S40 → Bool) (d : Array S40) (a b : Nat) : (Sort.insertionSort lt d a b).size = d.size := outer_size lt a b _ _ d rfl

theorem sameK_iff (x y : S30) : sameK x y = true ↔ x = y := by
  unfold sameK
  obtain ⟨a0, a1, a2, a3, a4⟩ := x
  obtain ⟨b0, b1, b2, b3, b4⟩ := y
  have hb : ∀ a b : ByteArray, a.toList = b.toList ↔ a = b := fun a b => ⟨fun h => by
    have h2 : a.data.toList = b.data.toList := by rw [← ByteArray.toList_eq, ← ByteArray.toList_eq, h]
    exact bytes_inj h2, fun h => by rw [h]⟩
  simp only [Bool.and_eq_true, beq_iff_eq, hb, S30.mk.injEq]
/-- The sum of a key's facts. -/
def sK (k : S30) : List S40 → Int
  | [] => 0
  | x :: r => (if sameK x.f0 k then x.f1 else 0) + sK k r
theorem sK_app (k : S30) (a b : List S40) : sK k (a ++ b) = sK k a + sK k b := by
  induction a with
  | nil => simp [sK]
  | cons x r ih => rw [List.cons_append, sK, sK, ih]; omega
theorem sK_perm (k : S30) {a b : List S40} (h : a.Perm b) : sK k a = sK k b := by
  induction h with
  | nil => rfl
  | cons x _ ih => rw [sK, sK, ih]
  | swap x y l => rw [sK, sK, sK, sK]; omega
  | trans _ _ ih1 ih2 => exact ih1.trans ih2
theorem absL_perm {a b : List S40} (h : a.Perm b) : absL a = absL b := by
  induction h with
  | nil => rfl
  | cons x _ ih => simp only [absL, List.map_cons, List.sum_cons] at ih ⊢; omega
  | swap x y l => simp only [absL, List.map_cons, List.sum_cons]; omega
  | trans _ _ ih1 ih2 => exact ih1.trans ih2
theorem sK_none (k : S30) (a : List S40) (h : ∀ x ∈ a, x.f0 ≠ k) : sK k a = 0 := by
  induction a with
  | nil => rfl
  | cons x r ih =>
    rw [sK, ih (fun y hy => h y (List.mem_cons_of_mem _ hy)), if_neg (fun e => h x List.mem_cons_self ((sameK_iff _ _).1 e))]; rfl
theorem sK_all (k : S30) (a : List S40) (h : ∀ x ∈ a, x.f0 = k) : sK k a = sumL a := by
  induction a with
  | nil => rfl
  | cons x r ih =>
    rw [sK, sumL_cons, ih (fun y hy => h y (List.mem_cons_of_mem _ hy)), if_pos ((sameK_iff _ _).2 (h x List.mem_cons_self))]
/-- A cube: rising keys, each once, none of nothing. -/
def Canon (c : List S40) : Prop := c.Pairwise (fun x y => cmpK x.f0 y.f0 < 0) ∧ ∀ x ∈ c, x.f1 ≠ 0
theorem Canon.nil : Canon [] := ⟨List.Pairwise.nil, fun _ h => absurd h (by simp)⟩
theorem Canon.tail {x : S40} {r : List S40} (h : Canon (x :: r)) : Canon r := ⟨(List.pairwise_cons.1 h.1).2, fun y hy => h.2 y (List.mem_cons_of_mem _ hy)⟩
theorem Canon.sub {a b : List S40} (h : Canon b) (hs : a.Sublist b) : Canon a := ⟨h.1.sublist hs, fun x hx => h.2 x (hs.mem hx)⟩
theorem lt_ne {x y : S30} (h : cmpK x y < 0) : y ≠ x := by
  intro e; have := (key3.eq x y).2 e.symm; omega
theorem Canon.head {x : S40} {r : List S40} (h : Canon (x :: r)) : sK x.f0 (x :: r) = x.f1 := by
  rw [sK, if_pos ((sameK_iff _ _).2 rfl), sK_none _ _ (fun y hy => lt_ne ((List.pairwise_cons.1 h.1).1 y hy))]; omega
theorem Canon.under {x : S40} {r : List S40} (h : Canon (x :: r)) (k : S30) (hk : cmpK k x.f0 < 0) : sK k (x :: r) = 0 := by
  refine sK_none _ _ fun y hy => ?_
  rcases List.mem_cons.1 hy with rfl | hy
  · exact lt_ne hk
  · exact lt_ne (key3.lt hk (Int.le_of_lt ((List.pairwise_cons.1 h.1).1 y hy)))
theorem canon_one : ∀ (a b : List S40), Canon a → Canon b → (∀ k, sK k a = sK k b) → a = b
  | [], [], _, _, _ => rfl
  | x :: r, [], ha, _, h => by
    have h1 := h x.f0
    rw [ha.head] at h1
    exact absurd h1 (ha.2 x List.mem_cons_self)
  | [], y :: t, _, hb, h => by
    have h1 := h y.f0
    rw [hb.head] at h1
    exact absurd h1.symm (hb.2 y List.mem_cons_self)
  | x :: r, y :: t, ha, hb, h => by
    have e : x.f0 = y.f0 := by
      rcases Int.lt_trichotomy (cmpK x.f0 y.f0) 0 with c | c | c
      · have h1 := h x.f0
        rw [ha.head, hb.under _ c] at h1
        exact absurd h1 (ha.2 x List.mem_cons_self)
      · exact (key3.eq _ _).1 c
      · have c' : cmpK y.f0 x.f0 < 0 := by have := key3.anti x.f0 y.f0; omega
        have h1 := h y.f0
        rw [hb.head, ha.under _ c'] at h1
        exact absurd h1.symm (hb.2 y List.mem_cons_self)
    have e1 : x.f1 = y.f1 := by
      have h1 := h x.f0
      rw [ha.head, e, hb.head] at h1
      exact h1
    have exy : x = y := by
      cases x; cases y
      simp only at e e1
      rw [e, e1]
    subst exy
    rw [canon_one r t ha.tail hb.tail (fun k => by have := h k; rw [sK, sK] at this; omega)]
/-- Rising, not strictly. -/
def Up (t : List S40) : Prop := t.Pairwise (fun x y => cmpK x.f0 y.f0 ≤ 0)
theorem mem_tw {α : Type} (p : α → Bool) : ∀ (l : List α) y, y ∈ l.takeWhile p → p y = true
  | [], y, h => absurd h (by simp)
  | x :: r, y, h => by
    cases hx : p x with
    | false => rw [List.takeWhile_cons_of_neg (by simp [hx])] at h; exact absurd h (by simp)
    | true =>
      rw [List.takeWhile_cons_of_pos hx] at h
      rcases List.mem_cons.1 h with rfl | h
      · exact hx
      · exact mem_tw p r y h
theorem head_dw {α : Type} (p : α → Bool) : ∀ (l : List α) z t, l.dropWhile p = z :: t → p z = false
  | [], z, t, h => absurd h (by simp)
  | x :: r, z, t, h => by
    cases hx : p x with
    | false => rw [List.dropWhile_cons_of_neg (by simp [hx])] at h; injection h with h1 _; rw [← h1]; exact hx
    | true => rw [List.dropWhile_cons_of_pos hx] at h; exact head_dw p r z t h
theorem takeK_all (x : S40) (r : List S40) : ∀ y ∈ (x :: r).take (runLen (x :: r)), y.f0 = x.f0 := by
  intro y hy
  rw [runLen, Nat.add_comm, List.take_succ_cons] at hy
  rcases List.mem_cons.1 hy with rfl | hy
  · rfl
  · have e : r.take (r.takeWhile fun y => sameK y.f0 x.f0).length = r.takeWhile fun y => sameK y.f0 x.f0 := by
      conv => lhs; arg 2; rw [← List.takeWhile_append_dropWhile (p := fun y : S40 => sameK y.f0 x.f0) (l := r)]
      rw [List.take_left]
    rw [e] at hy
    exact (sameK_iff _ _).1 (mem_tw (fun y : S40 => sameK y.f0 x.f0) r y hy)
theorem dropK_all (x : S40) (r : List S40) (hu : Up (x :: r)) : ∀ y ∈ (x :: r).drop (runLen (x :: r)), cmpK x.f0 y.f0 < 0 := by
  intro y hy
  rw [runLen, Nat.add_comm, List.drop_succ_cons] at hy
  have e : r.drop (r.takeWhile fun y => sameK y.f0 x.f0).length = r.dropWhile fun y => sameK y.f0 x.f0 := by
    conv => lhs; arg 2; rw [← List.takeWhile_append_dropWhile (p := fun y : S40 => sameK y.f0 x.f0) (l := r)]
    rw [List.drop_left]
  rw [e] at hy
  have hr : Up r := (List.pairwise_cons.1 hu).2
  have hs : (r.dropWhile fun y => sameK y.f0 x.f0).Sublist r := List.dropWhile_sublist _
  have hd : Up (r.dropWhile fun y => sameK y.f0 x.f0) := hr.sublist hs
  cases hc : (r.dropWhile fun y => sameK y.f0 x.f0) with
  | nil => rw [hc] at hy; exact absurd hy (by simp)
  | cons z t =>
    rw [hc] at hy hd
    have hz : ¬ sameK z.f0 x.f0 = true := by
      have := head_dw (fun y : S40 => sameK y.f0 x.f0) r z t hc
      simpa using this
    have hxz : cmpK x.f0 z.f0 ≤ 0 := (List.pairwise_cons.1 hu).1 z (hs.mem (by rw [hc]; exact List.mem_cons_self))
    have hxz' : cmpK x.f0 z.f0 < 0 := by
      rcases Int.lt_or_eq_of_le hxz with h | h
      · exact h
      · exact absurd ((sameK_iff _ _).2 ((key3.eq _ _).1 h).symm) hz
    rcases List.mem_cons.1 hy with rfl | hy
    · exact hxz'
    · exact key3.lt hxz' ((List.pairwise_cons.1 hd).1 y hy)
theorem runs_canon : ∀ (n : Nat) (t : List S40), t.length ≤ n → Up t → Canon ((runsF n t).flatMap keepL) ∧ (∀ k, sK k ((runsF n t).flatMap keepL) = sK k t) ∧ ∀ z ∈ (runsF n t).flatMap keepL, ∃ y ∈ t, z.f0 = y.f0
  | 0, t, hn, _ => by
    obtain rfl : t = [] := List.eq_nil_of_length_eq_zero (by omega)
    exact ⟨Canon.nil, fun _ => rfl, fun z hz => absurd hz (by simp [runsF])⟩
  | n + 1, [], _, _ => ⟨Canon.nil, fun _ => rfl, fun z hz => absurd hz (by simp [runsF])⟩
  | n + 1, x :: r, hn, hu => by
    have hp := runLen_pos x r
    have hle := runLen_le (x :: r)
    have hud : Up ((x :: r).drop (runLen (x :: r))) := hu.sublist (List.drop_sublist _ _)
    obtain ⟨i1, i2, i3⟩ := runs_canon n ((x :: r).drop (runLen (x :: r))) (by rw [List.length_drop]; omega) hud
    have ht := takeK_all x r
    have hd := dropK_all x r hu
    rw [runsF, List.flatMap_cons]
    generalize hT : (x :: r).take (runLen (x :: r)) = T at ht ⊢
    generalize hD : (x :: r).drop (runLen (x :: r)) = D at hd i1 i2 i3 ⊢
    generalize (runsF n D).flatMap keepL = R at i1 i2 i3 ⊢
    have hsum : ∀ k, sK k (x :: r) = sK k T + sK k D := fun k => by rw [← sK_app, ← hT, ← hD, List.take_append_drop]
    obtain ⟨T', hT'⟩ : ∃ T', T = x :: T' := by
      rw [← hT, show runLen (x :: r) = (runLen (x :: r) - 1) + 1 from by omega, List.take_succ_cons]; exact ⟨_, rfl⟩
    have hkeep : keepL T = if sumL T = 0 then [] else [⟨x.f0, sumL T⟩] := by rw [hT']; rfl
    have hRgt : ∀ z ∈ R, cmpK x.f0 z.f0 < 0 := fun z hz => by obtain ⟨y, hy, e⟩ := i3 z hz; rw [e]; exact hd y hy
    have hTk : ∀ k, sK k T = if sameK x.f0 k then sumL T else 0 := by
      intro k
      by_cases hk : sameK x.f0 k = true
      · rw [if_pos hk]; exact sK_all k T fun y hy => (ht y hy).trans ((sameK_iff _ _).1 hk)
      · rw [if_neg hk]; exact sK_none k T fun y hy e => hk ((sameK_iff _ _).2 ((ht y hy).symm.trans e))
    rw [hkeep]
    by_cases h0 : sumL T = 0
    · rw [if_pos h0, List.nil_append]
      refine ⟨i1, fun k => ?_, fun z hz => ?_⟩
      · rw [hsum, hTk, i2, h0]; split <;> omega
      · obtain ⟨y, hy, e⟩ := i3 z hz
        exact ⟨y, by rw [← hD] at hy; exact List.mem_of_mem_drop hy, e⟩
    · rw [if_neg h0, List.singleton_append]
      refine ⟨⟨List.pairwise_cons.2 ⟨fun z hz => hRgt z hz, i1.1⟩, fun z hz => ?_⟩, fun k => ?_, fun z hz => ?_⟩
      · rcases List.mem_cons.1 hz with rfl | hz
        · exact h0
        · exact i1.2 z hz
      · rw [sK, i2, hsum, hTk]
      · rcases List.mem_cons.1 hz with rfl | hz
        · exact ⟨x, List.mem_cons_self, rfl⟩
        · obtain ⟨y, hy, e⟩ := i3 z hz
          exact ⟨y, by rw [← hD] at hy; exact List.mem_of_mem_drop hy, e⟩
theorem up_of_sorted (d : Array S40) (h : SortedIn (ltOf cfF) 0 d.size d) : Up d.toList := by
  unfold Up
  rw [List.pairwise_iff_getElem]
  intro i j hi hj hij
  have := h i j (Nat.zero_le _) hij (by simpa using hj)
  rw [getElem!_pos d i (by simpa using hi), getElem!_pos d j (by simpa using hj)] at this
  have h2 : ¬ cmpK d[j].f0 d[i].f0 < 0 := of_decide_eq_false this
  have h3 := key3.anti d[j].f0 d[i].f0
  show cmpK d[i].f0 d[j].f0 ≤ 0
  omega
theorem perm_of_in (d d' : Array S40) (h : PermIn 0 d.size d d') : d'.toList.Perm d.toList := by
  have h1 := h.2.2
  have e1 : d'.extract 0 d.size = d' := by rw [← h.1]; exact Array.extract_size
  have e2 : d.extract 0 d.size = d := Array.extract_size
  rwa [e1, e2] at h1
theorem sortL_up (l : List S40) : Up (sortL l) ∧ (sortL l).Perm l := by
  obtain ⟨h1, h2⟩ := insertionSort_holds ord_facts l.toArray 0 l.length (Nat.zero_le _) (by simp)
  have hsz : (Sort.insertionSort (ltOf cfF) l.toArray 0 l.length).size = l.length := by rw [sort_size]; simp
  refine ⟨up_of_sorted _ (by rw [hsz]; exact h2), ?_⟩
  have := perm_of_in l.toArray _ (by simpa using h1)
  simpa [sortL] using this
/-- What any facts come to: a cube, with the sum of each key. -/
theorem ofL_canon (l : List S40) : Canon (ofL l) ∧ ∀ k, sK k (ofL l) = sK k l := by
  obtain ⟨h1, h2⟩ := sortL_up l
  obtain ⟨i1, i2, _⟩ := runs_canon l.length (sortL l) (by rw [h2.length_eq]; exact Nat.le_refl _) h1
  exact ⟨i1, fun k => (i2 k).trans (sK_perm k h2)⟩
theorem ofL_of (t l : List S40) (hu : Up t) (hp : t.Perm l) : (runsF t.length t).flatMap keepL = ofL l := by
  obtain ⟨i1, i2, _⟩ := runs_canon t.length t (Nat.le_refl _) hu
  obtain ⟨j1, j2⟩ := ofL_canon l
  exact canon_one _ _ i1 j1 fun k => (i2 k).trans ((sK_perm k hp).trans (j2 k).symm)
/-- A cube is what it comes to itself. -/
theorem ofL_self (c : List S40) (h : Canon c) : ofL c = c := canon_one _ _ (ofL_canon c).1 h (ofL_canon c).2
theorem ofL_zero (l : List S40) (h : ∀ k, sK k l = 0) : ofL l = [] := canon_one _ _ (ofL_canon l).1 Canon.nil fun k => ((ofL_canon l).2 k).trans (h k)
end Go.Proofs.Ytidojompkihboaa.X
