/- What merging in place comes to, in plain Lean: a rotation, a binary search, the two halves. -/
import Derived.Sort.LotA
namespace Go.Proofs.Ytidojompkihboaa.X
open Go.Sort
section
variable {α : Type} [Inhabited α]
/-- d' is d with [a, m) and [m, b) exchanged. -/
def Rot (a m b : Nat) (d d' : Array α) : Prop :=
  PermIn a b d d' ∧ (∀ t, a ≤ t → t < a + (b - m) → d'[t]! = d[t + (m - a)]!) ∧ (∀ t, a + (b - m) ≤ t → t < b → d'[t]! = d[t - (b - m)]!)
theorem Rot.left (a b : Nat) (d : Array α) : Rot a a b d d :=
  ⟨permIn_refl _ _ _, fun t h1 h2 => by rw [show t + (a - a) = t from by omega], fun t h1 h2 => by omega⟩
theorem Rot.right (a b : Nat) (d : Array α) (h : a ≤ b) : Rot a b b d d :=
  ⟨permIn_refl _ _ _, fun t h1 h2 => by omega, fun t h1 h2 => by rw [show t - (b - b) = t from by omega]⟩
theorem permIn_wide {a b a' b' : Nat} {d d' : Array α} (h : PermIn a b d d') (ha : a' ≤ a) (hb : b ≤ b') (hs : b' ≤ d.size) (hab : a ≤ b) : PermIn a' b' d d' := by
  refine ⟨h.1, fun i hi => h.2.1 i (by omega), ?_⟩
  have hs' : b' ≤ d'.size := by rw [h.1]; exact hs
  have e : ∀ (x : Array α), b' ≤ x.size → (x.extract a' b').toList = (List.range' a' (a - a')).map (fun i => x[i]!) ++ ((x.extract a b).toList ++ (List.range' b (b' - b)).map (fun i => x[i]!)) := by
    intro x hx
    rw [extract_toList x a' b' hx, extract_toList x a b (by omega), ← List.map_append, ← List.map_append]
    congr 1
    rw [show b' - a' = (a - a') + ((b - a) + (b' - b)) from by omega, ← List.range'_append_1, ← List.range'_append_1, show a' + (a - a') = a from by omega, show a + (b - a) = b from by omega]
  rw [e d' hs', e d hs]
  have e1 : (List.range' a' (a - a')).map (fun i => d'[i]!) = (List.range' a' (a - a')).map (fun i => d[i]!) :=
    List.map_congr_left fun i hi => h.2.1 i (by have := List.mem_range'_1.1 hi; omega)
  have e2 : (List.range' b (b' - b)).map (fun i => d'[i]!) = (List.range' b (b' - b)).map (fun i => d[i]!) :=
    List.map_congr_left fun i hi => h.2.1 i (by have := List.mem_range'_1.1 hi; omega)
  rw [e1, e2]
  exact List.Perm.append (List.Perm.refl _) (List.Perm.append h.2.2 (List.Perm.refl _))
/-- One exchange of the swaps of two ranges: the first n places done. -/
structure SwN (a b n : Nat) (d d' : Array α) : Prop where
  perm : PermIn a (b + n) d d'
  lo : ∀ t, a ≤ t → t < a + n → d'[t]! = d[t + (b - a)]!
  hi : ∀ t, b ≤ t → t < b + n → d'[t]! = d[t - (b - a)]!
  out : ∀ t, t < a ∨ (a + n ≤ t ∧ t < b) ∨ b + n ≤ t → d'[t]! = d[t]!
theorem SwN.start (a b : Nat) (d : Array α) : SwN a b 0 d d :=
  ⟨permIn_refl _ _ _, fun t h1 h2 => by omega, fun t h1 h2 => by omega, fun _ _ => rfl⟩
theorem SwN.step {a b n : Nat} {d d' : Array α} (h : SwN a b n d d') (hab : a + n < b) (hs : b + n < d.size) : SwN a b (n + 1) d (swp d' (a + n) (b + n)) := by
  have hsz : d'.size = d.size := h.perm.1
  have g := swp_get d' (i := a + n) (j := b + n) (by omega) (by omega)
  refine ⟨?_, fun t h1 h2 => ?_, fun t h1 h2 => ?_, fun t h1 => ?_⟩
  · have h1 : PermIn a (b + (n + 1)) d d' := permIn_wide h.perm (Nat.le_refl _) (by omega) (by omega) (by omega)
    exact permIn_trans _ _ _ _ _ h1 (swp_permIn d' a (b + (n + 1)) (a + n) (b + n) (by omega) (by omega) (by omega) (by omega) (by omega))
  · rw [g, if_neg (by omega)]
    by_cases ht : t = a + n
    · rw [if_pos ht, h.out _ (by omega), ht, show b + n = a + n + (b - a) from by omega]
    · rw [if_neg ht]; exact h.lo t h1 (by omega)
  · rw [g]
    by_cases ht : t = b + n
    · rw [if_pos ht, h.out _ (by omega), ht, show a + n = b + n - (b - a) from by omega]
    · rw [if_neg ht, if_neg (by omega)]; exact h.hi t h1 (by omega)
  · rw [g, if_neg (by omega), if_neg (by omega)]; exact h.out t (by omega)
/-- The state of a rotation's loop: [m - i, m) and [m, m + j) are yet to be exchanged. -/
structure RotI (a m b i j : Nat) (d dk : Array α) : Prop where
  perm : PermIn a b d dk
  lo : ∀ t, a ≤ t → t < m - i → dk[t]! = (if t < a + (b - m) then d[t + (m - a)]! else d[t - (b - m)]!)
  up : ∀ t, m + j ≤ t → t < b → dk[t]! = (if t < a + (b - m) then d[t + (m - a)]! else d[t - (b - m)]!)
  l : ∀ t, m - i ≤ t → t < m - i + j → dk[t + i]! = (if t < a + (b - m) then d[t + (m - a)]! else d[t - (b - m)]!)
  r : ∀ t, m - i + j ≤ t → t < m + j → dk[t - j]! = (if t < a + (b - m) then d[t + (m - a)]! else d[t - (b - m)]!)
theorem RotI.start (a m b : Nat) (d : Array α) (h1 : a ≤ m) (h2 : m ≤ b) : RotI a m b (m - a) (b - m) d d :=
  ⟨permIn_refl _ _ _, fun t h1 h2 => by omega, fun t h1 h2 => by omega,
   fun t h3 h4 => by rw [if_pos (by omega)], fun t h3 h4 => by rw [if_neg (by omega)]⟩
theorem RotI.gt {a m b i j : Nat} {d dk dn : Array α} (h : RotI a m b i j d dk) (hij : j < i) (hi : a ≤ m - i) (him : i ≤ m) (hj : m + j ≤ b) (hs : b ≤ d.size) (w : SwN (m - i) m j dk dn) : RotI a m b (i - j) j d dn := by
  have hsz : dk.size = d.size := h.perm.1
  refine ⟨?_, fun t h1 h2 => ?_, fun t h1 h2 => ?_, fun t h1 h2 => ?_, fun t h1 h2 => ?_⟩
  · exact permIn_trans _ _ _ _ _ h.perm (permIn_wide w.perm hi hj (by omega) (by omega))
  · by_cases ht : t < m - i
    · rw [w.out t (by omega)]; exact h.lo t h1 ht
    · rw [w.lo t (by omega) (by omega), show t + (m - (m - i)) = t + i from by omega]; exact h.l t (by omega) (by omega)
  · rw [w.out t (by omega)]; exact h.up t h1 h2
  · rw [w.hi (t + (i - j)) (by omega) (by omega), show t + (i - j) - (m - (m - i)) = t - j from by omega]; exact h.r t (by omega) (by omega)
  · rw [w.out (t - j) (by omega)]; exact h.r t (by omega) h2
theorem RotI.lt {a m b i j : Nat} {d dk dn : Array α} (h : RotI a m b i j d dk) (hij : i < j) (hi : a ≤ m - i) (him : i ≤ m) (hj : m + j ≤ b) (hs : b ≤ d.size) (w : SwN (m - i) (m + j - i) i dk dn) : RotI a m b i (j - i) d dn := by
  have hsz : dk.size = d.size := h.perm.1
  refine ⟨?_, fun t h1 h2 => ?_, fun t h1 h2 => ?_, fun t h1 h2 => ?_, fun t h1 h2 => ?_⟩
  · exact permIn_trans _ _ _ _ _ h.perm (permIn_wide w.perm hi (by omega) (by omega) (by omega))
  · rw [w.out t (by omega)]; exact h.lo t h1 h2
  · by_cases ht : m + j ≤ t
    · rw [w.out t (by omega)]; exact h.up t ht h2
    · rw [w.hi t (by omega) (by omega), show t - (m + j - i - (m - i)) = t - j from by omega]; exact h.r t (by omega) (by omega)
  · rw [w.out (t + i) (by omega)]; exact h.l t h1 (by omega)
  · by_cases ht : t - (j - i) < m
    · rw [w.lo (t - (j - i)) (by omega) (by omega), show t - (j - i) + (m + j - i - (m - i)) = t + i from by omega]
      exact h.l t (by omega) (by omega)
    · omega
theorem RotI.done {a m b i : Nat} {d dk dn : Array α} (h : RotI a m b i i d dk) (hi : a ≤ m - i) (him : i ≤ m) (hj : m + i ≤ b) (hab : a ≤ m ∧ m ≤ b) (hs : b ≤ d.size) (w : SwN (m - i) m i dk dn) : Rot a m b d dn := by
  have hsz : dk.size = d.size := h.perm.1
  have key : ∀ t, a ≤ t → t < b → dn[t]! = (if t < a + (b - m) then d[t + (m - a)]! else d[t - (b - m)]!) := by
    intro t h1 h2
    by_cases c1 : t < m - i
    · rw [w.out t (by omega)]; exact h.lo t h1 c1
    · by_cases c2 : t < m
      · rw [w.lo t (by omega) (by omega), show t + (m - (m - i)) = t + i from by omega]; exact h.l t (by omega) (by omega)
      · by_cases c3 : t < m + i
        · rw [w.hi t (by omega) (by omega), show t - (m - (m - i)) = t - i from by omega]; exact h.r t (by omega) (by omega)
        · rw [w.out t (by omega)]; exact h.up t (by omega) h2
  refine ⟨permIn_trans _ _ _ _ _ h.perm (permIn_wide w.perm hi hj (by omega) (by omega)), fun t h1 h2 => ?_, fun t h1 h2 => ?_⟩
  · rw [key t h1 (by omega), if_pos h2]
  · rw [key t (by omega) h2, if_neg (by omega)]
variable {lt : α → α → Bool}
/-- Behind the rotation: the four parts are sorted, and the left half is nowhere above the right one. -/
structure Parts (lt : α → α → Bool) (a s mid e b : Nat) (d : Array α) : Prop where
  p1 : SortedIn lt a s d
  p2 : SortedIn lt s mid d
  p3 : SortedIn lt mid e d
  p4 : SortedIn lt e b d
  le : ∀ i j, a ≤ i → i < mid → mid ≤ j → j < b → lt d[j]! d[i]! = false
theorem sorted_le (hS : SWO lt) {a b : Nat} {d : Array α} (h : SortedIn lt a b d) (i j : Nat) (h1 : a ≤ i) (h2 : i ≤ j) (h3 : j < b) : lt d[j]! d[i]! = false := by
  by_cases he : i = j
  · subst he; exact hS.irrefl _
  · exact h i j h1 (by omega) h3
theorem parts_of (hS : SWO lt) {a m b s mid e : Nat} {d d1 : Array α} (hab : a < m) (hmb : m < b) (hmid : mid = (a + b) / 2) (he : e = mid + m - s) (h1 : SortedIn lt a m d) (h2 : SortedIn lt m b d) (has : a ≤ s) (hsm : s ≤ m) (hsmid : s ≤ mid) (heb : e ≤ b)
    (hlo : s = a ∨ e = b ∨ (0 < s ∧ a < s ∧ e < b ∧ lt d[e]! d[s - 1]! = false)) (hhi : s = m ∨ m = e ∨ (m < e ∧ s < m ∧ lt d[e - 1]! d[s]! = true)) (hr : Rot s m e d d1) : Parts lt a s mid e b d1 := by
  obtain ⟨hp, hl, hr⟩ := hr
  have k1 : ∀ t, t < s ∨ e ≤ t → d1[t]! = d[t]! := hp.2.1
  have k2 : ∀ t, s ≤ t → t < mid → d1[t]! = d[t + (m - s)]! := fun t ha hb => hl t ha (by omega)
  have k3 : ∀ t, mid ≤ t → t < e → d1[t]! = d[t - (e - m)]! := fun t ha hb => hr t (by omega) hb
  refine ⟨?_, ?_, ?_, ?_, ?_⟩
  · intro i j x y z; rw [k1 i (by omega), k1 j (by omega)]; exact h1 i j x y (by omega)
  · intro i j x y z; rw [k2 i x (by omega), k2 j (by omega) z]; exact h2 _ _ (by omega) (by omega) (by omega)
  · intro i j x y z; rw [k3 i x (by omega), k3 j (by omega) z]; exact h1 _ _ (by omega) (by omega) (by omega)
  · intro i j x y z; rw [k1 i (by omega), k1 j (by omega)]; exact h2 i j (by omega) y z
  · intro i j x1 x2 y1 y2
    by_cases ci : i < s
    · rw [k1 i (.inl ci)]
      by_cases cj : j < e
      · rw [k3 j y1 cj]; exact h1 _ _ x1 (by omega) (by omega)
      · rw [k1 j (by omega)]
        rcases hlo with h | h | ⟨_, _, h3, h4⟩
        · omega
        · omega
        · exact hS.ntrans _ _ _ (sorted_le hS h2 e j (by omega) (by omega) y2) (hS.ntrans _ _ _ h4 (sorted_le hS h1 i (s - 1) x1 (by omega) (by omega)))
    · rw [k2 i (by omega) x2]
      by_cases cj : j < e
      · rw [k3 j y1 cj]
        rcases hhi with h | h | ⟨h3, h4, h5⟩
        · omega
        · omega
        · exact hS.ntrans _ _ _ (sorted_le hS h1 s (j - (e - m)) has (by omega) (by omega)) (hS.ntrans _ _ _ (hS.asymmA h5) (sorted_le hS h2 (i + (m - s)) (e - 1) (by omega) (by omega) (by omega)))
      · rw [k1 j (by omega)]; exact h2 _ _ (by omega) (by omega) y2
/-- The two halves, each sorted in itself, are the whole. -/
theorem parts_join {a mid b s e : Nat} {d1 d3 : Array α} (hp : Parts lt a s mid e b d1) (ham : a ≤ mid) (hmb : mid ≤ b) (hs : b ≤ d1.size) (d2 : Array α) (hA : PermIn a mid d1 d2) (sA : SortedIn lt a mid d2) (hB : PermIn mid b d2 d3) (sB : SortedIn lt mid b d3) :
    PermIn a b d1 d3 ∧ SortedIn lt a b d3 := by
  have hs2 : d2.size = d1.size := hA.1
  refine ⟨permIn_trans _ _ _ _ _ (permIn_wide hA (Nat.le_refl _) hmb hs ham) (permIn_wide hB ham (Nat.le_refl _) (by omega) hmb), fun i j x y z => ?_⟩
  by_cases cj : j < mid
  · rw [hB.2.1 i (by omega), hB.2.1 j (by omega)]; exact sA i j x y cj
  · by_cases ci : i < mid
    · rw [hB.2.1 i (by omega)]
      have q1 : ∀ x, mid ≤ x → x < b → lt d3[x]! d2[i]! = false := by
        refine permIn_all d2 d3 mid b (fun v => lt v d2[i]! = false) (by omega) hB (fun k hk1 hk2 => ?_)
        rw [hA.2.1 k (by omega)]
        exact permIn_all d1 d2 a mid (fun v => lt d1[k]! v = false) (by omega) hA (fun k' hk3 hk4 => hp.le k' k hk3 hk4 hk1 hk2) i x ci
      exact q1 j (by omega) z
    · exact sB i j (by omega) y z
/-- The first of all is put in its place among the others. -/
structure UpI (a k : Nat) (d dk : Array α) : Prop where
  perm : PermIn a (k + 1) d dk
  lo : ∀ t, a ≤ t → t < k → dk[t]! = d[t + 1]!
  at_ : dk[k]! = d[a]!
theorem UpI.start (a : Nat) (d : Array α) : UpI a a d d := ⟨permIn_refl _ _ _, fun t h1 h2 => by omega, rfl⟩
theorem UpI.step {a k : Nat} {d dk : Array α} (h : UpI a k d dk) (hak : a ≤ k) (hs : k + 1 < d.size) : UpI a (k + 1) d (swp dk k (k + 1)) := by
  have hsz : dk.size = d.size := h.perm.1
  have g := swp_get dk (i := k) (j := k + 1) (by omega) (by omega)
  refine ⟨?_, fun t h1 h2 => ?_, ?_⟩
  · exact permIn_trans _ _ _ _ _ (permIn_wide h.perm (Nat.le_refl _) (by omega) (by omega) (by omega)) (swp_permIn dk a (k + 1 + 1) k (k + 1) (by omega) (by omega) (by omega) (by omega) (by omega))
  · rw [g, if_neg (by omega)]
    by_cases ht : t = k
    · rw [if_pos ht, h.perm.2.1 (k + 1) (by omega), ht]
    · rw [if_neg ht]; exact h.lo t h1 (by omega)
  · rw [g, if_pos rfl]; exact h.at_
theorem UpI.done (hS : SWO lt) {a i b : Nat} {d dk : Array α} (h : UpI a (i - 1) d dk) (hai : a + 1 ≤ i) (hib : i ≤ b) (hs : b ≤ d.size) (h2 : SortedIn lt (a + 1) b d) (hlo : ∀ t, a + 1 ≤ t → t < i → lt d[t]! d[a]! = true) (hhi : ∀ t, i ≤ t → t < b → lt d[t]! d[a]! = false) :
    PermIn a b d dk ∧ SortedIn lt a b dk := by
  have hp : PermIn a i d dk := by have := h.perm; rwa [show i - 1 + 1 = i from by omega] at this
  refine ⟨permIn_wide hp (Nat.le_refl _) hib hs (by omega), fun x y h3 h4 h5 => ?_⟩
  by_cases cy : y < i - 1
  · rw [h.lo x h3 (by omega), h.lo y (by omega) cy]; exact h2 _ _ (by omega) (by omega) (by omega)
  · by_cases cy2 : y = i - 1
    · rw [cy2, h.at_, h.lo x h3 (by omega)]; exact hS.asymmA (hlo _ (by omega) (by omega))
    · rw [hp.2.1 y (by omega)]
      by_cases cx : x < i - 1
      · rw [h.lo x h3 cx]; exact h2 _ _ (by omega) (by omega) h5
      · by_cases cx2 : x = i - 1
        · rw [cx2, h.at_]; exact hhi y (by omega) h5
        · rw [hp.2.1 x (by omega)]; exact h2 _ _ (by omega) h4 h5
/-- The last of all is put in its place among the others. -/
structure DnI (m k : Nat) (d dk : Array α) : Prop where
  perm : PermIn k (m + 1) d dk
  hi : ∀ t, k < t → t ≤ m → dk[t]! = d[t - 1]!
  at_ : dk[k]! = d[m]!
theorem DnI.start (m : Nat) (d : Array α) : DnI m m d d := ⟨permIn_refl _ _ _, fun t h1 h2 => by omega, rfl⟩
theorem DnI.step {m k : Nat} {d dk : Array α} (h : DnI m (k + 1) d dk) (hkm : k + 1 ≤ m) (hs : m < d.size) : DnI m k d (swp dk (k + 1) k) := by
  have hsz : dk.size = d.size := h.perm.1
  have g := swp_get dk (i := k + 1) (j := k) (by omega) (by omega)
  refine ⟨?_, fun t h1 h2 => ?_, ?_⟩
  · exact permIn_trans _ _ _ _ _ (permIn_wide h.perm (by omega) (Nat.le_refl _) (by omega) (by omega)) (swp_permIn dk k (m + 1) (k + 1) k (by omega) (by omega) (by omega) (by omega) (by omega))
  · rw [g, if_neg (by omega)]
    by_cases ht : t = k + 1
    · rw [if_pos ht, h.perm.2.1 k (by omega), ht, Nat.add_sub_cancel]
    · rw [if_neg ht]; exact h.hi t (by omega) h2
  · rw [g, if_pos rfl]; exact h.at_
theorem DnI.done (hS : SWO lt) {a i m : Nat} {d dk : Array α} (h : DnI m i d dk) (hai : a ≤ i) (him : i ≤ m) (hs : m < d.size) (h1 : SortedIn lt a m d) (hlo : ∀ t, a ≤ t → t < i → lt d[m]! d[t]! = false) (hhi : ∀ t, i ≤ t → t < m → lt d[m]! d[t]! = true) :
    PermIn a (m + 1) d dk ∧ SortedIn lt a (m + 1) dk := by
  have hp : PermIn i (m + 1) d dk := h.perm
  refine ⟨permIn_wide hp hai (Nat.le_refl _) (by omega) (by omega), fun x y h3 h4 h5 => ?_⟩
  by_cases cx : x < i
  · rw [hp.2.1 x (by omega)]
    by_cases cy : y < i
    · rw [hp.2.1 y (by omega)]; exact h1 _ _ h3 h4 (by omega)
    · by_cases cy2 : y = i
      · rw [cy2, h.at_]; exact hlo x h3 cx
      · rw [h.hi y (by omega) (by omega)]; exact h1 _ _ h3 (by omega) (by omega)
  · rw [h.hi y (by omega) (by omega)]
    by_cases cx2 : x = i
    · rw [cx2, h.at_]; exact hS.asymmA (hhi _ (by omega) (by omega))
    · rw [h.hi x (by omega) (by omega)]; exact h1 _ _ (by omega) (by omega) (by omega)
end
end Go.Proofs.Ytidojompkihboaa.X
