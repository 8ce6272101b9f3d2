/- slices.Clone of facts, and what is then sorted, as lists of facts. -/
import Derived.Test.YtidojompkihboaaSort
import Derived.Shelf.SlicesE.Clone
namespace Go.Proofs.Ytidojompkihboaa.X
open Go.RowKit Go.Shelf Go.Sort Go.Proofs.YtidojompkihboaaW.PrintWords Go.Proofs.YtidojompkihboaaW.PrintLast Go.Proofs.YtidojompkihboaaW.PrintMore

theorem flat_get (l : List S40) : ∀ j : Nat, (l.flatMap enc40)[j]? = (l[j / 6]?).bind fun x => (enc40 x)[j % 6]? := by
  induction l with
  | nil => intro j; simp
  | cons x r ih =>
    intro j
    rw [List.flatMap_cons]
    by_cases h : j < 6
    · rw [List.getElem?_append_left (by exact h), Nat.div_eq_of_lt h, Nat.mod_eq_of_lt h]; rfl
    · rw [List.getElem?_append_right (by show 6 ≤ j; omega), show (enc40 x).length = 6 from rfl, ih (j - 6), show j / 6 = (j - 6) / 6 + 1 from by omega, show j % 6 = (j - 6) % 6 from by omega]; rfl
theorem flat_len (l : List S40) : (l.flatMap enc40).length = l.length * 6 := by
  induction l with
  | nil => rfl
  | cons x r ih => rw [List.flatMap_cons, List.length_append, ih, List.length_cons, show (enc40 x).length = 6 from rfl]; omega
theorem k40_enc {w : World} {x : S40} {c : List Value} (h : k40.K w x c) : c = enc40 x := by
  obtain ⟨_, _, rfl, hk, rfl⟩ := h
  obtain ⟨_, _, rfl, rfl, hk⟩ := hk
  obtain ⟨_, _, rfl, rfl, hk⟩ := hk
  obtain ⟨_, _, rfl, rfl, hk⟩ := hk
  obtain ⟨_, _, rfl, rfl, rfl⟩ := hk
  rfl
theorem enc_at (x : S40) (i : Nat) (h : i < 6) : (enc40 x)[i]? = some (enc40 x)[i]! := by
  match i, h with
  | 0, _ => rfl
  | 1, _ => rfl
  | 2, _ => rfl
  | 3, _ => rfl
  | 4, _ => rfl
  | 5, _ => rfl
theorem add_p2 (b off j : Nat) : (⟨b, off, none⟩ : Addr).add j = ⟨b, off + j, none⟩ := by
  unfold Addr.add
  by_cases h : j = 0 <;> simp [h]
theorem plain_of {w : World} {ad : Addr} {v : Value} (h : w.cell? ad = some v) : ad.spot = none := by
  cases hs : ad.spot with
  | none => rfl
  | some x =>
    unfold World.cell? at h
    rw [hs] at h
    split at h <;> simp at h
/-- A list of facts that is read: its cells. -/
theorem cells_of {w : World} {A : Option Addr} {l : List S40} (h : Kd.C k40 w A l.length l) (hne : l ≠ []) :
    ∃ b off, A = some ⟨b, off, none⟩ ∧ ∀ (j : Nat) u, (l.flatMap enc40)[j]? = some u → w.cell? ⟨b, off + j, none⟩ = some u := by
  obtain ⟨_, _, h3⟩ := h
  obtain ⟨ad, rfl, hc⟩ := h3 (List.length_pos_iff.2 hne)
  have hcell : ∀ (j : Nat) u, (l.flatMap enc40)[j]? = some u → w.cell? (ad.add j) = some u := by
    intro j u hu
    rw [flat_get] at hu
    obtain ⟨x, hx, hxu⟩ := Option.bind_eq_some_iff.1 hu
    obtain ⟨c, _, hk, hcc⟩ := hc _ x hx
    have := hcc (j % 6) u (by rw [k40_enc hk]; exact hxu)
    rwa [show j / 6 * k40.sz + j % 6 = j from by show j / 6 * 6 + j % 6 = j; omega] at this
  have h0 : (l.flatMap enc40)[0]? = some (.string (l.head hne).f0.f0) := by
    cases l with
    | nil => exact absurd rfl hne
    | cons x r => rfl
  have hsp : ad.spot = none := plain_of (by have := hcell 0 _ h0; rwa [Addr.add_zero'] at this)
  obtain ⟨b, off, sp⟩ := ad
  obtain rfl : sp = none := hsp
  refine ⟨b, off, rfl, fun j u hu => ?_⟩
  have := hcell j u hu
  rwa [add_p2] at this
theorem C_of_holds {w : World} {b off : Nat} {d : Array S40} (h : HoldsK enc40 6 w b off d) (hs : d.size ≤ 9223372036854775807) : Kd.C k40 w (some ⟨b, off, none⟩) d.toList.length d.toList := by
  refine ⟨rfl, by simpa using hs, fun _ => ⟨_, rfl, fun j x hx => ⟨enc40 x, rfl, ⟨[.string x.f0.f0, .string x.f0.f1, .string x.f0.f2, .string x.f0.f3, .int .i64 x.f0.f4], [.int .i64 x.f1], rfl, k30_mk w x.f0, rfl⟩, fun i u hu => ?_⟩⟩⟩
  obtain ⟨hj, rfl⟩ := List.getElem?_eq_some_iff.1 hx
  have hj' : j < d.size := by simpa using hj
  have hi : i < 6 := (List.getElem?_eq_some_iff.1 hu).1
  have := (h.cell hj' hi).1
  rw [add_p2, show off + (j * k40.sz + i) = off + j * 6 + i from by show off + (j * 6 + i) = off + j * 6 + i; omega, this, ← enc_at _ _ hi, getElem!_pos d j hj']
  rw [Array.getElem_toList] at hu
  exact hu
theorem clone_any (l : List S40) (A : Option Addr) (c : Nat) (w : World) (hr : Kd.C k40 w A l.length l) (hne : l ≠ []) (hn : l.length ≤ 1000000) :
    Calls Try.prog 22 #[.slice A l.length c] w fun e w' => ∃ g cap, e = .returned (.slice (some ⟨g, 0, none⟩) l.length cap) ∧ w.heap.size ≤ g ∧ g < w'.heap.size ∧ l.length ≤ cap ∧ HoldsK enc40 6 w' g 0 l.toArray ∧ Below w.heap.size w w' := by
  obtain ⟨b, off, rfl, hc⟩ := cells_of hr hne
  have hone : ∀ u ∈ l.flatMap enc40, u.oneCell' = true := by
    intro u hu
    obtain ⟨x, _, hx⟩ := List.mem_flatMap.1 hu
    exact enc40_one x u hx
  obtain ⟨i0, hi0, hz⟩ := Option.map_eq_some_iff.1 info40
  injection hz with z1 z2
  injection z2 with z2 z3
  refine (AnyE.slices_Clone Try.cloneF i0 _ 6 80 hi0 z1 z2 z3 rfl (by decide) Try.sizeOf40 b off l.length c (l.flatMap enc40) w (flat_len l) (by unfold maxLen; omega) (by omega) hc hone).mono ?_
  rintro e w' ⟨v', rfl, ⟨_, ho⟩, hnn, hb⟩
  rcases ho with ⟨rfl, _⟩ | ⟨g, cap, cur, rfl, hg, hh, hle, hcap, hcs, htake⟩
  · exact absurd rfl hnn
  · refine ⟨g, cap, rfl, hg, blk_lt hh, hle, fun j hj => ?_, hb⟩
    rw [size_flatK] at hj
    have hj' : j < l.length * 6 := by simpa using hj
    have hx : j / 6 < l.length := by omega
    have h1 : cur[j]? = some (enc40 l[j / 6])[j % 6]! := by
      have h2 : (cur.toList.take (l.length * 6))[j]? = (l.flatMap enc40)[j]? := by rw [htake]
      rw [flat_get, List.getElem?_eq_getElem hx, List.getElem?_take, if_pos hj', Option.bind_some, enc_at _ _ (by omega)] at h2
      rw [← h2]; simp
    refine ⟨?_, by simp [World.frozen?, hh]⟩
    rw [get_flatK _ _ _ _ hj]
    unfold World.cell?
    rw [show (⟨g, 0 + j, none⟩ : Addr).block = g from rfl, hh]
    simp [h1, hx]
end Go.Proofs.Ytidojompkihboaa.X
