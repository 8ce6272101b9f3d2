/- slices.Concat of cubes: the facts of one behind those of the other. -/
import Derived.Test.YtidojompkihboaaFront
import Derived.Test.YtidojompkihboaaShelf2
namespace Go.Proofs.Ytidojompkihboaa.X
open Go.RowKit Go.Shelf Go.Sort Go.Proofs.YtidojompkihboaaW.PrintWords Go.Proofs.YtidojompkihboaaW.PrintLast Go.Proofs.YtidojompkihboaaW.PrintMore

theorem grow_any (n : Nat) (w : World) (hn : n ≤ 1000000) :
    Calls Try.prog 35 #[.slice none 0 0, .int .i64 n] w fun e w' => ∃ v, e = .returned v ∧ Kd.R k40 40 w' w.heap.size (fun _ => True) v [] ∧ Below w.heap.size w w' := by
  by_cases h0 : n = 0
  · subst h0
    refine (Any8.slices_Grow_room Try.growF none 0 0 0 w (Nat.le_refl _) (by omega) (by omega) (Nat.le_refl _)).mono ?_
    rintro e w' ⟨rfl, rfl⟩
    exact ⟨_, rfl, Kd.R_nil _ _ _ _ _, Below.refl _ _⟩
  · obtain ⟨i0, hi0, hz⟩ := Option.map_eq_some_iff.1 info40
    injection hz with z1 z2
    injection z2 with z2 z3
    refine (Any8.slices_Grow_grow Try.growF i0 _ hi0 z1 (by rw [z2]; omega) none 0 0 n [] w (Nat.le_refl _) (by omega) (by rw [z3]; omega) (by omega) (by simp) (fun _ => rfl) (fun a h => by cases h)).mono ?_
    rintro e w' ⟨rfl, rfl⟩
    refine ⟨_, rfl, ⟨fun _ _ => trivial, [], ⟨rfl, .inr ⟨w.heap.size, _, _, rfl, Nat.le_refl _, World.alloc_heap_new _ _, Nat.zero_le _, ?_, ?_, rfl⟩⟩, ?_⟩, (pw_below_drewN (Below.refl _ _) 1).alloc (Nat.le_refl _) _⟩
    · exact grownCap_le_maxLen _ _ _ _ (by unfold maxLen; omega)
    · have hge := grownCap_ge w (0 + n) 0 (Try.growF_ren.t 25)
      generalize grownCap w (0 + n) 0 (Try.growF_ren.t 25) = q at hge
      have h6 : ∀ m, (Builtin.zeroCells (Value.agg #[Value.string { data := #[] }, Value.string { data := #[] }, Value.string { data := #[] }, Value.string { data := #[] }, Value.int IntKind.i64 0, Value.int IntKind.i64 0]).cells m).size = m * 6 := fun m => size_zeroCells _ m
      rw [Array.size_append, Array.size_append, h6, h6]
      show 0 + (0 + n - 0) * 6 + (q - (0 + n)) * 6 = q * 6
      omega
    · exact Reps.none _ _
theorem flat_take (ll : List (List S40)) (i : Int) (h0 : 0 ≤ i) (h1 : i < ll.length) : (ll.take (i + 1).toNat).flatten.length = (ll.take i.toNat).flatten.length + (rd_L6 ll i).length := by
  have hn : i.toNat < ll.length := by omega
  rw [show (i + 1).toNat = i.toNat + 1 from by omega, List.take_succ_eq_append_getElem hn, List.flatten_append, List.length_append]
  have : rd_L6 ll i = ll[i.toNat] := by simp [rd_L6, List.getD_eq_getElem?_getD, List.getElem?_eq_getElem hn]
  rw [this]; simp
theorem flat_le (ll : List (List S40)) (n : Nat) : (ll.take n).flatten.length ≤ ll.flatten.length := by
  conv => rhs; rw [← List.take_append_drop n ll, List.flatten_append, List.length_append]
  omega
theorem flat_next (ll : List (List S40)) (i : Int) (h0 : 0 ≤ i) (h1 : i < ll.length) : (ll.take (i + 1).toNat).flatten = (ll.take i.toNat).flatten ++ rd_L6 ll i := by
  have hn : i.toNat < ll.length := by omega
  rw [show (i + 1).toNat = i.toNat + 1 from by omega, List.take_succ_eq_append_getElem hn, List.flatten_append]
  have : rd_L6 ll i = ll[i.toNat] := by simp [rd_L6, List.getD_eq_getElem?_getD, List.getElem?_eq_getElem hn]
  rw [this]; simp
theorem k40_M {w : World} {base : Nat} {ok : Nat → Prop} {x : S40} {c : List Value} (h : k40.K w x c) : k40.M w base ok x c := by
  rw [k40_enc h]
  exact ⟨_, _, rfl, k30_mkM w base ok x.f0, rfl⟩
def fact_Fact.f (ll : List (List S40)) : Option (List S40) := if ll.length ≤ 100 ∧ ll.flatten.length ≤ 1000000 then some ll.flatten else none
set_option maxHeartbeats 400000 in
set_option maxRecDepth 100000 in
theorem concat_any (ll : List (List S40)) (A0 : Option Addr) (c0 : Nat) (w : World) (hr0 : Kd.C (Kd.slice 40 k40) w A0 ll.length ll) (hl : ll.length ≤ 100) (hf : ll.flatten.length ≤ 1000000) :
    Calls Try.prog 28 #[.slice A0 ll.length c0] w fun e w' => ∃ v, e = .returned v ∧ Kd.R k40 40 w' w.heap.size (fun _ => True) v ll.flatten ∧ Below w.heap.size w w' := by
  have HR := Aside0.mk hr0
  have HF := Aside0.mk hf
  clear hr0 hf
  go_enter Try.func28, Try.ntmps28
  go_wp2
  go_loop [3, 5, 11] (fun v3 _ v11 => ∃ i : Int, 0 ≤ i ∧ i ≤ ll.length ∧ v11 = .int .i64 i ∧ v3 = .int .i64 ((ll.take i.toNat).flatten.length : Int)) (fun _ _ v11 => ll.length - (intOf v11).toNat)
  case atStart => exact ⟨0, by omega, by omega, rfl, by simp⟩
  case round =>
    obtain ⟨i, h0, h1, rfl, rfl⟩ := hrel
    by_cases hlt : i < (ll.length : Int)
    · obtain ⟨ad, cs, rfl, _, hK, hc⟩ := Kd.C_get HR.out ([] : List S40) i h0 hlt
      obtain ⟨A, c, rfl, hlc, hCi⟩ := hK
      have hcell : w.cell? (ad.add (i.toNat * 1 + 0)) = some (.slice A (rd_L6 ll i).length c) := hc 0 _ rfl
      rw [Nat.mul_one, Nat.add_zero] at hcell
      have hsum : (ll.take (i + 1).toNat).flatten.length = (ll.take i.toNat).flatten.length + (rd_L6 ll i).length := flat_take ll i h0 hlt
      have hle : (ll.take (i + 1).toNat).flatten.length ≤ 1000000 := Nat.le_trans (flat_le ll _) HF.out
      rw [hsum] at hle
      have HD := Aside0.mk (show ∀ n : Nat, n = (ll.take (i + 1).toNat).flatten.length → n = (ll.take (i + 1).toNat).flatten.length from fun _ h => h)
      have hw1 : wrap64 (((ll.take i.toNat).flatten.length : Int) + ((rd_L6 ll i).length : Int)) = ((ll.take (i + 1).toNat).flatten.length : Int) := by rw [hsum]; unfold wrap64; omega
      have HS := Aside0.mk hsum
      have hneg : decide (((ll.take (i + 1).toNat).flatten.length : Int) < 0) = false := decide_eq_false (by omega)
      generalize (ll.take i.toNat).flatten.length = n0 at hw1 hle HS ⊢
      obtain ⟨n1, hn1⟩ : ∃ n1, (ll.take (i + 1).toNat).flatten.length = n1 := ⟨_, rfl⟩
      rw [hn1] at hw1 hneg
      have HN1 := Aside0.mk hn1
      clear hn1 HD
      clear hc hCi
      go_wp2
      go_round
      case rel => exact ⟨i + 1, by omega, by omega, rfl, by rw [HN1.out]; exact congrArg (fun z : Int => Value.int .i64 z) (by have := HS.out; rw [HN1.out] at this; omega)⟩
      case measure => simp [intOf]; omega
    · have hall : ll.take i.toNat = ll := List.take_of_length_le (by omega)
      rw [hall]
      have hgr := fun W => Aside0.mk (grow_any ll.flatten.length W HF.out)
      clear hall
      obtain ⟨N, hN⟩ : ∃ N, ll.flatten.length = N := ⟨_, rfl⟩
      rw [hN] at hgr ⊢
      have HN := Aside0.mk hN
      clear hN
      go_wp2_with (go_at_call 35; refine (hgr _).out.mono ?_; rintro e w1 ⟨v, rfl, hv, hb⟩)
      obtain ⟨Av, cv, rfl⟩ := Kd.R_slice hv
      have HV := Aside0.mk hv
      have HB := Aside0.mk hb
      clear hv hb hgr
      go_loopw [6, 8, 27] (fun v6 _ v27 wr => ∃ k : Int, 0 ≤ k ∧ k ≤ ll.length ∧ v27 = .int .i64 k ∧ Aside0 (Kd.R k40 40 wr w.heap.size (fun _ => True) v6 (ll.take k.toNat).flatten) ∧ Aside0 (Below w.heap.size w wr)) (fun _ _ v27 _ => ll.length - (intOf v27).toNat)
      case atStart => exact ⟨0, by omega, by omega, rfl, HV, HB⟩
      case round =>
        obtain ⟨k, k0, k1, rfl, hR, hBw⟩ := hrel
        by_cases hlt2 : k < (ll.length : Int)
        · obtain ⟨ad, cs, rfl, _, hK, hc⟩ := Kd.C_get (Kd.C_below HR.out hBw.out) ([] : List S40) k k0 hlt2
          obtain ⟨A, c, rfl, hlc, hCi⟩ := hK
          have hcell : wr.cell? (ad.add (k.toNat * 1 + 0)) = some (.slice A (rd_L6 ll k).length c) := hc 0 _ rfl
          rw [Nat.mul_one, Nat.add_zero] at hcell
          have hCi' := Aside0.mk (show Kd.C k40 wr A (rd_L6 ll k).length (rd_L6 ll k) from hCi)
          obtain ⟨Av2, cv2, hv6⟩ := Kd.R_slice hR.out
          subst hv6
          have hle : ((ll.take k.toNat).flatten.length + (rd_L6 ll k).length) * 80 ≤ 140737488355328 := by
            have h1 := flat_take ll k k0 hlt2
            have h2 := flat_le ll (k + 1).toNat
            have h3 := HF.out
            omega
          have HLE := Aside0.mk hle
          have hnext : (ll.take (k + 1).toNat).flatten = (ll.take k.toNat).flatten ++ rd_L6 ll k := flat_next ll k k0 hlt2
          have HNX := Aside0.mk hnext
          have HR2 := Aside0.mk hR.out
          have hsz := Aside0.mk hBw.out.size
          clear hc hCi hle hnext hR
          generalize (ll.take k.toNat).flatten = acc at HLE HNX HR2 ⊢
          generalize hyy : rd_L6 ll k = ys at HLE HNX hcell hCi' ⊢
          clear hyy
          go_wp2_with (at_builtin; refine Kd.R_append_rows k40 (w0 := w) w.heap.size rfl (.tmp 31) (.tmp 32) 33 40 (.agg #[(.string ⟨#[]⟩), (.string ⟨#[]⟩), (.string ⟨#[]⟩), (.string ⟨#[]⟩), (.int .i64 0), (.int .i64 0)]) 80 rfl Try.underlying33 info40 rfl (by decide) (by decide) (.slice Av2 acc.length cv2) acc ys A ys.length c (fun _ => True) (fun _ => False) rfl rfl HR2.out hCi'.out (fun x cs h => k40_M h) (fun _ h => h.elim) (fun _ _ => trivial) hBw.out hsz.out HLE.out ?_
                       intro v1 w7 hv1 hb7 hg hat
                       obtain ⟨A1, c1, rfl⟩ := Kd.R_slice hv1
                       have HV1 := Aside0.mk hv1
                       have HB7 := Aside0.mk hb7
                       clear hv1 hb7 hg hat)
          have hV1 := HV1.out
          rw [List.length_append] at hV1
          go_roundw
          case rel => exact ⟨_, _, _, _, _, _, _, _, _, _, ⟨k + 1, by omega, by omega, rfl, ⟨by rw [HNX.out]; exact hV1⟩, HB7⟩, rfl⟩
          case measure => simp [intOf]; omega
        · have hall2 : ll.take k.toNat = ll := List.take_of_length_le (by omega)
          have hR2 := Aside0.mk (by have := hR.out; rwa [hall2] at this)
          have hBx := Aside0.mk hBw.out
          clear hR hall2
          go_wp2
          go_ret
          exact ⟨_, rfl, hR2.out, hBx.out⟩
theorem fact_Fact.calls (A0 : Option Addr) (c0 : Nat) (l0 : List (List S40)) (r : List S40) (w : World) (hr0 : Kd.C (Kd.slice 40 k40) w A0 l0.length l0) (_hc0 : l0.length ≤ c0) (h : fact_Fact.f l0 = some r) :
    Calls Try.prog 28 #[.slice A0 l0.length c0] w fun e w' => ∃ v0_ : Value, e = .returned v0_ ∧ Kd.R k40 40 w' w.heap.size (fun _ => True) v0_ r ∧ Below w.heap.size w w' := by
  unfold fact_Fact.f at h
  split at h
  · rename_i hc
    injection h with h
    subst h
    exact concat_any l0 A0 c0 w hr0 hc.1 hc.2
  · cases h
end Go.Proofs.Ytidojompkihboaa.X
