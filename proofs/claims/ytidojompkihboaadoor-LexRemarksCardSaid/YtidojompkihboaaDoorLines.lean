import Derived.Test.YtidojompkihboaaDoorLinesIt
import Derived.Test.YtidojompkihboaaDoorCut
import Derived.Test.YtidojompkihboaaDoorAppIn
namespace Go.Proofs.YtidojompkihboaaDoor.X
open Go.RowKit Go.Shelf Go.Proofs.YtidojompkihboaaDoorW.PrintWords Go.Proofs.YtidojompkihboaaDoorW.PrintLast Go.Proofs.YtidojompkihboaaDoorW.PrintMore Go.Proofs.YtidojompkihboaaDoor.Rng
attribute [local go_sem] Oper.semAt_some

def lineOf (x : Int × ByteArray) : List S42 := if (Lib.goFieldsP blankB (cutB x.2)).length = 0 then [] else [⟨x.1, Lib.goFieldsP blankB (cutB x.2)⟩]
def lexLines (s : ByteArray) : List S42 × Int := if 20000 < s.size then ([], 4) else if (bytesOf s).any oddB = true then ([], 5) else ((numb 0 (splitB s.size s)).flatMap lineOf, 0)
def lex_Lines.f (a0 : ByteArray) : Option (List S42 × Int) := some (lexLines a0)

set_option maxHeartbeats 400000 in
theorem lines_any (s : ByteArray) (w : World) :
    Calls Tryd.prog 23 #[.string s] w fun e w' => e = .returned (.func (.func 37) #[] #[.pointer (some ⟨w.heap.size, 0, none⟩)]) ∧ w.alloc (.cells #[.string s] 9) = w' := by
  go_enter Tryd.func23, Tryd.ntmps23
  go_wp2
  go_ret
  exact ⟨rfl, rfl⟩
theorem enters26 : ∀ args w, (callFunc 26 args).run Tryd.prog w = .ok (.enter 26 args) w := enters_of Tryd.func26 (by kernel_rfl) rfl
theorem enters37 : ∀ args w, (callFunc 37 args).run Tryd.prog w = .ok (.enter 37 args) w := enters_of Tryd.func37 (by kernel_rfl) rfl
theorem fields_any (s : ByteArray) (hs : s.size ≤ 4294967296) (w : World) :
    Calls Tryd.prog 25 #[.string s, .func (.func 26) #[] #[]] w fun e w' => ∃ v, e = .returned v ∧ Kd.string.R 9 w' w.heap.size (fun _ => True) v (Lib.goFieldsP blankB s) ∧ Below w.heap.size w w' :=
  (Tryd.strings_FieldsFunc_grows 26 #[] enters26 blankB s w hs (fun W x _ _ => (blank_any x W).mono (fun _ _ ⟨a, b⟩ => ⟨a, b ▸ Below.refl _ _⟩))).mono (fun _ _ ⟨_, h1, _, h3, h4⟩ => ⟨_, h1, ⟨fun _ _ => trivial, _, h3, Kd.reps_scalar _⟩, h4⟩)

theorem Kp.setCell {S : Nat → Prop} (A : World) (g : Nat) (u : Value) (h : ¬ S g) : Kp S A (A.setCell ⟨g, 0, none⟩ u) :=
  ⟨by simp [World.setCell], fun r hr _ => Below.heap_setCell A ⟨g, 0, none⟩ u r (fun e => h ((show r = g from e) ▸ hr))⟩
theorem extract_size_le (s : ByteArray) (a b : Nat) : (s.extract a b).size ≤ s.size := by
  rw [← data_length, ← data_length, Lib.extract_data, List.length_take, List.length_drop]; omega
theorem splitB_size : ∀ (n : Nat) (s p : ByteArray), p ∈ splitB n s → p.size ≤ s.size
  | 0, s, p, h => by simp [splitB] at h; rw [h]; exact Nat.le_refl _
  | n + 1, s, p, h => by
    rw [splitB] at h
    split at h
    · simp at h; rw [h]; exact Nat.le_refl _
    · rcases List.mem_cons.1 h with h | h
      · rw [h]; exact extract_size_le _ _ _
      · exact Nat.le_trans (splitB_size n _ p h) (extract_size_le _ _ _)
theorem numb_mem (l : List ByteArray) : ∀ (k : Int) (x : Int × ByteArray), x ∈ numb k l → x.2 ∈ l := by
  induction l with
  | nil => intro k x h; simp [numb] at h
  | cons a r ih =>
    intro k x h
    rcases List.mem_cons.1 h with h | h
    · rw [h]; exact List.mem_cons_self
    · exact List.mem_cons_of_mem _ (ih _ _ h)
theorem numb_len (l : List ByteArray) : ∀ k : Int, (numb k l).length = l.length := by
  induction l with
  | nil => intro k; rfl
  | cons a r ih => intro k; simp [numb, ih]
theorem cutB_size (s : ByteArray) : (cutB s).size ≤ s.size := by
  unfold cutB
  split
  · exact Nat.le_refl _
  · exact extract_size_le _ _ _
theorem lineOf_len (l : List (Int × ByteArray)) : (l.flatMap lineOf).length ≤ l.length := by
  induction l with
  | nil => simp
  | cons a r ih =>
    rw [List.flatMap_cons, List.length_append, List.length_cons]
    have : (lineOf a).length ≤ 1 := by unfold lineOf; split <;> simp
    omega
set_option maxHeartbeats 2000000 in
set_option maxRecDepth 100000 in
theorem lines_main (s : ByteArray) (hs : s.size ≤ 20000) (hodd : (bytesOf s).any oddB = false) (w : World) :
    CallsIn Fence.wide 0 Tryd.prog 10 #[.string s] w fun e w' => ∃ v0_ : Value, e = .returned (.tuple #[v0_, .int .i64 0]) ∧ Kd.S k42 42 w' w.heap.size (fun _ => True) v0_ ((numb 0 (splitB s.size s)).flatMap lineOf) ∧ Below w.heap.size w w' := by
  refine callsIn_of_wp_marks Tryd.func10 rfl trivial ?_
  simp only [Tryd.ntmps10, List.size_toArray, List.length_cons, List.length_nil, Nat.reduceAdd, Nat.reduceSub, Array.replicate_succ, Array.replicate_zero, List.push_toArray, List.append_toArray, List.nil_append, List.cons_append]
  have kb := fun W => print_bytes (P := Tryd.prog) 9 43 5 Tryd.underlying9 Tryd.underlying43 Tryd.underlying5 s W
  have hrd : Aside0 (ReadsInt (Lib.bytesWorld w 5 s) .u8 (some ⟨w.heap.size, 0, none⟩) (bytesOf s).length (bytesOf s)) := ⟨by rw [bytesOf_length]; exact bytes_reads w 5 s (by omega)⟩
  have hln : (bytesOf s).length = s.size := bytesOf_length s
  have hc2 := Aside0.mk (callsIn_wide (n := 0).2 ((containsFunc_any 22 enters22 oddB odd_any (some ⟨w.heap.size, 0, none⟩) (grownCap w s.size 0 5) (bytesOf s) (Lib.bytesWorld w 5 s) hrd (by rw [hln]; omega))))
  rw [hln, hodd] at hc2
  clear hln
  have HO := Aside0.mk hodd
  clear hodd
  have hli : ∀ W, Aside0 (CallsIn Fence.wide 0 Tryd.prog 23 #[.string s] W fun e w' => e = .returned (.func (.func 37) #[] #[.pointer (some ⟨W.heap.size, 0, none⟩)]) ∧ W.alloc (.cells #[.string s] 9) = w') := fun W => ⟨callsIn_wide.2 (lines_any s W)⟩
  gi_wp2_with (first | (refine ⟨trivial, rfl, ?_⟩; gi_at_call 21; refine hc2.out.mono ?_; rintro e w' ⟨rfl, rfl⟩) | (refine ⟨trivial, rfl, ?_⟩; gi_at_call 23; refine (hli _).out.mono ?_; rintro e w' ⟨rfl, rfl⟩))
  clear hc2 hli kb hrd
  obtain ⟨W0, hW0⟩ : ∃ W0, Lib.bytesWorld w 5 s = W0 := ⟨_, rfl⟩
  have hb0 : Below w.heap.size w W0 := by rw [← hW0]; exact bytes_below (Below.refl _ _) (Nat.le_refl _) _ _
  have hle : w.heap.size ≤ W0.heap.size := hb0.size
  rw [hW0]
  clear hW0
  obtain ⟨w4, hw4⟩ : ∃ w4, ((W0.alloc (Obj.cells #[Value.slice none 0 0] 26)).alloc (Obj.cells #[Value.string s] 9)) = w4 := ⟨_, rfl⟩
  rw [hw4]
  have hz : w4.heap.size = W0.heap.size + 2 := by rw [← hw4]; simp
  have y0 : w4.heap[W0.heap.size]? = some (.cells #[Value.slice none 0 0] 26 (0, 0)) := by rw [← hw4]; exact at_old (at_new _ _ _ rfl) _
  have y1 : w4.heap[W0.heap.size + 1]? = some (.cells #[Value.string s] 9 (0, 0)) := by rw [← hw4]; exact at_new _ _ _ (by simp)
  have hb4 : Below w.heap.size w w4 := by rw [← hw4]; exact (hb0.alloc hb0.size _).alloc (by simp; omega) _
  clear hw4 hb0
  have HZ := Aside0.mk hz
  have hS : ∀ r, Sof (fun _ => False) w4 (2 + 7) r → W0.heap.size + 2 ≤ r ∧ r < W0.heap.size + 11 := by
    rintro r (h | ⟨h1, h2⟩)
    · exact h.elim
    · omega
  clear hz
  refine wpIn_range (gf := 37) (lb := #[.pointer (some ⟨W0.heap.size + 1, 0, none⟩)]) rfl enters37 (encs := fun x : Int × ByteArray => #[.int .i64 x.1, .string x.2]) (fun _ => rfl) (own := fun _ => False) (K := 7) (xs := numb 0 (splitB s.size s)) (fun _ h => h.elim)
    (fun o1 o2 => lines_iter s (by omega) _ _ (blk_two y1 o1 o2))
    (fun pre W' => ∃ v, W'.heap[W0.heap.size]? = some (.cells #[v] 26 (0, 0)) ∧ Kd.S k42 42 W' (W0.heap.size + 11) (fun k => W0.heap.size + 11 ≤ k) v (pre.flatMap lineOf) ∧ Below w.heap.size w W')
    (fun _ _ _ => False)
    (fun _ A B hs ht => by
      obtain ⟨v, h1, h2, h3⟩ := hs
      exact ⟨v, (ht.same _ (blk_lt h1) (fun h => by have := hS _ h; omega)).trans h1, Kd.S_step h2 (fun k hk hl => ht.same k hl (fun h => by have := hS _ h; omega)), ht.below h3 h3.size (fun r hr => by have := hS _ hr; omega)⟩)
    (fun _ _ _ _ h _ => h)
    ⟨_, y0, Kd.S_nil _ _ _ _ _, hb4⟩
    (fun x => { tmps := #[Value.string s, undef, Value.slice none 0 0, Value.int IntKind.i64 0,
          Value.pointer (some { block := W0.heap.size, off := 0 }), .int .i64 x.1, .string x.2, undef,
          Value.string s, Value.int IntKind.i64 ↑s.size, Value.bool (decide ((20000 : Int) < ((s.size : Nat) : Int))), Value.string s,
          Value.slice (some { block := w.heap.size, off := 0 }) s.size (grownCap w s.size 0 5), Value.bool false,
          Value.string s, Value.func (Fn.func 37) #[] #[Value.pointer (some { block := W0.heap.size + 1, off := 0 })],
          .int .i64 x.1, .string x.2, undef, undef, undef, undef, undef, undef, undef, undef, undef, undef, undef, undef, undef, undef, undef, undef, undef, undef], defers := [] }) ?assign ?body ?done ?stop
  case assign =>
    intro l x W K hK
    gi_wp2
    exact hK
  case body =>
    rintro l pre x rest W' hxs ⟨v, g0, hv, hB⟩ hsz
    have hsz' : W0.heap.size + 11 ≤ W'.heap.size := by have := HZ.out; omega
    clear hsz
    have hxsz : x.2.size ≤ 4294967296 := by
      have h1 := splitB_size _ _ _ (numb_mem _ 0 x (by rw [hxs]; simp))
      omega
    have hcsz : (cutB x.2).size ≤ 4294967296 := Nat.le_trans (cutB_size _) hxsz
    have hpl : pre.length ≤ 20001 := by
      have h1 := splitB_len s.size s
      rw [← numb_len _ 0, hxs] at h1
      simp at h1
      omega
    have HV := Aside0.mk hv
    have HB := Aside0.mk hB
    have G0 := Aside0.mk g0
    have HX := Aside0.mk hxs
    clear hv hB g0 hxs
    by_cases hw : (Lib.goFieldsP blankB (cutB x.2)).length = 0
    · gi_wp2_with (first | (refine ⟨trivial, rfl, ?_⟩; gi_at_call 24; refine (CallsIn.inRound l (callsIn_wide.2 (cut_any _ hxsz _))).mono ?_; rintro e w1 ⟨y1, b1, n1, rfl, rfl⟩) | (refine ⟨trivial, rfl, ?_⟩; gi_at_call 25; refine (CallsIn.inRound l (callsIn_wide.2 (fields_any _ hcsz _))).mono ?_; rintro e w2 ⟨vw, rfl, hR, hb⟩; obtain ⟨A, c, rfl⟩ := Kd.R_slice hR; have HR := Aside0.mk hR; have HBW := Aside0.mk hb; clear hR hb))
      have hb2 : Below W'.heap.size W' w2 := (pw_below_drewN (Below.refl _ _) n1).trans (by simpa using HBW.out)
      refine ⟨Kp.of_below hb2, v, (hb2.block _ (by omega)).trans G0.out, ?_, HB.out.trans (hb2.mono HB.out.size)⟩
      rw [List.flatMap_append, List.flatMap_singleton, lineOf, if_pos hw, List.append_nil]
      exact Kd.S_below HV.out hb2
    · have hwp : 0 < (Lib.goFieldsP blankB (cutB x.2)).length := by omega
      have hlen : ((pre.flatMap lineOf).length + 1) * 32 ≤ 140737488355328 := by have := lineOf_len pre; omega
      have hin : (pre ++ [x]).flatMap lineOf = pre.flatMap lineOf ++ [(⟨x.1, Lib.goFieldsP blankB (cutB x.2)⟩ : S42)] := by rw [List.flatMap_append, List.flatMap_singleton, lineOf, if_neg hw]
      have hv' := HV.out
      clear HV
      generalize pre.flatMap lineOf = acc at hlen hin hv'
      obtain ⟨Av, cv, rfl⟩ := Kd.S_slice hv'
      have HV := Aside0.mk hv'
      have HVB := Aside0.mk (Kd.S_base HV.out)
      have HVL := Aside0.mk (Kd.S_lt HV.out)
      have HLEN := Aside0.mk hlen
      have HIN := Aside0.mk hin
      clear hw hin hlen hv'
      gi_wp2_with (first
        | (gi_at_builtin; refine S_append_in k42 (W0.heap.size + 11) rfl (.tmp 29) (.tmp 33) 26 42 (.agg #[(.int .i64 0), (.slice none 0 0)]) 32 rfl Tryd.underlying26 info42 rfl (by decide) (by decide) (.slice Av acc.length cv) acc (⟨x.1, Lib.goFieldsP blankB (cutB x.2)⟩ : S42) [.int .i64 x.1, .slice A (Lib.goFieldsP blankB (cutB x.2)).length c] (fun k => W0.heap.size + 11 ≤ k) (fun k => some k = (.slice A (Lib.goFieldsP blankB (cutB x.2)).length c : Value).ownBlock) rfl rfl ?hp ?hokp ?hfresh ?HO ?hbase ?hl ?_
           (case hp => exact k42_mkM _ _ _ (⟨x.1, Lib.goFieldsP blankB (cutB x.2)⟩ : S42) (Kd.R_lower (Kd.R_tight rfl HR.out) (by simpa using hsz')))
           (case hokp => intro k hk; have h1 := Kd.R_base HR.out k hk.symm; simp at h1; exact ⟨by omega, fun e => by have := HVL.out k e.symm; omega⟩)
           (case hfresh => intro k hk; have := HB2.out.size; omega)
           (case HO => exact Kd.S_below (Kd.S_mono (Kd.S_bound HV.out) (fun k hk => ⟨hk.1, fun e => by have h1 := Kd.R_base HR.out k e.symm; simp at h1; have := hk.2.2.1; omega⟩)) HB2.out)
           (case hbase => have := HB2.out.size; omega)
           (case hl => exact HLEN.out)
           intro v1 w3 hv1 hg hat
           obtain ⟨A1, c1, rfl⟩ := Kd.S_slice hv1
           have HV1 := Aside0.mk hv1
           have HG := Aside0.mk hg
           clear hv1 hg hat
           have k3 := Aside0.mk ((HG.out.block W0.heap.size (by have := HB2.out.size; omega) (fun e => by have := HVB.out _ e.symm; omega)).trans k2.out)
           have c3 : w3.cell? ⟨W0.heap.size, 0, none⟩ = some (.slice Av acc.length cv) := by simp [World.cell?, k3.out]
           have f3 : w3.frozen? ⟨W0.heap.size, 0, none⟩ = false := by simp [World.frozen?, k3.out])
        | (refine ⟨trivial, rfl, ?_⟩; gi_at_call 24; refine (CallsIn.inRound l (callsIn_wide.2 (cut_any _ hxsz _))).mono ?_; rintro e w1 ⟨y1, b1, n1, rfl, rfl⟩)
        | (refine ⟨trivial, rfl, ?_⟩; gi_at_call 25; refine (CallsIn.inRound l (callsIn_wide.2 (fields_any _ hcsz _))).mono ?_; rintro e w2 ⟨vw, rfl, hR, hb⟩; obtain ⟨A, c, rfl⟩ := Kd.R_slice hR
           have HR := Aside0.mk hR; have HB2 := Aside0.mk ((pw_below_drewN (Below.refl _ _) n1).trans (by simpa using hb) : Below W'.heap.size W' w2); clear hR hb
           have k2 := Aside0.mk ((HB2.out.block _ (by omega)).trans G0.out)
           have c2 : w2.cell? ⟨W0.heap.size, 0, none⟩ = some (.slice Av acc.length cv) := by simp [World.cell?, k2.out]))
      have hV1 := HV1.out
      rw [List.length_append, List.length_singleton] at hV1
      refine ⟨((Kp.of_below HB2.out).trans (Kp.of_grown HG.out (fun r e h => by have h1 := hS _ h; have h2 := HVB.out _ e; omega))).trans (Kp.setCell _ _ _ (fun h => by have h1 := hS _ h; omega)), _, blk_set k3.out 0 _, ?_, ?_⟩
      · rw [HIN.out]
        exact Kd.S_far hV1 (fun k hk e => by simp at e; omega) _
      · exact ((HB.out.trans (HB2.out.mono HB.out.size)).grown HG.out (Nat.le_trans HB.out.size HB2.out.size) (fun k e => by have h2 := HVB.out _ e; omega)).setCell (p := ⟨W0.heap.size, 0, none⟩) hle _
  case done =>
    rintro W' ⟨v, g0, hv, hB⟩ hK
    have hK' := Aside0.mk hK
    clear hK
    obtain ⟨acc, hacc⟩ : ∃ acc, (numb 0 (splitB s.size s)).flatMap lineOf = acc := ⟨_, rfl⟩
    rw [hacc] at hv
    have HA := Aside0.mk hacc
    clear hacc
    obtain ⟨Av, cv, rfl⟩ := Kd.S_slice hv
    have HV := Aside0.mk hv
    have HB := Aside0.mk hB
    have c0 : W'.cell? ⟨W0.heap.size, 0, none⟩ = some (.slice Av acc.length cv) := by simp [World.cell?, g0]
    clear hv hB g0
    gi_wp2
    refine ⟨by simp, .inl ⟨_, _, rfl, run_takeDeferred hK'.out, ?_⟩⟩
    have hp : Rng.Touch (fun r => r = w4.heap.size) W' (W'.putObj w4.heap.size (Obj.deferred none)) := Rng.Touch.putObj _ _ rfl
    refine ⟨_, results_tmp2 rfl _ _ _, _, rfl, ?_, hp.below HB.out HB.out.size (fun r e => by have := HZ.out; omega)⟩
    rw [HA.out]
    exact Kd.S_lower (Kd.S_mono (Kd.S_step HV.out (fun k hk hl => hp.same k hl (fun e => by have := HZ.out; omega))) (fun _ _ => trivial)) (by omega)
  case stop =>
    rintro c pre W' h hK
    exact h.elim
set_option maxHeartbeats 1000000 in
theorem lex_Lines.calls (a0 : ByteArray) (r1 : List S42) (r2 : Int) (w : World) (h : lex_Lines.f a0 = some (r1, r2)) :
    Calls Tryd.prog 10 #[.string a0] w fun e w' => ∃ v0_ : Value, e = .returned (.tuple #[v0_, .int .i64 r2]) ∧ Kd.S k42 42 w' w.heap.size (fun _ => True) v0_ r1 ∧ Below w.heap.size w w' := by
  have h' := Option.some.inj h
  unfold lexLines at h'
  clear h
  by_cases h1 : 20000 < a0.size
  · rw [if_pos h1] at h'
    injection h' with e1 e2
    subst e1 e2
    go_enter Tryd.func10, Tryd.ntmps10
    go_wp2
    go_ret2
    exact ⟨_, rfl, Kd.S_nil _ _ _ _ _, Below.refl _ _⟩
  · rw [if_neg h1] at h'
    by_cases h2 : (bytesOf a0).any oddB = true
    · rw [if_pos h2] at h'
      injection h' with e1 e2
      subst e1 e2
      have kb := fun W => print_bytes (P := Tryd.prog) 9 43 5 Tryd.underlying9 Tryd.underlying43 Tryd.underlying5 a0 W
      have hrd : Aside0 (ReadsInt (Lib.bytesWorld w 5 a0) .u8 (some ⟨w.heap.size, 0, none⟩) (bytesOf a0).length (bytesOf a0)) := ⟨by rw [bytesOf_length]; exact bytes_reads w 5 a0 (by omega)⟩
      have hln : (bytesOf a0).length = a0.size := bytesOf_length a0
      have hc2 := Aside0.mk ((containsFunc_any 22 enters22 oddB odd_any (some ⟨w.heap.size, 0, none⟩) (grownCap w a0.size 0 5) (bytesOf a0) (Lib.bytesWorld w 5 a0) hrd (by rw [hln]; omega)))
      rw [hln, h2] at hc2
      clear hln h2
      go_enter Tryd.func10, Tryd.ntmps10
      go_wp2_with (go_at_call 21; refine hc2.out.mono ?_; rintro e w' ⟨rfl, rfl⟩)
      go_ret2
      exact ⟨_, rfl, Kd.S_nil _ _ _ _ _, bytes_below (Below.refl _ _) (Nat.le_refl _) _ _⟩
    · rw [if_neg h2] at h'
      injection h' with e1 e2
      subst e1 e2
      exact callsIn_wide.1 (lines_main a0 (by omega) (by simpa using h2) w)
end Go.Proofs.YtidojompkihboaaDoor.X
