/- fact.Of of at most a thousand facts whose amounts fit: one fact for each key, the sum of its facts. -/
import Derived.Test.YtidojompkihboaaRuns
import Derived.Test.YtidojompkihboaaCanon
import Derived.Test.YtidojompkihboaaStable
import Derived.Test.YtidojompkihboaaAdd
import Derived.Test.YtidojompkihboaaAppIn
import Derived.WalkSpells
namespace Go.Proofs.Ytidojompkihboaa.X
open Go.RowKit Go.Shelf Go.Sort Go.Proofs.Ytidojompkihboaa.Rng Go.Proofs.YtidojompkihboaaW.PrintWords Go.Proofs.YtidojompkihboaaW.PrintLast Go.Proofs.YtidojompkihboaaW.PrintMore
set_option linter.unusedVariables false
set_option linter.unusedSimpArgs false
attribute [local go_sem] Oper.semAt_some

theorem chunks_lists : ∀ (n : Nat) (A : Option Addr) (c : Nat) (t : List S40), (chunksF n A c t).map (·.l) = runsF n t
  | 0, _, _, _ => by cases ‹List S40› <;> rfl
  | n + 1, _, _, [] => rfl
  | n + 1, A, c, x :: r => by rw [chunksF, runsF, List.map_cons, chunks_lists n]
theorem chunks_read {w : World} : ∀ (n : Nat) (A : Option Addr) (c : Nat) (t : List S40), Kd.C k40 w A t.length t → t.length ≤ c → ∀ x ∈ chunksF n A c t, x.l ≠ [] ∧ x.l.length ≤ x.c ∧ x.l.length ≤ t.length ∧ absL x.l ≤ absL t ∧ Kd.C k40 w x.A x.l.length x.l
  | 0, _, _, t, _, _, x, hx => by cases t <;> exact absurd hx (by simp [chunksF])
  | n + 1, _, _, [], _, _, x, hx => absurd hx (by simp [chunksF])
  | n + 1, A, c, y :: r, hC, hc, x, hx => by
    have hle := runLen_le (y :: r)
    have hab : absL (y :: r) = absL ((y :: r).take (runLen (y :: r))) + absL ((y :: r).drop (runLen (y :: r))) := by rw [← absL_app, List.take_append_drop]
    rw [chunksF] at hx
    rcases List.mem_cons.1 hx with rfl | hx
    · refine ⟨?_, ?_, ?_, ?_, Kd.C_take hC hle⟩
      · have := runLen_pos y r
        intro e
        have := congrArg List.length e
        simp [List.length_take] at this
        omega
      · show ((y :: r).take (runLen (y :: r))).length ≤ c
        rw [List.length_take]; omega
      · show ((y :: r).take (runLen (y :: r))).length ≤ _
        rw [List.length_take]; omega
      · show absL ((y :: r).take (runLen (y :: r))) ≤ _
        omega
    · have hd := Kd.C_drop hC hle hc
      have ih := chunks_read n _ (c - runLen (y :: r)) _ hd (by rw [List.length_drop]; omega) x hx
      have hdl : ((y :: r).drop (runLen (y :: r))).length ≤ (y :: r).length := by rw [List.length_drop]; omega
      exact ⟨ih.1, ih.2.1, by omega, by omega, ih.2.2.2.2⟩
theorem results_cell2 {P : Program} {fn : Func} {p u : Tmp} {tp tu : TypeId} (h : fn.results = #[.cell p tp, .cell u tu]) (tmps : Array Value) (w : World) (a b : Addr) (x y : Value)
    (hp : tmps.getD p undef = .pointer (some a)) (hu : tmps.getD u undef = .pointer (some b)) (ha : (loadVar tp a).run P w = .ok x w) (hb : (loadVar tu b).run P w = .ok y w) :
    (results fn tmps).run P w = .ok (.tuple #[x, y]) w := by
  have hp' : tmps[p]?.getD undef = .pointer (some a) := by simpa using hp
  have hu' : tmps[u]?.getD undef = .pointer (some b) := by simpa using hu
  simp [results, h, hp', hu', asAddr, Sem.run_bind, Result.andThen, ha, hb]
theorem runs_any (A : Option Addr) (n c : Nat) (w : World) : Calls Try.prog 25 #[.slice A n c] w fun e w' => e = .returned (.func (.func 34) #[] #[.pointer (some ⟨w.heap.size, 0, none⟩)]) ∧ w.alloc (.cells #[.slice A n c] 32) = w' := by
  go_enter Try.func25, Try.ntmps25
  go_wp2
  go_ret
  exact ⟨rfl, rfl⟩
set_option maxHeartbeats 1000000 in
theorem sort_full (blk off cap : Nat) (d0 d : Array S40) (w0 w : World) (R : RowK enc40 6 w0 blk off d0) (hs : d0.size = d.size) (S : SWK enc40 6 w0 blk off d w) (hsz : d.size < 1000000) :
    Calls Try.prog 23 #[.slice (some ⟨blk, off, none⟩) d.size cap, .func (.func 24) #[] #[]] w (Sorts blk off 0 d.size d w0) := by
  have hst := Aside0.mk (stable_full blk off cap d0 d w0 w R hs S hsz)
  clear R S hs
  go_enter Try.func23, Try.ntmps23
  go_wp2_with (go_at_call 33; refine Calls.mono hst.out ?_; rintro e w' ⟨rfl, hS⟩; have HS := Aside0.mk hS; clear hS)
  go_end0
  exact ⟨rfl, HS.out⟩
theorem sort_nice (l : List S40) (g cap : Nat) (w : World) (hH : HoldsK enc40 6 w g 0 l.toArray) (hg : g < w.heap.size) (hn : l.length < 1000000) :
    Calls Try.prog 23 #[.slice (some ⟨g, 0, none⟩) l.length cap, .func (.func 24) #[] #[]] w fun e w' => ∃ t : List S40, (t.length = l.length ∧ absL t = absL l ∧ (runsF t.length t).flatMap keepL = ofL l) ∧ e = .returned (.tuple #[]) ∧ w.grownBy w' (some g) ∧ Kd.C k40 w' (some ⟨g, 0, none⟩) t.length t := by
  refine (sort_full g 0 cap l.toArray l.toArray w w ⟨fun _ => rfl, enc40_one, hH, hg⟩ rfl (SWK.start hH) (by simpa using hn)).mono ?_
  rintro e w' ⟨rfl, d', ⟨hp, hsrt⟩, n, os, rfl⟩
  have hsz : d'.size = l.toArray.size := hp.1
  have hperm : d'.toList.Perm l := by have := perm_of_in l.toArray d' hp; simpa using this
  have hup : Up d'.toList := up_of_sorted d' (by rw [hsz]; exact hsrt)
  refine ⟨d'.toList, ⟨hperm.length_eq, absL_perm hperm, ofL_of _ _ hup hperm⟩, rfl, ⟨rfl, rfl, rfl, ?_, ?_⟩, ?_⟩
  · show w.heap.size ≤ ((putRowK enc40 6 (Sort.ahead w n) g 0 _).heap ++ os).size
    rw [Array.size_append]
    have : (putRowK enc40 6 (Sort.ahead w n) g 0 d').heap.size = w.heap.size := size_putRow _ _ _ _ _
    omega
  · intro i hi hne
    show ((putRowK enc40 6 (Sort.ahead w n) g 0 _).heap ++ os)[i]? = _
    have h1 : (putRowK enc40 6 (Sort.ahead w n) g 0 d').heap.size = w.heap.size := size_putRow _ _ _ _ _
    rw [Array.getElem?_append_left (by rw [h1]; exact hi)]
    show (w.heap.modify g _)[i]? = _
    rw [Array.getElem?_modify, if_neg (fun e => hne (by rw [e]))]
  · exact C_of_holds (holdsK_grow enc40 6 _ os g 0 _ (by rw [show (putRowK enc40 6 (Sort.ahead w n) g 0 d').heap.size = w.heap.size from size_putRow _ _ _ _ _]; exact hg) (holdsK_putRowK enc40 6 (Sort.ahead w n) g 0 l.toArray _ (holdsK_ahead enc40 6 w n g 0 _ hH) hsz)) (by rw [hsz]; simp; omega)
theorem Kp.setCell_ {S : Nat → Prop} (A : World) (g : Nat) (u : Value) (h : ¬ S g) : Kp S A (A.setCell ⟨g, 0, none⟩ u) :=
  ⟨by simp [World.setCell], fun r hr _ => Below.heap_setCell A ⟨g, 0, none⟩ u r (fun e => h (by have e' : r = g := e; rw [← e']; exact hr))⟩
theorem C_lt {w : World} {g : Nat} {t : List S40} (h : Kd.C k40 w (some ⟨g, 0, none⟩) t.length t) (hne : t ≠ []) : g < w.heap.size := by
  cases t with
  | nil => exact absurd rfl hne
  | cons x r =>
    obtain ⟨ad, e, h0, _⟩ := at_T40 h 0 (by omega) (by simp)
    cases e
    exact World.block_lt_of_cell? w _ h0
/-- What is read of one block stays while the block stays. -/
theorem C_touch {w w1 : World} {g : Nat} {t : List S40} (h : Kd.C k40 w (some ⟨g, 0, none⟩) t.length t) (hb : w1.heap[g]? = w.heap[g]?) : Kd.C k40 w1 (some ⟨g, 0, none⟩) t.length t := by
  obtain ⟨h1, h2, h3⟩ := h
  refine ⟨h1, h2, fun hp => ?_⟩
  obtain ⟨ad, e, hc⟩ := h3 hp
  cases e
  refine ⟨_, rfl, fun j p hj => ?_⟩
  obtain ⟨c, hl, hk, hcc⟩ := hc j p hj
  refine ⟨c, hl, by rw [k40_enc hk]; exact ⟨_, _, rfl, k30_mk w1 p.f0, rfl⟩, fun i u hu => ?_⟩
  have := hcc i u hu
  rw [add_p2] at this ⊢
  unfold World.cell? at this ⊢
  rw [show (⟨g, 0 + (j * k40.sz + i), none⟩ : Addr).block = g from rfl] at this ⊢
  rw [hb]; exact this
set_option maxHeartbeats 4000000 in
set_option maxRecDepth 100000 in
theorem of_main (l : List S40) (A0 : Option Addr) (c0 : Nat) (w : World) (hr : Kd.C k40 w A0 l.length l) (hc0 : l.length ≤ c0) (hne : l ≠ []) (hn : l.length ≤ 1000) (hs : absL l < 4611686018427387904) :
    CallsIn Fence.wide 0 Try.prog 10 #[.slice A0 l.length c0] w fun e w' => ∃ v0_ : Value, e = .returned (.tuple #[v0_, .int .i64 0]) ∧ Kd.R k40 40 w' w.heap.size (fun _ => True) v0_ (ofL l) ∧ Below w.heap.size w w' := by
  refine callsIn_of_wp_marks Try.func10 rfl trivial ?_
  simp only [Try.ntmps10, List.size_toArray, List.length_cons, List.length_nil, Nat.reduceAdd, Nat.reduceSub, Array.replicate_succ, Array.replicate_zero, List.push_toArray, List.append_toArray, List.nil_append, List.cons_append]
  have hcl : ∀ W, Below w.heap.size w W → Aside0 (CallsIn Fence.wide 0 Try.prog 22 #[.slice A0 l.length c0] W fun e w' => ∃ g cap, e = .returned (.slice (some ⟨g, 0, none⟩) l.length cap) ∧ W.heap.size ≤ g ∧ g < w'.heap.size ∧ l.length ≤ cap ∧ HoldsK enc40 6 w' g 0 l.toArray ∧ Below W.heap.size W w') :=
    fun W hb => ⟨callsIn_wide.2 (clone_any l A0 c0 W (Kd.C_below hr hb) hne (by omega))⟩
  gi_wp2_with (first
    | (refine ⟨trivial, rfl, ?_⟩; gi_at_call 22; refine (hcl _ (((Below.refl _ _).alloc (by simp) _).alloc (by simp) _)).out.mono ?_; rintro e w2 ⟨g, cap, rfl, hg1, hg2, hcap, hH, hb2⟩; have HH := Aside0.mk hH; have HB2 := Aside0.mk hb2; clear hH hb2)
    | (refine ⟨trivial, rfl, ?_⟩; gi_at_call 23; refine (callsIn_wide.2 (sort_nice l g cap _ HH.out hg2 (by omega))).mono ?_; rintro e w3 ⟨t, ht, rfl, hgr, hC⟩; have HT := Aside0.mk ht; have HGR := Aside0.mk hgr; have HC := Aside0.mk hC; clear hgr hC ht)
    | (refine ⟨trivial, rfl, ?_⟩; gi_at_call 25; refine (callsIn_wide.2 (runs_any _ _ _ _)).mono ?_; rintro e w' ⟨rfl, rfl⟩))
  have hlen : t.length = l.length := HT.out.1
  have hs' : absL t < 4611686018427387904 := by rw [HT.out.2.1]; exact hs
  obtain ⟨w4, hw4⟩ : ∃ w4, ((w3.alloc (Obj.cells #[Value.slice none 0 0] 33)).alloc (Obj.cells #[Value.slice (some ⟨g, 0, none⟩) l.length cap] 32)) = w4 := ⟨_, rfl⟩
  rw [hw4]
  have hz : w4.heap.size = w3.heap.size + 2 := by rw [← hw4]; simp
  have hg1' : w.heap.size + 2 ≤ g := by simpa using hg1
  have y0 : w4.heap[w3.heap.size]? = some (.cells #[Value.slice none 0 0] 33 (0, 0)) := by rw [← hw4]; exact (Below.heap_alloc _ _ _ (by simp)).trans (World.alloc_heap_new _ _)
  have y1 : w4.heap[w3.heap.size + 1]? = some (.cells #[Value.slice (some ⟨g, 0, none⟩) t.length cap] 32 (0, 0)) := by
    rw [hlen, ← hw4]; have := World.alloc_heap_new (w3.alloc (Obj.cells #[Value.slice none 0 0] 33)) (Obj.cells #[Value.slice (some ⟨g, 0, none⟩) l.length cap] 32); rwa [World.size_alloc] at this
  have hsz3 : w.heap.size + 2 ≤ w3.heap.size := by have h1 := HB2.out.size; have h2 := HGR.out.size; simp at h1; omega
  have keep4 : ∀ k o, k < w.heap.size + 2 → ((w.alloc (Obj.cells #[Value.slice none 0 0] 33)).alloc (Obj.cells #[Value.int IntKind.i64 0] 34)).heap[k]? = some o → w4.heap[k]? = some o := by
    intro k o hk h
    rw [← hw4, Below.heap_alloc _ _ _ (by simp; omega), Below.heap_alloc _ _ _ (by omega), HGR.out.block k (by have := HB2.out.size; simp at this; omega) (by intro e; injection e; omega), HB2.out.block k (by simpa using hk)]
    exact h
  have y2 : w4.heap[w.heap.size]? = some (.cells #[Value.slice none 0 0] 33 (0, 0)) := keep4 _ _ (by omega) ((Below.heap_alloc _ _ _ (by simp)).trans (World.alloc_heap_new _ _))
  have y3 : w4.heap[w.heap.size + 1]? = some (.cells #[Value.int IntKind.i64 0] 34 (0, 0)) := keep4 _ _ (by omega) (by have := World.alloc_heap_new (w.alloc (Obj.cells #[Value.slice none 0 0] 33)) (Obj.cells #[Value.int IntKind.i64 0] 34); rwa [World.size_alloc] at this)
  have hC4 : Kd.C k40 w4 (some ⟨g, 0, none⟩) t.length t := by rw [← hw4]; exact Kd.C_below HC.out (((Below.refl _ _).alloc (Nat.le_refl _) _).alloc (by simp) _)
  have hB4 : Below w.heap.size w w4 := by
    rw [← hw4]
    exact (((((Below.refl _ _).alloc (Nat.le_refl _) _).alloc (by simp) _).trans (HB2.out.mono (by simp; omega))).grown HGR.out (by have := HB2.out.size; simp at this; omega) (fun k e => by injection e; omega)).alloc (by omega) _ |>.alloc (by simp; omega) _
  have hg3 : g < w3.heap.size := by have := HGR.out.size; omega
  clear keep4 hcl
  have HZ := Aside0.mk hz
  have hS : ∀ r, Sof (fun r => r = w3.heap.size + 1) w4 (2 + 0) r → w3.heap.size + 1 ≤ r ∧ r < w3.heap.size + 4 := by
    rintro r (h | ⟨h1, h2⟩) <;> omega
  refine wpIn_range (gf := 34) (lb := #[.pointer (some ⟨w3.heap.size + 1, 0, none⟩)]) rfl (enters_of Try.func34 (by kernel_rfl) rfl) (encs := fun x : Chunk => #[.slice x.A x.l.length x.c]) (fun _ => rfl) (own := fun r => r = w3.heap.size + 1) (K := 0)
    (Kg := fun W => Kd.C k40 W (some ⟨g, 0, none⟩) t.length t) (xs := chunksF t.length (some ⟨g, 0, none⟩) cap t) (by intro r h; omega)
    (fun o1 o2 => runs_iter _ _ _ _ _ (blk_alloc (blk_alloc y1 o1) o2) (by omega) (by omega))
    (fun pre W' => ∃ v, W'.heap[w3.heap.size]? = some (.cells #[v] 33 (0, 0)) ∧ Kd.R k40 40 W' (w3.heap.size + 4) (fun k => w3.heap.size + 4 ≤ k) v (pre.flatMap fun x => keepL x.l) ∧ W'.heap[w.heap.size]? = some (.cells #[Value.slice none 0 0] 33 (0, 0)) ∧ W'.heap[w.heap.size + 1]? = some (.cells #[Value.int IntKind.i64 0] 34 (0, 0)) ∧
      Kd.C k40 W' (some ⟨g, 0, none⟩) t.length t ∧ Below w.heap.size w W')
    (fun _ _ _ => False)
    (fun _ _ h => h.elim fun _ h => h.2.2.2.2.1)
    (fun _ A B hs ht => by
      obtain ⟨v, h1, h2, h4, h5, h6, h7⟩ := hs
      exact ⟨v, (ht.same _ (blk_lt h1) (fun h => by have := hS _ h; omega)).trans h1, Kd.R_step h2 (fun k hk hl => ht.same k hl (fun h => by have := hS _ h; omega)), (ht.same _ (blk_lt h4) (fun h => by have := hS _ h; omega)).trans h4, (ht.same _ (blk_lt h5) (fun h => by have := hS _ h; omega)).trans h5,
        C_touch h6 (ht.same g (C_lt h6 (by intro e; rw [e] at hlen; exact hne (List.eq_nil_of_length_eq_zero hlen.symm))) (fun h => by have := hS _ h; have := hg3; omega)), ht.below h7 h7.size (fun r hr => by have := hS _ hr; omega)⟩)
    (fun _ _ _ _ h _ => h)
    ⟨_, y0, Kd.R_nil _ _ _ _ _, y2, y3, hC4, hB4⟩
    (fun x => { tmps := #[Value.slice (some ⟨g, 0, none⟩) l.length cap, undef, Value.pointer (some ⟨w.heap.size, 0, none⟩), Value.pointer (some ⟨w.heap.size + 1, 0, none⟩), Value.pointer (some ⟨w3.heap.size, 0, none⟩),
          .slice x.A x.l.length x.c, undef, undef, undef, undef, undef,
          Value.slice A0 l.length c0, Value.slice (some ⟨g, 0, none⟩) l.length cap, Value.slice (some ⟨g, 0, none⟩) l.length cap, Value.tuple #[], Value.slice (some ⟨g, 0, none⟩) l.length cap,
          Value.func (Fn.func 34) #[] #[Value.pointer (some ⟨w3.heap.size + 1, 0, none⟩)], .slice x.A x.l.length x.c, undef, undef, undef, undef, undef, undef, undef, undef, undef, undef, undef, undef, undef, undef, undef, undef, undef, undef, undef, undef, undef, undef, undef, undef, undef, undef, undef, undef, undef, undef, undef, undef, undef, undef, undef, undef], defers := [] }) ?assign ?body ?done ?stop
  case assign =>
    intro l x W K hK
    gi_wp2
    exact hK
  case stop =>
    rintro c pre W' h hK
    exact h.elim
  case done =>
    rintro W' ⟨v, h1, h2, h4, h5, h6, h7⟩ hK
    have hK' := Aside0.mk hK
    clear hK
    obtain ⟨acc, hacc⟩ : ∃ acc, ((chunksF t.length (some (⟨g, 0, none⟩ : Addr)) cap t).flatMap fun x => keepL x.l) = acc := ⟨_, rfl⟩
    rw [hacc] at h2
    have hof : acc = ofL l := by rw [← hacc, ← HT.out.2.2, ← chunks_lists _ (some ⟨g, 0, none⟩) cap, List.flatMap_map]
    obtain ⟨Av, cv, rfl⟩ := Kd.R_slice h2
    have HV := Aside0.mk h2
    have HB := Aside0.mk h7
    have k4 := Aside0.mk h4
    have k5 := Aside0.mk h5
    have d1 : W'.cell? ⟨w3.heap.size, 0, none⟩ = some (.slice Av acc.length cv) := by simp [World.cell?, h1]
    have d2 : W'.cell? ⟨w.heap.size, 0, none⟩ = some (.slice none 0 0) := by simp [World.cell?, h4]
    have d3 : W'.cell? ⟨w.heap.size + 1, 0, none⟩ = some (.int .i64 0) := by simp [World.cell?, h5]
    have f2 : W'.frozen? ⟨w.heap.size, 0, none⟩ = false := by simp [World.frozen?, h4]
    have f3 : W'.frozen? ⟨w.heap.size + 1, 0, none⟩ = false := by simp [World.frozen?, h5]
    have hsmall : decide (2000 < (acc.length : Int)) = false := decide_eq_false (by have := ofL_len l; rw [← hof] at this; omega)
    have HOF := Aside0.mk hof
    have m1 := Aside0.mk (blk_set h4 0 (.slice Av acc.length cv))
    have m2 := Aside0.mk (blk_far (p := ⟨w.heap.size, 0, none⟩) h5 (by simp) (.slice Av acc.length cv))
    clear h1 h2 h4 h5 h6 h7 hof hacc
    gi_wp2
    have kD := (Below.heap_setCell (W'.setCell ⟨w.heap.size, 0, none⟩ (.slice Av acc.length cv)) ⟨w.heap.size + 1, 0, none⟩ (.int .i64 0) w4.heap.size (show w4.heap.size ≠ w.heap.size + 1 from by have := HZ.out; omega)).trans ((Below.heap_setCell W' ⟨w.heap.size, 0, none⟩ (.slice Av acc.length cv) w4.heap.size (show w4.heap.size ≠ w.heap.size from by have := HZ.out; omega)).trans hK'.out)
    have m3 := blk_set m2.out 0 (.int .i64 0)
    have m4 := blk_far (p := ⟨w.heap.size + 1, 0, none⟩) m1.out (by simp) (.int .i64 0)
    refine ⟨by simp, .inl ⟨_, _, rfl, run_takeDeferred kD, ?_⟩⟩
    have HQ := Aside0.mk (fun (k : Nat) (h1 : k ≠ w4.heap.size) (h2 : k ≠ w.heap.size) (h3 : k ≠ w.heap.size + 1) => (show (((W'.setCell ⟨w.heap.size, 0, none⟩ (.slice Av acc.length cv)).setCell ⟨w.heap.size + 1, 0, none⟩ (.int .i64 0)).putObj w4.heap.size (Obj.deferred none)).heap[k]? = W'.heap[k]? from
      (World.putObj_heap_other h1).trans ((Below.heap_setCell _ ⟨w.heap.size + 1, 0, none⟩ _ k h3).trans (Below.heap_setCell _ ⟨w.heap.size, 0, none⟩ _ k h2))))
    have HQs := Aside0.mk (show (((W'.setCell ⟨w.heap.size, 0, none⟩ (.slice Av acc.length cv)).setCell ⟨w.heap.size + 1, 0, none⟩ (.int .i64 0)).putObj w4.heap.size (Obj.deferred none)).heap.size = W'.heap.size from by rw [World.putObj_size]; simp [World.setCell])
    have HQo : Aside0 ((((W'.setCell ⟨w.heap.size, 0, none⟩ (.slice Av acc.length cv)).setCell ⟨w.heap.size + 1, 0, none⟩ (.int .i64 0)).putObj w4.heap.size (Obj.deferred none)).os = W'.os ∧ (((W'.setCell ⟨w.heap.size, 0, none⟩ (.slice Av acc.length cv)).setCell ⟨w.heap.size + 1, 0, none⟩ (.int .i64 0)).putObj w4.heap.size (Obj.deferred none)).tape = W'.tape ∧ (((W'.setCell ⟨w.heap.size, 0, none⟩ (.slice Av acc.length cv)).setCell ⟨w.heap.size + 1, 0, none⟩ (.int .i64 0)).putObj w4.heap.size (Obj.deferred none)).output = W'.output) := ⟨rfl, rfl, rfl⟩
    generalize ((W'.setCell ⟨w.heap.size, 0, none⟩ (.slice Av acc.length cv)).setCell ⟨w.heap.size + 1, 0, none⟩ (.int .i64 0)) = X at m3 m4 HQ HQs HQo ⊢
    have p1 : (X.putObj w4.heap.size (Obj.deferred none)).cell? ⟨w.heap.size, 0, none⟩ = some (.slice Av acc.length cv) := by
      unfold World.cell?
      rw [show (⟨w.heap.size, 0, none⟩ : Addr).block = w.heap.size from rfl, World.putObj_heap_other (by have := HZ.out; omega), m4]
      rfl
    have p2 : (X.putObj w4.heap.size (Obj.deferred none)).cell? ⟨w.heap.size + 1, 0, none⟩ = some (.int .i64 0) := by
      unfold World.cell?
      rw [show (⟨w.heap.size + 1, 0, none⟩ : Addr).block = w.heap.size + 1 from rfl, World.putObj_heap_other (by have := HZ.out; omega), m3]
      rfl
    generalize (X.putObj w4.heap.size (Obj.deferred none)) = Y at p1 p2 HQ HQs HQo ⊢
    refine ⟨_, results_cell2 rfl _ _ ⟨w.heap.size, 0, none⟩ ⟨w.heap.size + 1, 0, none⟩ (.slice Av acc.length cv) (.int .i64 0) rfl rfl (by go_simp) (by go_simp), _, rfl, ?_, ?_⟩
    · rw [← HOF.out]
      exact Kd.R_lower (Kd.R_mono (Kd.R_step (Kd.R_bound HV.out) (fun k hk hl => HQ.out k (by have := HZ.out; have := hk.2.1; omega) (by have := hk.2.1; omega) (by have := hk.2.1; omega))) (fun _ _ => trivial)) (by omega)
    · exact ⟨HQo.out.1.trans HB.out.os, HQo.out.2.1.trans HB.out.tape, HQo.out.2.2.trans HB.out.output, by rw [HQs.out]; exact HB.out.size, fun k hk => (HQ.out k (by have := HZ.out; omega) (by omega) (by omega)).trans (HB.out.block k hk)⟩
  case body =>
    rintro l' pre ⟨xA, xc, xl⟩ rest W' hxs ⟨v, h1, h2, h4, h5, h6, h7⟩ hsz
    obtain ⟨xne, xlc, xll, xabs, xC⟩ := chunks_read t.length (some ⟨g, 0, none⟩) cap t h6 (by omega) ⟨xA, xc, xl⟩ (by rw [hxs]; simp)
    dsimp only at xne xlc xll xabs xC ⊢
    have hxp : 0 < xl.length := List.length_pos_iff.2 xne
    have hpl : pre.length < 1001 := by
      have h0 := congrArg List.length hxs
      have h8 : (chunksF t.length (some (⟨g, 0, none⟩ : Addr)) cap t).length ≤ t.length := by
        have := congrArg List.length (chunks_lists t.length (some ⟨g, 0, none⟩) cap t)
        rw [List.length_map] at this
        rw [this]; exact runsF_len _ _
      simp at h0
      omega
    have HXC := Aside0.mk xC
    have G0 := Aside0.mk h1
    obtain ⟨Av, cv, rfl⟩ := Kd.R_slice h2
    have HV := Aside0.mk h2
    have K4 := Aside0.mk h4
    have K5 := Aside0.mk h5
    have HC6 := Aside0.mk h6
    have HB := Aside0.mk h7
    have HXS := Aside0.mk hxs
    have HSZ := Aside0.mk (show w3.heap.size + 4 ≤ W'.heap.size by have := HZ.out; omega)
    obtain ⟨ad, rfl, z0, z1, z2, z3, z4, z5⟩ := at_T40 HXC.out 0 (by omega) (by omega)
    rw [show (0 : Int).toNat * 6 = 0 from rfl, Addr.add_zero'] at z0 z1 z2 z3 z4 z5
    have hpos : (0 < xl.length) = True := eq_true hxp
    clear h1 h2 h4 h5 h6 h7 hxs hsz xC
    have HK0 := Aside0.mk (show rd_T40 xl 0 = rd_T40 xl 0 from rfl)
    gi_wp2
    obtain ⟨w5, hw5⟩ : ∃ w5, (W'.alloc (Obj.cells #[Value.string (rd_T40 xl 0).f0.f0, Value.string (rd_T40 xl 0).f0.f1, Value.string (rd_T40 xl 0).f0.f2, Value.string (rd_T40 xl 0).f0.f3, Value.int IntKind.i64 (rd_T40 xl 0).f0.f4, Value.int IntKind.i64 0] 40)) = w5 := ⟨_, rfl⟩
    rw [hw5]
    have g5 : w5.heap[W'.heap.size]? = some (.cells #[Value.string (rd_T40 xl 0).f0.f0, Value.string (rd_T40 xl 0).f0.f1, Value.string (rd_T40 xl 0).f0.f2, Value.string (rd_T40 xl 0).f0.f3, Value.int IntKind.i64 (rd_T40 xl 0).f0.f4, Value.int IntKind.i64 (sumL (xl.take (0 : Int).toNat))] 40 (0, 0)) := by rw [← hw5]; exact World.alloc_heap_new _ _
    have hB5 : Below W'.heap.size W' w5 := by rw [← hw5]; exact (Below.refl _ _).alloc (Nat.le_refl _) _
    clear hw5 z0 z1 z2 z3 z4 z5 hpos
    gi_loopw [25] (fun v25 wr => ∃ i : Int, 0 ≤ i ∧ i ≤ xl.length ∧ v25 = .int .i64 i ∧
      Aside0 (wr.heap[W'.heap.size]? = some (.cells #[Value.string (rd_T40 xl 0).f0.f0, Value.string (rd_T40 xl 0).f0.f1, Value.string (rd_T40 xl 0).f0.f2, Value.string (rd_T40 xl 0).f0.f3, Value.int IntKind.i64 (rd_T40 xl 0).f0.f4, Value.int IntKind.i64 (sumL (xl.take i.toNat))] 40 (0, 0))) ∧ Aside0 (Below W'.heap.size W' wr)) (fun v25 _ => xl.length - (intOf v25).toNat)
    case atStart => exact ⟨0, by omega, by omega, rfl, ⟨g5⟩, ⟨hB5⟩⟩
    case round =>
      obtain ⟨i, hi0, hi1, rfl, gs, hBs⟩ := hrel
      have s5 : wr.cell? ⟨W'.heap.size, 5, none⟩ = some (.int .i64 (sumL (xl.take i.toNat))) := by simp [World.cell?, gs.out]
      have t5 : wr.frozen? ⟨W'.heap.size, 5, none⟩ = false := by simp [World.frozen?, gs.out]
      by_cases hlt : i < (xl.length : Int)
      · obtain ⟨ad', ead', z0, z1, z2, z3, z4, z5⟩ := at_T40 (Kd.C_below HXC.out hBs.out) i hi0 hlt
        cases ead'
        have hsum : sumL (xl.take (i + 1).toNat) = sumL (xl.take i.toNat) + (rd_T40 xl i).f1 := sumL_take xl i hi0 hlt
        have hb1 := sumL_bound xl i.toNat (by omega)
        have hb2 := abs_at xl i hi0 hlt
        have hadd : ∀ W, Aside0 (CallsIn Fence.wide 0 Try.prog 26 #[.int .i64 (sumL (xl.take i.toNat)), .int .i64 (rd_T40 xl i).f1] W fun e w' => e = .returned (.tuple #[.int .i64 (sumL (xl.take (i + 1).toNat)), .int .i64 0]) ∧ Drawn0 W w') :=
          fun W => ⟨by rw [hsum]; exact callsIn_wide.2 (add_any _ _ W (by omega) (by omega))⟩
        clear hsum hb1 hb2
        have gs2 := blk_alloc gs.out (Obj.cells #[Value.string (rd_T40 xl i).f0.f0, Value.string (rd_T40 xl i).f0.f1, Value.string (rd_T40 xl i).f0.f2, Value.string (rd_T40 xl i).f0.f3, Value.int IntKind.i64 (rd_T40 xl i).f0.f4, Value.int IntKind.i64 (rd_T40 xl i).f1] 40)
        have gx2 := World.alloc_heap_new wr (Obj.cells #[Value.string (rd_T40 xl i).f0.f0, Value.string (rd_T40 xl i).f0.f1, Value.string (rd_T40 xl i).f0.f2, Value.string (rd_T40 xl i).f0.f3, Value.int IntKind.i64 (rd_T40 xl i).f0.f4, Value.int IntKind.i64 (rd_T40 xl i).f1] 40)
        have s6 : (wr.alloc (Obj.cells #[Value.string (rd_T40 xl i).f0.f0, Value.string (rd_T40 xl i).f0.f1, Value.string (rd_T40 xl i).f0.f2, Value.string (rd_T40 xl i).f0.f3, Value.int IntKind.i64 (rd_T40 xl i).f0.f4, Value.int IntKind.i64 (rd_T40 xl i).f1] 40)).cell? ⟨W'.heap.size, 5, none⟩ = some (.int .i64 (sumL (xl.take i.toNat))) := by simp [World.cell?, gs2]
        have t6 : (wr.alloc (Obj.cells #[Value.string (rd_T40 xl i).f0.f0, Value.string (rd_T40 xl i).f0.f1, Value.string (rd_T40 xl i).f0.f2, Value.string (rd_T40 xl i).f0.f3, Value.int IntKind.i64 (rd_T40 xl i).f0.f4, Value.int IntKind.i64 (rd_T40 xl i).f1] 40)).frozen? ⟨W'.heap.size, 5, none⟩ = false := by simp [World.frozen?, gs2]
        have s7 : (wr.alloc (Obj.cells #[Value.string (rd_T40 xl i).f0.f0, Value.string (rd_T40 xl i).f0.f1, Value.string (rd_T40 xl i).f0.f2, Value.string (rd_T40 xl i).f0.f3, Value.int IntKind.i64 (rd_T40 xl i).f0.f4, Value.int IntKind.i64 (rd_T40 xl i).f1] 40)).cell? ⟨wr.heap.size, 5, none⟩ = some (.int .i64 (rd_T40 xl i).f1) := by
          unfold World.cell?
          rw [show (⟨wr.heap.size, 5, none⟩ : Addr).block = wr.heap.size from rfl, gx2]; rfl
        have GS2 := Aside0.mk gs2
        have HBA := Aside0.mk (hBs.out.alloc (hBs.out.size) (Obj.cells #[Value.string (rd_T40 xl i).f0.f0, Value.string (rd_T40 xl i).f0.f1, Value.string (rd_T40 xl i).f0.f2, Value.string (rd_T40 xl i).f0.f3, Value.int IntKind.i64 (rd_T40 xl i).f0.f4, Value.int IntKind.i64 (rd_T40 xl i).f1] 40))
        clear gs2 gx2
        gi_wp2_with (refine ⟨trivial, rfl, ?_⟩; gi_at_call 26; refine (CallsIn.inRound l' (hadd _).out).mono ?_; rintro e w6 ⟨rfl, ⟨nd, rfl⟩⟩)
        go_roundw
        case rel => exact ⟨i + 1, by omega, by omega, rfl, ⟨by
          have hset := blk_set (w := (wr.alloc (Obj.cells #[Value.string (rd_T40 xl i).f0.f0, Value.string (rd_T40 xl i).f0.f1, Value.string (rd_T40 xl i).f0.f2, Value.string (rd_T40 xl i).f0.f3, Value.int IntKind.i64 (rd_T40 xl i).f0.f4, Value.int IntKind.i64 (rd_T40 xl i).f1] 40)).drewN nd) GS2.out 5 (.int .i64 (sumL (xl.take (i + 1).toNat)))
          simpa using hset⟩, ⟨(pw_below_drewN HBA.out nd).setCell (p := ⟨W'.heap.size, 5, none⟩) (Nat.le_refl _) _⟩⟩
        case measure => simp [intOf]; omega
      · have hfull : xl.take i.toNat = xl := List.take_of_length_le (by omega)
        rw [hfull] at s5
        have GS := Aside0.mk (by have := gs.out; rwa [hfull] at this)
        have HBx := Aside0.mk hBs.out
        have hkeep : keepL xl = if sumL xl = 0 then [] else [⟨(rd_T40 xl 0).f0, sumL xl⟩] := by
          cases xl with
          | nil => exact absurd rfl xne
          | cons x r => rfl
        have HK := Aside0.mk hkeep
        clear hfull gs hBs hkeep
        by_cases h0 : sumL xl = 0
        · have h0b : (sumL xl != 0) = false := bne_eq_false_iff_eq.mpr h0
          have H0 := Aside0.mk h0
          clear h0
          gi_wp2
          refine ⟨Kp.of_below HBx.out, _, (HBx.out.block _ (blk_lt G0.out)).trans G0.out, ?_, (HBx.out.block _ (blk_lt K4.out)).trans K4.out, (HBx.out.block _ (blk_lt K5.out)).trans K5.out, (by have := Kd.C_below HC6.out HBx.out; rwa [hlen] at this), HB.out.trans (HBx.out.mono HB.out.size)⟩
          rw [List.flatMap_append, List.flatMap_singleton, HK.out, if_pos H0.out, List.append_nil]
          exact Kd.R_below HV.out HBx.out
        · have h0b : (sumL xl != 0) = true := bne_iff_ne.mpr h0
          have H0 := Aside0.mk h0
          clear h0
          have hal : ((pre.flatMap fun x => keepL x.l).length + 1) * 80 ≤ 140737488355328 := by
            have h8 := flat_keep (pre.map (·.l))
            rw [List.length_map, List.flatMap_map] at h8
            omega
          have HAL := Aside0.mk hal
          clear hal
          have HIN := Aside0.mk (show ((pre ++ [(⟨some ad, xc, xl⟩ : Chunk)]).flatMap fun x : Chunk => keepL x.l) = (pre.flatMap fun x => keepL x.l) ++ [⟨(rd_T40 xl 0).f0, sumL xl⟩] by rw [List.flatMap_append, List.flatMap_singleton, HK.out, if_neg H0.out])
          have HV2 := Aside0.mk (Kd.R_below HV.out HBx.out)
          have HVB := Aside0.mk (Kd.R_base HV.out)
          have HVL := Aside0.mk (Kd.R_lt HV.out)
          have kG := Aside0.mk ((HBx.out.block _ (blk_lt G0.out)).trans G0.out)
          clear HV
          generalize (pre.flatMap fun x => keepL x.l) = acc at HAL HIN HV2 HVB HVL kG ⊢
          have o1 : wr.cell? ⟨w3.heap.size, 0, none⟩ = some (.slice Av acc.length cv) := by simp [World.cell?, kG.out]
          have q0 : wr.cell? ⟨W'.heap.size, 0, none⟩ = some (.string (rd_T40 xl 0).f0.f0) := by simp [World.cell?, GS.out]
          have q1 : wr.cell? ⟨W'.heap.size, 1, none⟩ = some (.string (rd_T40 xl 0).f0.f1) := by simp [World.cell?, GS.out]
          have q2 : wr.cell? ⟨W'.heap.size, 2, none⟩ = some (.string (rd_T40 xl 0).f0.f2) := by simp [World.cell?, GS.out]
          have q3 : wr.cell? ⟨W'.heap.size, 3, none⟩ = some (.string (rd_T40 xl 0).f0.f3) := by simp [World.cell?, GS.out]
          have q4 : wr.cell? ⟨W'.heap.size, 4, none⟩ = some (.int .i64 (rd_T40 xl 0).f0.f4) := by simp [World.cell?, GS.out]
          gi_wp2_with (gi_at_builtin; refine R_append_in k40 (w3.heap.size + 4) rfl (.tmp 46) (.tmp 48) 33 40 (.agg #[(.string ⟨#[]⟩), (.string ⟨#[]⟩), (.string ⟨#[]⟩), (.string ⟨#[]⟩), (.int .i64 0), (.int .i64 0)]) 80 rfl Try.underlying33 info40 rfl (by decide) (by decide) (.slice Av acc.length cv) acc (⟨(rd_T40 xl 0).f0, sumL xl⟩ : S40) (enc40 ⟨(rd_T40 xl 0).f0, sumL xl⟩) (fun k => w3.heap.size + 4 ≤ k) (fun _ => False) rfl rfl ?hp (fun _ hk => hk.elim) ?hfresh HV2.out ?hbase HAL.out ?_
                       (case hp => exact ⟨_, _, rfl, k30_mkM _ _ _ _, rfl⟩)
                       (case hfresh => intro k hk; have := HBx.out.size; have := HSZ.out; omega)
                       (case hbase => have := HBx.out.size; have := HSZ.out; omega)
                       intro v1 w7 hv1 hg hat
                       obtain ⟨A1, c1, rfl⟩ := Kd.R_slice hv1
                       have HV1 := Aside0.mk hv1
                       have HG := Aside0.mk hg
                       clear hv1 hg hat
                       have k7 := Aside0.mk ((HG.out.block w3.heap.size (by have := HBx.out.size; have := HSZ.out; omega) (fun e => by have := HVB.out _ e.symm; omega)).trans kG.out)
                       have c7 : w7.cell? ⟨w3.heap.size, 0, none⟩ = some (.slice Av acc.length cv) := by simp [World.cell?, k7.out]
                       have f7 : w7.frozen? ⟨w3.heap.size, 0, none⟩ = false := by simp [World.frozen?, k7.out])
          have hV1 := HV1.out
          rw [List.length_append, List.length_singleton] at hV1
          have hz1 := HBx.out.size
          have hz2 := HSZ.out
          have hown : ∀ k : Nat, k < w3.heap.size + 4 → some k ≠ (Value.slice Av acc.length cv).ownBlock := fun k hk e => by have := HVB.out _ e.symm; omega
          have hold : ∀ (k : Nat) (o : Obj), k < w3.heap.size + 4 → k ≠ w3.heap.size → W'.heap[k]? = some o → (w7.setCell ⟨w3.heap.size, 0, none⟩ (.slice A1 (acc.length + 1) c1)).heap[k]? = some o := fun k o hk hne ho =>
            (Below.heap_setCell w7 ⟨w3.heap.size, 0, none⟩ _ k hne).trans ((HG.out.block k (by omega) (hown k hk)).trans ((HBx.out.block k (by omega)).trans ho))
          refine ⟨((Kp.of_below HBx.out).trans (Kp.of_grown HG.out (fun r e h => by have h1 := hS _ h; have h2 := HVB.out _ e; omega))).trans (Kp.setCell_ _ _ _ (fun h => by have h1 := hS _ h; omega)), _, blk_set k7.out 0 _, ?_,
            hold _ _ (by omega) (by omega) K4.out, hold _ _ (by omega) (by omega) K5.out, ?_, ((HB.out.trans (HBx.out.mono HB.out.size)).grown HG.out (Nat.le_trans HB.out.size HBx.out.size) (fun k e => by have h2 := HVB.out _ e; omega)).setCell (p := ⟨w3.heap.size, 0, none⟩) (show w.heap.size ≤ w3.heap.size by omega) _⟩
          · rw [HIN.out]
            exact Kd.R_far hV1 (fun k hk e => by simp at e; omega) _
          · have hgC := Kd.C_below HC6.out HBx.out
            have := C_touch hgC (w1 := w7.setCell ⟨w3.heap.size, 0, none⟩ (.slice A1 (acc.length + 1) c1)) ((Below.heap_setCell w7 ⟨w3.heap.size, 0, none⟩ _ g (show g ≠ w3.heap.size by omega)).trans (HG.out.block g (by omega) (hown g (by omega))))
            rwa [hlen] at this
set_option maxHeartbeats 1000000 in
theorem clone_nil (A : Option Addr) (c : Nat) (w : World) : Calls Try.prog 22 #[.slice A 0 c] w fun e w' => ∃ A' c', e = .returned (.slice A' 0 c') ∧ Below w.heap.size w w' := by
  have q22 : ∀ (w : World) (a : Option Addr) (n c n' c' : Nat), (binOp .eql 32 (.slice a n c) (.slice none n' c')).run Try.prog w = .ok (.bool a.isNone) w := fun w a n c n' c' => Lib.run_eql_slice_nil w _ _ a n c n' c' Try.underlying32
  cases A with
  | none =>
    go_enter Try.func22, Try.ntmps22
    go_wp2
    go_ret
    exact ⟨_, _, rfl, Below.refl _ _⟩
  | some ad =>
    obtain ⟨i0, hi0, hz⟩ := Option.map_eq_some_iff.1 info40
    injection hz with z1 z2
    injection z2 with z2 z3
    go_enter Try.func22, Try.ntmps22
    go_wp2_with (at_builtin; refine wpList_append_own _ rfl _ _ 32 rfl w.heap.size 40 i0 _ 6 80 Try.underlying32 hi0 z1 z2 z3 rfl (by decide) _ _ _ rfl (World.ownsRow_made w #[] 0 (Nat.le_refl _) (Nat.zero_le _) (by simp)) ad 0 c [] rfl ?qc1 ?qc2 ?qc3 ?qc4 ?qc5 ?qc6 ?_)
    case qc1 => rfl
    case qc2 => intro j u hj; simp at hj
    case qc3 => intro u hu; simp at hu
    case qc4 => exact Nat.zero_le _
    case qc5 => omega
    case qc6 => simp
    intro v' w1 hown hgrow hnil
    have hv : ∃ A' c', v' = .slice A' 0 c' := by
      obtain ⟨_, ho⟩ := hown
      rcases ho with ⟨rfl, _⟩ | ⟨g, cap, cur, rfl, _⟩
      · exact ⟨_, _, rfl⟩
      · exact ⟨_, _, rfl⟩
    obtain ⟨A', c', rfl⟩ := hv
    have HG := Aside0.mk hgrow
    clear hown hgrow hnil
    go_wp2
    go_ret
    exact ⟨A', c', rfl, ((Below.refl _ w).alloc (Nat.le_refl _) _).grown HG.out (by simp) (by intro k hk; simp [Value.ownBlock] at hk; omega)⟩
set_option maxHeartbeats 1000000 in
theorem ins_nil (A : Option Addr) (c : Nat) (v : Value) (w : World) : Calls Try.prog 37 #[.slice A 0 c, .int .i64 0, .int .i64 0, v] w fun e w' => e = .returned (.tuple #[]) ∧ w = w' := by
  go_enter Try.func37, Try.ntmps37
  go_wp2
  go_loop [8] (fun s => s = .int .i64 1) (fun _ => 0)
  case atStart => exact rfl
  case round =>
    obtain rfl := hrel
    go_wp2
    go_end0
    exact ⟨rfl, rfl⟩
set_option maxHeartbeats 1000000 in
theorem sort_nil (A : Option Addr) (c : Nat) (w : World) : Calls Try.prog 23 #[.slice A 0 c, .func (.func 24) #[] #[]] w fun e w' => e = .returned (.tuple #[]) ∧ w = w' := by
  have hst : ∀ W, Aside0 (Calls Try.prog 33 #[.slice A 0 c, .int .i64 0, .func (.func 24) #[] #[]] W fun e w' => e = .returned (.tuple #[]) ∧ W = w') := fun W => ⟨by
    go_enter Try.func33, Try.ntmps33
    go_wp2
    go_loop [7, 8] (fun v7 v8 => v7 = .int .i64 0 ∧ v8 = .int .i64 20) (fun _ _ => 0)
    case atStart => exact ⟨rfl, rfl⟩
    case round =>
      obtain ⟨rfl, rfl⟩ := hrel
      go_wp2_with (go_at_call 37; refine (ins_nil _ _ _ _).mono ?_; rintro e w' ⟨rfl, rfl⟩)
      go_loop [6] (fun v6 => v6 = .int .i64 20) (fun _ => 0)
      case atStart => exact rfl
      case round =>
        obtain rfl := hrel
        go_wp2
        go_end0
        exact ⟨rfl, rfl⟩⟩
  go_enter Try.func23, Try.ntmps23
  go_wp2_with (go_at_call 33; refine (hst _).out.mono ?_; rintro e w' ⟨rfl, rfl⟩)
  go_end0
  exact ⟨rfl, rfl⟩
theorem C_none (W : World) (A : Option Addr) : Kd.C k40 W A 0 [] := ⟨rfl, Nat.zero_le _, fun h => absurd h (Nat.lt_irrefl 0)⟩
set_option maxHeartbeats 4000000 in
set_option maxRecDepth 100000 in
theorem of_nil (A0 : Option Addr) (c0 : Nat) (w : World) :
    CallsIn Fence.wide 0 Try.prog 10 #[.slice A0 0 c0] w fun e w' => ∃ v0_ : Value, e = .returned (.tuple #[v0_, .int .i64 0]) ∧ Kd.R k40 40 w' w.heap.size (fun _ => True) v0_ [] ∧ Below w.heap.size w w' := by
  refine callsIn_of_wp_marks Try.func10 rfl trivial ?_
  simp only [Try.ntmps10, List.size_toArray, List.length_cons, List.length_nil, Nat.reduceAdd, Nat.reduceSub, Array.replicate_succ, Array.replicate_zero, List.push_toArray, List.append_toArray, List.nil_append, List.cons_append]
  gi_wp2_with (first
    | (refine ⟨trivial, rfl, ?_⟩; gi_at_call 22; refine (callsIn_wide.2 (clone_nil A0 c0 _)).mono ?_; rintro e w2 ⟨A', c', rfl, hb2⟩; have HB2 := Aside0.mk hb2; clear hb2)
    | (refine ⟨trivial, rfl, ?_⟩; gi_at_call 23; refine (callsIn_wide.2 (sort_nil A' c' _)).mono ?_; rintro e w3 ⟨rfl, rfl⟩)
    | (refine ⟨trivial, rfl, ?_⟩; gi_at_call 25; refine (callsIn_wide.2 (runs_any _ _ _ _)).mono ?_; rintro e w' ⟨rfl, rfl⟩))
  obtain ⟨w4, hw4⟩ : ∃ w4, ((w2.alloc (Obj.cells #[Value.slice none 0 0] 33)).alloc (Obj.cells #[Value.slice A' 0 c'] 32)) = w4 := ⟨_, rfl⟩
  rw [hw4]
  have hz : w4.heap.size = w2.heap.size + 2 := by rw [← hw4]; simp
  have hsz3 : w.heap.size + 2 ≤ w2.heap.size := by have h1 := HB2.out.size; simp at h1; omega
  have y0 : w4.heap[w2.heap.size]? = some (.cells #[Value.slice none 0 0] 33 (0, 0)) := by rw [← hw4]; exact (Below.heap_alloc _ _ _ (by simp)).trans (World.alloc_heap_new _ _)
  have y1 : w4.heap[w2.heap.size + 1]? = some (.cells #[Value.slice A' 0 c'] 32 (0, 0)) := by
    rw [← hw4]; have := World.alloc_heap_new (w2.alloc (Obj.cells #[Value.slice none 0 0] 33)) (Obj.cells #[Value.slice A' 0 c'] 32); rwa [World.size_alloc] at this
  have keep4 : ∀ k o, k < w.heap.size + 2 → ((w.alloc (Obj.cells #[Value.slice none 0 0] 33)).alloc (Obj.cells #[Value.int IntKind.i64 0] 34)).heap[k]? = some o → w4.heap[k]? = some o := by
    intro k o hk h
    rw [← hw4, Below.heap_alloc _ _ _ (by simp; omega), Below.heap_alloc _ _ _ (by omega), HB2.out.block k (by simpa using hk)]
    exact h
  have y2 : w4.heap[w.heap.size]? = some (.cells #[Value.slice none 0 0] 33 (0, 0)) := keep4 _ _ (by omega) ((Below.heap_alloc _ _ _ (by simp)).trans (World.alloc_heap_new _ _))
  have y3 : w4.heap[w.heap.size + 1]? = some (.cells #[Value.int IntKind.i64 0] 34 (0, 0)) := keep4 _ _ (by omega) (by have := World.alloc_heap_new (w.alloc (Obj.cells #[Value.slice none 0 0] 33)) (Obj.cells #[Value.int IntKind.i64 0] 34); rwa [World.size_alloc] at this)
  have hB4 : Below w.heap.size w w4 := by
    rw [← hw4]
    exact (((((Below.refl _ _).alloc (Nat.le_refl _) _).alloc (by simp) _).trans (HB2.out.mono (by simp; omega))).alloc (by omega) _).alloc (by simp; omega) _
  clear keep4
  have HZ := Aside0.mk hz
  have hS : ∀ r, Sof (fun r => r = w2.heap.size + 1) w4 (2 + 0) r → w2.heap.size + 1 ≤ r ∧ r < w2.heap.size + 4 := by
    rintro r (h | ⟨h1, h2⟩) <;> omega
  refine wpIn_range (gf := 34) (lb := #[.pointer (some ⟨w2.heap.size + 1, 0, none⟩)]) rfl (enters_of Try.func34 (by kernel_rfl) rfl) (encs := fun x : Chunk => #[.slice x.A x.l.length x.c]) (fun _ => rfl) (own := fun r => r = w2.heap.size + 1) (K := 0)
    (Kg := fun W => Kd.C k40 W A' ([] : List S40).length []) (xs := chunksF ([] : List S40).length A' c' []) (by intro r h; omega)
    (fun o1 o2 => runs_iter A' c' [] _ _ (blk_alloc (blk_alloc y1 o1) o2) (Nat.zero_le _) (Nat.zero_le _))
    (fun _ W' => W'.heap[w2.heap.size]? = some (.cells #[Value.slice none 0 0] 33 (0, 0)) ∧ W'.heap[w.heap.size]? = some (.cells #[Value.slice none 0 0] 33 (0, 0)) ∧ W'.heap[w.heap.size + 1]? = some (.cells #[Value.int IntKind.i64 0] 34 (0, 0)) ∧ Below w.heap.size w W')
    (fun _ _ _ => False)
    (fun _ W _ => C_none W A')
    (fun _ A B hs ht => by
      obtain ⟨h1, h4, h5, h7⟩ := hs
      exact ⟨(ht.same _ (blk_lt h1) (fun h => by have := hS _ h; omega)).trans h1, (ht.same _ (blk_lt h4) (fun h => by have := hS _ h; omega)).trans h4, (ht.same _ (blk_lt h5) (fun h => by have := hS _ h; omega)).trans h5, ht.below h7 h7.size (fun r hr => by have := hS _ hr; omega)⟩)
    (fun _ _ _ _ h _ => h)
    ⟨y0, y2, y3, hB4⟩
    (fun x => { tmps := #[Value.slice A' 0 c', undef, Value.pointer (some ⟨w.heap.size, 0, none⟩), Value.pointer (some ⟨w.heap.size + 1, 0, none⟩), Value.pointer (some ⟨w2.heap.size, 0, none⟩),
          .slice x.A x.l.length x.c, undef, undef, undef, undef, undef,
          Value.slice A0 0 c0, Value.slice A' 0 c', Value.slice A' 0 c', Value.tuple #[], Value.slice A' 0 c',
          Value.func (Fn.func 34) #[] #[Value.pointer (some ⟨w2.heap.size + 1, 0, none⟩)], .slice x.A x.l.length x.c, undef, undef, undef, undef, undef, undef, undef, undef, undef, undef, undef, undef, undef, undef, undef, undef, undef, undef, undef, undef, undef, undef, undef, undef, undef, undef, undef, undef, undef, undef, undef, undef, undef, undef, undef, undef], defers := [] }) ?assign ?body ?done ?stop
  case assign =>
    intro l x W K hK
    gi_wp2
    exact hK
  case stop =>
    rintro c pre W' h hK
    exact h.elim
  case body =>
    rintro l' pre x rest W' hxs _ _
    exact absurd hxs (by simp [chunksF])
  case done =>
    rintro W' ⟨h1, h4, h5, h7⟩ hK
    have hK' := Aside0.mk hK
    clear hK
    have HB := Aside0.mk h7
    have k4 := Aside0.mk h4
    have k5 := Aside0.mk h5
    have d1 : W'.cell? ⟨w2.heap.size, 0, none⟩ = some (.slice none 0 0) := by simp [World.cell?, h1]
    have d2 : W'.cell? ⟨w.heap.size, 0, none⟩ = some (.slice none 0 0) := by simp [World.cell?, h4]
    have d3 : W'.cell? ⟨w.heap.size + 1, 0, none⟩ = some (.int .i64 0) := by simp [World.cell?, h5]
    have f2 : W'.frozen? ⟨w.heap.size, 0, none⟩ = false := by simp [World.frozen?, h4]
    have f3 : W'.frozen? ⟨w.heap.size + 1, 0, none⟩ = false := by simp [World.frozen?, h5]
    have m1 := Aside0.mk (blk_set h4 0 (.slice none 0 0))
    have m2 := Aside0.mk (blk_far (p := ⟨w.heap.size, 0, none⟩) h5 (by simp) (.slice none 0 0))
    clear h1 h4 h5 h7
    gi_wp2
    have kD := (Below.heap_setCell (W'.setCell ⟨w.heap.size, 0, none⟩ (.slice none 0 0)) ⟨w.heap.size + 1, 0, none⟩ (.int .i64 0) w4.heap.size (show w4.heap.size ≠ w.heap.size + 1 from by have := HZ.out; omega)).trans ((Below.heap_setCell W' ⟨w.heap.size, 0, none⟩ (.slice none 0 0) w4.heap.size (show w4.heap.size ≠ w.heap.size from by have := HZ.out; omega)).trans hK'.out)
    have m3 := blk_set m2.out 0 (.int .i64 0)
    have m4 := blk_far (p := ⟨w.heap.size + 1, 0, none⟩) m1.out (by simp) (.int .i64 0)
    refine ⟨by simp, .inl ⟨_, _, rfl, run_takeDeferred kD, ?_⟩⟩
    have HQ := Aside0.mk (fun (k : Nat) (h1 : k ≠ w4.heap.size) (h2 : k ≠ w.heap.size) (h3 : k ≠ w.heap.size + 1) => (show (((W'.setCell ⟨w.heap.size, 0, none⟩ (.slice none 0 0)).setCell ⟨w.heap.size + 1, 0, none⟩ (.int .i64 0)).putObj w4.heap.size (Obj.deferred none)).heap[k]? = W'.heap[k]? from
      (World.putObj_heap_other h1).trans ((Below.heap_setCell _ ⟨w.heap.size + 1, 0, none⟩ _ k h3).trans (Below.heap_setCell _ ⟨w.heap.size, 0, none⟩ _ k h2))))
    have HQs := Aside0.mk (show (((W'.setCell ⟨w.heap.size, 0, none⟩ (.slice none 0 0)).setCell ⟨w.heap.size + 1, 0, none⟩ (.int .i64 0)).putObj w4.heap.size (Obj.deferred none)).heap.size = W'.heap.size from by rw [World.putObj_size]; simp [World.setCell])
    have HQo : Aside0 ((((W'.setCell ⟨w.heap.size, 0, none⟩ (.slice none 0 0)).setCell ⟨w.heap.size + 1, 0, none⟩ (.int .i64 0)).putObj w4.heap.size (Obj.deferred none)).os = W'.os ∧ (((W'.setCell ⟨w.heap.size, 0, none⟩ (.slice none 0 0)).setCell ⟨w.heap.size + 1, 0, none⟩ (.int .i64 0)).putObj w4.heap.size (Obj.deferred none)).tape = W'.tape ∧ (((W'.setCell ⟨w.heap.size, 0, none⟩ (.slice none 0 0)).setCell ⟨w.heap.size + 1, 0, none⟩ (.int .i64 0)).putObj w4.heap.size (Obj.deferred none)).output = W'.output) := ⟨rfl, rfl, rfl⟩
    generalize ((W'.setCell ⟨w.heap.size, 0, none⟩ (.slice none 0 0)).setCell ⟨w.heap.size + 1, 0, none⟩ (.int .i64 0)) = X at m3 m4 HQ HQs HQo ⊢
    have p1 : (X.putObj w4.heap.size (Obj.deferred none)).cell? ⟨w.heap.size, 0, none⟩ = some (.slice none 0 0) := by
      unfold World.cell?
      rw [show (⟨w.heap.size, 0, none⟩ : Addr).block = w.heap.size from rfl, World.putObj_heap_other (by have := HZ.out; omega), m4]
      rfl
    have p2 : (X.putObj w4.heap.size (Obj.deferred none)).cell? ⟨w.heap.size + 1, 0, none⟩ = some (.int .i64 0) := by
      unfold World.cell?
      rw [show (⟨w.heap.size + 1, 0, none⟩ : Addr).block = w.heap.size + 1 from rfl, World.putObj_heap_other (by have := HZ.out; omega), m3]
      rfl
    generalize (X.putObj w4.heap.size (Obj.deferred none)) = Y at p1 p2 HQ HQs HQo ⊢
    refine ⟨_, results_cell2 rfl _ _ ⟨w.heap.size, 0, none⟩ ⟨w.heap.size + 1, 0, none⟩ (.slice none 0 0) (.int .i64 0) rfl rfl (by go_simp) (by go_simp), _, rfl, Kd.R_nil _ _ _ _ _, ?_⟩
    exact ⟨HQo.out.1.trans HB.out.os, HQo.out.2.1.trans HB.out.tape, HQo.out.2.2.trans HB.out.output, by rw [HQs.out]; exact HB.out.size, fun k hk => (HQ.out k (by have := HZ.out; omega) (by omega) (by omega)).trans (HB.out.block k hk)⟩
/-- What fact.Of comes to, of at most a thousand facts whose amounts fit. -/
def fact_Of.f (l0 : List S40) : Option (List S40 × Int) := if l0.length ≤ 1000 ∧ absL l0 < 4611686018427387904 then some (ofL l0, 0) else none
theorem fact_Of.calls (A0 : Option Addr) (c0 : Nat) (l0 : List S40) (r1 : List S40) (r2 : Int) (w : World) (hr0 : Kd.C k40 w A0 l0.length l0) (hc0 : l0.length ≤ c0) (h : fact_Of.f l0 = some (r1, r2)) :
    Calls Try.prog 10 #[.slice A0 l0.length c0] w fun e w' => ∃ v0_ : Value, e = .returned (.tuple #[v0_, .int .i64 r2]) ∧ Kd.R k40 40 w' w.heap.size (fun _ => True) v0_ r1 ∧ Below w.heap.size w w' := by
  unfold fact_Of.f at h
  split at h
  · rename_i hc
    injection h with h
    injection h with h1 h2
    subst h1 h2
    by_cases hne : l0 = []
    · subst hne
      rw [show ofL [] = [] from ofL_self [] Canon.nil]
      exact callsIn_wide.1 (of_nil A0 c0 w)
    · exact callsIn_wide.1 (of_main l0 A0 c0 w hr0 hc0 hne hc.1 hc.2)
  · cases h
end Go.Proofs.Ytidojompkihboaa.X
