import Derived.Test.YtidojompkihboaaDoorSplit
namespace Go.Proofs.YtidojompkihboaaDoor.X
open Go.RowKit Go.Shelf Go.Proofs.YtidojompkihboaaDoorW.PrintWords Go.Proofs.YtidojompkihboaaDoorW.PrintLast Go.Proofs.YtidojompkihboaaDoorW.PrintMore Go.Proofs.YtidojompkihboaaDoor.Rng
attribute [local go_sem] Oper.semAt_some

set_option maxHeartbeats 400000 in
theorem splitSeq_any (s sep : ByteArray) (w : World) :
    Calls Tryd.prog 38 #[.string s, .string sep] w fun e w' => e = .returned (.func (.func 46) #[] #[.pointer (some ⟨w.heap.size + 1, 0, none⟩), .pointer (some ⟨w.heap.size, 0, none⟩), .pointer (some ⟨w.heap.size + 2, 0, none⟩)]) ∧
      ((w.alloc (.cells #[.string s] 9)).alloc (.cells #[.string sep] 9)).alloc (.cells #[.int .i64 0] 3) = w' := by
  go_enter Tryd.func38, Tryd.ntmps38
  go_wp2
  go_ret
  exact ⟨rfl, rfl⟩

/-- The lines with their numbers. -/
def numb : Int → List ByteArray → List (Int × ByteArray)
  | _, [] => []
  | k, x :: r => (k + 1, x) :: numb (k + 1) r
theorem numb_app (a b : List ByteArray) : ∀ k : Int, numb k (a ++ b) = numb k a ++ numb (k + a.length) b := by
  induction a with
  | nil => intro k; simp [numb]
  | cons x r ih => intro k; simp [numb, ih]; congr 1; omega
theorem splitB_len : ∀ (n : Nat) (s : ByteArray), (splitB n s).length ≤ n + 1
  | 0, s => by simp [splitB]
  | n + 1, s => by
    rw [splitB]
    split
    · simp
    · have := splitB_len n (s.extract ((Lib.indexByte s.data.toList 10).toNat + 1) s.size)
      simp; omega
theorem at_new (W : World) (a : Obj) (k : Nat) (h : W.heap.size = k) : (W.alloc a).heap[k]? = some a := by rw [← h]; exact World.alloc_heap_new W a
theorem at_old {W : World} {k : Nat} {o : Obj} (h : W.heap[k]? = some o) (a : Obj) : (W.alloc a).heap[k]? = some o := (Below.heap_alloc W a k (blk_lt h)).trans h
theorem roundIn_in {F : Fence} {n : Nat} {P : Program} {l : Nat} {f : FuncId} {tmps : Array Value} {assign body : Code} {w : World} {R : Ending → World → Prop} (l' : Nat) (h : RoundIn F n P l f tmps assign body w R) : RoundIn (F.inRound l') n P l f tmps assign body w R := h
theorem kp_after {S T : Nat → Prop} {A B : World} {g : Nat} {u : Value} (h : Kp S (A.setCell ⟨g, 0, none⟩ u) B) (hs : ∀ r, T r → S r) (hg : ∀ r, T r → r ≠ g) : Kp T A B :=
  ⟨by have := h.size; simpa using this, fun r hr hl => (h.same r (hs r hr) (by simpa using hl)).trans (Below.heap_setCell A ⟨g, 0, none⟩ u r (hg r hr))⟩
theorem blk_two {W : World} {k : Nat} {o : Obj} (h : W.heap[k]? = some o) (o1 o2 : Obj) : ((W.alloc o1).alloc o2).heap[k]? = some o := by
  have hl := blk_lt h
  rw [Below.heap_alloc _ _ _ (by simp; omega), Below.heap_alloc _ _ _ hl]
  exact h
set_option maxHeartbeats 1000000 in
set_option maxRecDepth 100000 in
theorem lines_iter (s : ByteArray) (hs : s.size ≤ 4294967296) (bs : Nat) (W : World) (h1 : W.heap[bs]? = some (.cells #[.string s] 9 (0, 0))) :
    SeqC Tryd.prog 37 #[.pointer (some ⟨bs, 0, none⟩)] (fun x : Int × ByteArray => #[.int .i64 x.1, .string x.2]) (fun _ => False) 7 (numb 0 (splitB s.size s)) W := by
  intro l J Jx hJ hJx hY h0
  refine callsIn_of_wp_marks Tryd.func37 rfl trivial ?_
  simp only [Tryd.ntmps37, List.size_toArray, List.length_cons, List.length_nil, Nat.reduceAdd, Nat.reduceSub, Array.replicate_succ, Array.replicate_zero, List.push_toArray, List.append_toArray, List.nil_append, List.cons_append]
  have c1 : W.cell? ⟨bs, 0, none⟩ = some (.string s) := by simp [World.cell?, h1]
  have hlt := blk_lt h1
  have HH := Aside0.mk h1
  clear h1
  have hsp : ∀ w, Aside0 (CallsIn Fence.wide 0 Tryd.prog 38 #[.string s, .string ⟨#[10]⟩] w fun e w' => e = .returned (.func (.func 46) #[] #[.pointer (some ⟨w.heap.size + 1, 0, none⟩), .pointer (some ⟨w.heap.size, 0, none⟩), .pointer (some ⟨w.heap.size + 2, 0, none⟩)]) ∧
      ((w.alloc (.cells #[.string s] 9)).alloc (.cells #[.string ⟨#[10]⟩] 9)).alloc (.cells #[.int .i64 0] 3) = w') := fun w => ⟨callsIn_wide.2 (splitSeq_any s _ w)⟩
  gi_wp2_with (refine ⟨trivial, rfl, ?_⟩; gi_at_call 38; refine (hsp _).out.mono ?_; rintro e w' ⟨rfl, rfl⟩)
  obtain ⟨w5, hw5⟩ : ∃ w5, (((((W.alloc (Obj.cells #[Value.func (Fn.yield l) #[] #[]] 72)).alloc (Obj.cells #[Value.int IntKind.i64 0] 3)).alloc (Obj.cells #[Value.string s] 9)).alloc (Obj.cells #[Value.string { data := #[10] }] 9)).alloc (Obj.cells #[Value.int IntKind.i64 0] 3)) = w5 := ⟨_, rfl⟩
  rw [hw5]
  have hz : w5.heap.size = W.heap.size + 5 := by rw [← hw5]; simp
  have y0 : w5.heap[W.heap.size]? = some (.cells #[Value.func (Fn.yield l) #[] #[]] 72 (0, 0)) := by rw [← hw5]; exact (at_old (at_old (at_old (at_old (at_new _ _ _ (by simp)) _) _) _) _)
  have y1 : w5.heap[W.heap.size + 1]? = some (.cells #[Value.int .i64 0] 3 (0, 0)) := by rw [← hw5]; exact (at_old (at_old (at_old (at_new _ _ _ (by simp)) _) _) _)
  have y2 : w5.heap[W.heap.size + 2]? = some (.cells #[Value.string s] 9 (0, 0)) := by rw [← hw5]; exact (at_old (at_old (at_new _ _ _ (by simp)) _) _)
  have y3 : w5.heap[W.heap.size + 3]? = some (.cells #[Value.string ⟨#[10]⟩] 9 (0, 0)) := by rw [← hw5]; exact (at_old (at_new _ _ _ (by simp)) _)
  have y4 : w5.heap[W.heap.size + 4]? = some (.cells #[Value.int .i64 0] 3 (0, 0)) := by rw [← hw5]; exact (at_new _ _ _ (by simp))
  have hj5 : J [] w5 := by rw [← hw5]; exact hJ _ _ _ (hJ _ _ _ (hJ _ _ _ (hJ _ _ _ (hJ _ _ _ h0 (Touch.alloc _ _ _)) (Touch.alloc _ _ _)) (Touch.alloc _ _ _)) (Touch.alloc _ _ _)) (Touch.alloc _ _ _)
  clear hw5 hsp c1
  have hS : ∀ r, Sof (ownOf (W.heap.size + 3) (W.heap.size + 2) (W.heap.size + 4)) w5 (2 + 0) r → Sof (fun _ => False) W 7 r ∧ r ≠ W.heap.size ∧ r ≠ W.heap.size + 1 := by
    rintro r ((rfl | rfl | rfl) | ⟨h1, h2⟩)
    · exact ⟨.inr ⟨by omega, by omega⟩, by omega, by omega⟩
    · exact ⟨.inr ⟨by omega, by omega⟩, by omega, by omega⟩
    · exact ⟨.inr ⟨by omega, by omega⟩, by omega, by omega⟩
    · exact ⟨.inr ⟨by omega, by omega⟩, by omega, by omega⟩
  refine wpIn_range (gf := 46) (lb := #[.pointer (some ⟨W.heap.size + 3, 0, none⟩), .pointer (some ⟨W.heap.size + 2, 0, none⟩), .pointer (some ⟨W.heap.size + 4, 0, none⟩)]) rfl (enters_of Tryd.func46 (by kernel_rfl) rfl)
    (encs := fun x : ByteArray => #[.string x]) (fun _ => rfl) (own := ownOf (W.heap.size + 3) (W.heap.size + 2) (W.heap.size + 4)) (K := 0) (xs := splitB s.size s) (by rintro r (rfl | rfl | rfl) <;> omega)
    (fun o1 o2 => splitSeq_iter s hs _ _ _ _ (blk_two y3 o1 o2) (blk_two y2 o1 o2) (blk_two y4 o1 o2) (by omega) (by omega))
    (fun pre W' => J (numb 0 pre) W' ∧ W'.heap[W.heap.size + 1]? = some (.cells #[Value.int .i64 pre.length] 3 (0, 0)) ∧ W'.heap[W.heap.size]? = some (.cells #[Value.func (Fn.yield l) #[] #[]] 72 (0, 0)))
    (fun c _ W' => c = .ret ∧ ∃ q, Jx q W')
    (fun _ A B hs ht => ⟨hJ _ _ _ hs.1 (ht.weaken (fun r hr => (hS r hr).1)), (ht.same _ (blk_lt hs.2.1) (fun h => (hS _ h).2.2 rfl)).trans hs.2.1, (ht.same _ (blk_lt hs.2.2) (fun h => (hS _ h).2.1 rfl)).trans hs.2.2⟩)
    (fun c _ A B hs ht => ⟨hs.1, hs.2.elim fun q hq => ⟨q, hJx _ _ _ hq (ht.weaken (fun r hr => (hS r hr).1))⟩⟩)
    ⟨hj5, y1, y0⟩ (fun x => { tmps := #[Value.func (Fn.yield l) #[] #[], Value.pointer (some { block := bs, off := 0 }), Value.pointer (some { block := W.heap.size, off := 0 }), Value.pointer (some { block := W.heap.size + 1, off := 0 }), .string x, Value.string s,
          Value.func (Fn.func 46) #[] #[Value.pointer (some { block := W.heap.size + 1 + 1 + 1, off := 0 }), Value.pointer (some { block := W.heap.size + 1 + 1, off := 0 }), Value.pointer (some { block := W.heap.size + 1 + 1 + 2, off := 0 })],
          .string x, undef, undef, undef, undef, undef, undef, undef], defers := [] }) ?assign ?body ?done ?stop
  case assign =>
    intro l x W K hK
    gi_wp2
    exact hK
  case body =>
    rintro l' pre x rest W' hxs ⟨hj, n1, n0⟩ hsz'
    have hlen := splitB_len s.size s
    rw [hxs] at hlen
    simp only [List.length_append, List.length_cons] at hlen
    have d1 : W'.cell? ⟨W.heap.size + 1, 0, none⟩ = some (.int .i64 pre.length) := by simp [World.cell?, n1]
    have f1 : W'.frozen? ⟨W.heap.size + 1, 0, none⟩ = false := by simp [World.frozen?, n1]
    have hb1 := blk_lt n1
    have m0 := blk_far (p := ⟨W.heap.size + 1, 0, none⟩) n0 (by simp) (.int .i64 (pre.length + 1))
    have m1 := blk_set n1 0 (.int .i64 (pre.length + 1))
    have e0 : (W'.setCell ⟨W.heap.size + 1, 0, none⟩ (.int .i64 (pre.length + 1))).cell? ⟨W.heap.size, 0, none⟩ = some (Value.func (Fn.yield l) #[] #[]) := by simp [World.cell?, m0]
    have e1 : (W'.setCell ⟨W.heap.size + 1, 0, none⟩ (.int .i64 (pre.length + 1))).cell? ⟨W.heap.size + 1, 0, none⟩ = some (.int .i64 (pre.length + 1)) := by simp [World.cell?, m1]
    obtain ⟨fn, tmps, assign, body, hy, hR⟩ := hY (numb 0 pre) ((pre.length : Int) + 1, x) (numb (pre.length + 1) rest) _ (by rw [hxs, numb_app]; simp [numb]) (hJ _ _ _ hj (Touch.setCell W' ⟨W.heap.size + 1, 0, none⟩ (.int .i64 (pre.length + 1)) (.inr ⟨by simp, by simp⟩))) (by simp; omega)
    dsimp only at hy
    have HR := Aside0.mk hR
    have M0 := Aside0.mk m0
    have M1 := Aside0.mk m1
    clear hR m0 m1 n0 n1
    have hxs' := Aside0.mk hxs
    clear hxs
    gi_wp2
    refine ⟨rfl, (roundIn_in l' HR.out).mono ?_⟩
    rintro e W3 (⟨rfl, hJ', hk⟩ | ⟨rfl, hJx', hk⟩)
    · have k0 := Aside0.mk ((hk.same (W.heap.size) (.inr ⟨by omega, by omega⟩) (blk_lt M0.out)).trans M0.out)
      have k1 := Aside0.mk ((hk.same (W.heap.size + 1) (.inr ⟨by omega, by omega⟩) (blk_lt M1.out)).trans M1.out)
      have HK := Aside0.mk (kp_after hk (fun r hr => (hS r hr).1) (fun r hr => (hS r hr).2.2))
      have HJ := Aside0.mk (show J (numb 0 (pre ++ [x])) W3 by rw [numb_app]; simpa [numb] using hJ')
      clear hJ' hk
      gi_wp2
      refine ⟨HK.out, HJ.out, ?_, k0.out⟩
      have := k1.out
      simpa using this
    · have HK := Aside0.mk (kp_after hk (fun r hr => (hS r hr).1) (fun r hr => (hS r hr).2.2))
      have HJ := Aside0.mk hJx'
      clear hJx' hk
      gi_wp2
      exact ⟨HK.out, rfl, _, HJ.out⟩
  case done =>
    rintro W' ⟨hj, n1, n0⟩ hK
    gi_wp2
    refine ⟨by simp, .inl ⟨_, _, rfl, run_takeDeferred hK, ?_⟩⟩
    exact ⟨_, results_none rfl _ _ _, ⟨_, rfl⟩, .inl (hJ _ _ _ hj (Touch.putObj _ _ (.inr ⟨by omega, by omega⟩)))⟩
  case stop =>
    rintro c pre W' ⟨rfl, q, hq⟩ hK
    gi_wp2
    refine ⟨by simp, .inl ⟨_, _, rfl, run_takeDeferred hK, ?_⟩⟩
    exact ⟨_, results_none rfl _ _ _, ⟨_, rfl⟩, .inr ⟨q, hJx _ _ _ hq (Touch.putObj _ _ (.inr ⟨by omega, by omega⟩))⟩⟩
end Go.Proofs.YtidojompkihboaaDoor.X
