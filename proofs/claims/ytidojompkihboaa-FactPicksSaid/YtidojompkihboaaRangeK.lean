/- A law for 'for x := range seq { .. }' over an iterator that keeps state of its own in memory (a captured variable that it writes between two rounds). -/
import Derived.RangeFuncMany
import Derived.RangeFuncLeaves
import Derived.RangeFuncCalls
import Derived.Below
namespace Go.Proofs.Ytidojompkihboaa.Rng
open Go.RowKit

/-- One step that writes blocks of S alone, beside new ones. -/
def Touch (S : Nat → Prop) (A B : World) : Prop := ∃ row, A.grownBy B row ∧ ∀ r, row = some r → S r
/-- What such steps leave true. -/
def Stays {β : Type} (S : Nat → Prop) (J : β → World → Prop) : Prop := ∀ s A B, J s A → Touch S A B → J s B
/-- The blocks of S lie as they lay. -/
structure Kp (S : Nat → Prop) (A B : World) : Prop where
  size : A.heap.size ≤ B.heap.size
  same : ∀ r, S r → r < A.heap.size → B.heap[r]? = A.heap[r]?
theorem Kp.refl (S : Nat → Prop) (A : World) : Kp S A A := ⟨Nat.le_refl _, fun _ _ _ => rfl⟩
theorem Kp.trans {S : Nat → Prop} {A B C : World} (h : Kp S A B) (k : Kp S B C) : Kp S A C :=
  ⟨Nat.le_trans h.size k.size, fun r hr hl => (k.same r hr (Nat.lt_of_lt_of_le hl h.size)).trans (h.same r hr hl)⟩
theorem Kp.weaken {S T : Nat → Prop} {A B : World} (h : Kp S A B) (hs : ∀ r, T r → S r) : Kp T A B := ⟨h.size, fun r hr hl => h.same r (hs r hr) hl⟩
theorem Kp.of_grown {S : Nat → Prop} {A B : World} {row : Option Nat} (h : A.grownBy B row) (hr : ∀ r, row = some r → ¬ S r) : Kp S A B :=
  ⟨h.size, fun r hs hl => h.block r hl (fun e => hr r e.symm hs)⟩
theorem Kp.of_below {S : Nat → Prop} {A B : World} (h : Below A.heap.size A B) : Kp S A B := ⟨h.size, fun r _ hl => h.block r hl⟩
theorem Touch.alloc (S : Nat → Prop) (A : World) (o : Obj) : Touch S A (A.alloc o) := ⟨none, World.grownBy_alloc A o none, fun r e => by cases e⟩
theorem Touch.putObj {S : Nat → Prop} (A : World) {l : Nat} (o : Obj) (h : S l) : Touch S A (A.putObj l o) := ⟨some l, grownBy_putObj' A l o, fun r e => by cases e; exact h⟩
theorem Touch.weaken {S T : Nat → Prop} {A B : World} (h : Touch S A B) (hs : ∀ r, S r → T r) : Touch T A B := by
  obtain ⟨row, hg, hr⟩ := h
  exact ⟨row, hg, fun r e => hs r (hr r e)⟩
theorem Touch.of_below {S : Nat → Prop} {A B : World} (h : Below A.heap.size A B) : Touch S A B := ⟨none, ⟨h.os, h.tape, h.output, h.size, fun i hi _ => h.block i hi⟩, fun r e => by cases e⟩
theorem Touch.setCell {S : Nat → Prop} (A : World) (p : Addr) (u : Value) (h : S p.block) : Touch S A (A.setCell p u) :=
  ⟨some p.block, ⟨rfl, rfl, rfl, by simp [World.setCell], fun k _ hk => Below.heap_setCell A p u k (fun e => hk (by rw [e]))⟩, fun r e => by cases e; exact h⟩
theorem Touch.same {S : Nat → Prop} {A B : World} (h : Touch S A B) (k : Nat) (hk : k < A.heap.size) (hn : ¬ S k) : B.heap[k]? = A.heap[k]? := by
  obtain ⟨row, hg, hr⟩ := h
  exact hg.block k hk (fun e => hn (hr k e.symm))
theorem Touch.size {S : Nat → Prop} {A B : World} (h : Touch S A B) : A.heap.size ≤ B.heap.size := by
  obtain ⟨row, hg, _⟩ := h
  exact hg.size
theorem Touch.below {S : Nat → Prop} {A B w : World} {n : Nat} (h : Touch S A B) (hb : Below n w A) (hn : n ≤ A.heap.size) (hs : ∀ r, S r → n ≤ r) : Below n w B := by
  obtain ⟨row, hg, hr⟩ := h
  exact hb.grown hg hn (fun k e => hs k (hr k e))

/-- The iterator's blocks: those it has captured and writes, and the first K that it lays. -/
def Sof (own : Nat → Prop) (W : World) (K : Nat) (r : Nat) : Prop := own r ∨ (W.heap.size ≤ r ∧ r < W.heap.size + K)

/-- What an iterator owes: it hands over xs one by one, as long as it is told to go on. -/
def SeqC {α : Type} (P : Program) (g : Nat) (lb : Array Value) (encs : α → Array Value) (own : Nat → Prop) (K : Nat) (Kg : World → Prop) (xs : List α) (W : World) : Prop :=
  ∀ (l : Nat) (J Jx : List α → World → Prop), Stays (Sof own W K) J → Stays (Sof own W K) Jx → (∀ s A, J s A → Kg A) →
    (∀ pre x rest W1, xs = pre ++ x :: rest → J pre W1 → W.heap.size + K ≤ W1.heap.size → YieldAt Fence.wide 0 P l (encs x) W1 fun e W' =>
      (e = .returned (.bool true) ∧ J (pre ++ [x]) W' ∧ Kp (Sof own W K) W1 W') ∨ (e = .returned (.bool false) ∧ Jx (pre ++ [x]) W' ∧ Kp (Sof own W K) W1 W')) →
    J [] W →
    CallsIn Fence.wide 0 P g (#[.func (.yield l) #[] #[]] ++ lb) W fun e W' => (∃ v, e = .returned v) ∧ (J xs W' ∨ ∃ pre, Jx pre W')

/-- How the body of a round may be left. -/
def rPost {α : Type} (S : Nat → Prop) (I : List α → World → Prop) (Ix : Code → List α → World → Prop) (xs : List α) (W : World) : Exit → Act → World → Prop
  | .normal, _, W' => Kp S W W' ∧ I xs W'
  | .ret, _, W' => Kp S W W' ∧ Ix .ret xs W'
  | .exit id, _, W' => Kp S W W' ∧ Ix (.exit id) xs W'
  | .goto t, _, W' => Kp S W W' ∧ Ix (.goto t) xs W'
  | .panic _, _, _ => False
  | .outgrown, _, _ => False

theorem wpIn_range {α : Type} {P : Program} {g : Operand} {ps : Array Tmp} {assign body : Code} {Q : Exit → Act → World → Prop} {a : Act} {w : World}
    {gf : Nat} {lb : Array Value} (hg : a.eval g = .func (.func gf) #[] lb) (eg : ∀ args w, (callFunc gf args).run P w = .ok (.enter gf args) w)
    {encs : α → Array Value} (hps : ∀ x, (encs x).size = ps.size) {own : Nat → Prop} {K : Nat} {Kg : World → Prop} {xs : List α} (hown : ∀ r, own r → r < w.heap.size)
    (hseq : ∀ o1 o2, SeqC P gf lb encs own K Kg xs ((w.alloc o1).alloc o2))
    (I : List α → World → Prop) (Ix : Code → List α → World → Prop) (hIg : ∀ s A, I s A → Kg A) (hI : Stays (Sof own w (2 + K)) I) (hIx : ∀ c, Stays (Sof own w (2 + K)) (Ix c)) (h0 : I [] w) (a₁ : α → Act)
    (hassign : ∀ (l : Nat) (x : α) (W : World) (Kc : Act → World → Prop), Kc (a₁ x) W →
      assign.wpIn (Fence.wide.inRound l) 0 P (Exit.then Kc (fun _ _ _ => False)) { tmps := (ps.zip (encs x)).foldl (fun t (p, v) => t.setIfInBounds p v) a.tmps, defers := [] } W)
    (hbody : ∀ (l : Nat) (pre : List α) (x : α) (rest : List α) (W : World), xs = pre ++ x :: rest → I pre W → w.heap.size + 2 + K ≤ W.heap.size →
      body.wpIn (Fence.wide.inRound l) 0 P (rPost (Sof own w (2 + K)) I Ix (pre ++ [x]) W) (a₁ x) W)
    (hdone : ∀ (W : World), I xs W → W.heap[w.heap.size]? = some (.deferred (some [])) → Q .normal { a with defers := { target := .collected w.heap.size, args := #[] } :: a.defers } W)
    (hstop : ∀ (c : Code) (pre : List α) (W : World), Ix c pre W → W.heap[w.heap.size]? = some (.deferred (some [])) → c.wpIn Fence.wide 0 P Q { a with defers := { target := .collected w.heap.size, args := #[] } :: a.defers } W) :
    (Code.rangeFunc g ps assign body).wpIn Fence.wide 0 P Q a w := by
  refine wpIn_rangeFunc ?_
  intro fn hfn
  obtain ⟨rec, hrec⟩ : ∃ rec : LoopState → Option Code → Loop, rec = fun st pe => { state := st, pending := pe, fn, tmps := a.tmps, params := ps, assign, body, defers := w.heap.size } := ⟨_, rfl⟩
  obtain ⟨W1, hW1⟩ : ∃ W1, (w.alloc (.deferred (some []))).alloc (.loop (rec .ready none)) = W1 := ⟨_, rfl⟩
  have hz1 : W1.heap.size = w.heap.size + 2 := by rw [← hW1, World.size_alloc, World.size_alloc]
  have hL1 : W1.heap[w.heap.size + 1]? = some (.loop (rec .ready none)) := by
    rw [← hW1]; have := World.alloc_heap_new (w.alloc (.deferred (some []))) (.loop (rec .ready none)); rwa [World.size_alloc] at this
  have hK1 : W1.heap[w.heap.size]? = some (.deferred (some [])) := by
    rw [← hW1]; exact (Below.heap_alloc _ _ _ (by simp)).trans (World.alloc_heap_new w _)
  have hI1 : I [] W1 := by rw [← hW1]; exact hI _ _ _ (hI _ _ _ h0 (Touch.alloc _ _ _)) (Touch.alloc _ _ _)
  have hseq1 : SeqC P gf lb encs own K Kg xs W1 := by rw [← hW1]; exact hseq _ _
  have hS : ∀ r, Sof own W1 K r → Sof own w (2 + K) r := by
    rintro r (h | ⟨h1, h2⟩)
    · exact .inl h
    · exact .inr ⟨by omega, by omega⟩
  have hSl : ¬ Sof own W1 K (w.heap.size + 1) := by
    rintro (h | ⟨h1, _⟩)
    · have := hown _ h; omega
    · omega
  have hSd : ¬ Sof own W1 K w.heap.size := by
    rintro (h | ⟨h1, _⟩)
    · have := hown _ h; omega
    · omega
  have hl : Sof own w (2 + K) (w.heap.size + 1) := .inr ⟨by omega, by omega⟩
  have hd : Sof own w (2 + K) w.heap.size := .inr ⟨by omega, by omega⟩
  have lt_of : ∀ {W : World} {k : Nat} {o : Obj}, W.heap[k]? = some o → k < W.heap.size := fun h => (Array.getElem?_eq_some_iff.1 h).1
  refine ⟨w.heap.size + 1, [{ target := .collected w.heap.size, args := #[] }], W1, { target := .fn (.func gf) lb, args := #[.func (.yield (w.heap.size + 1)) #[] #[]] }, W1, gf,
    #[.func (.yield (w.heap.size + 1)) #[] #[]] ++ lb, W1, ?_, ?_, ?_, ?_, (by intro h; simp [Fence.wide] at h), ?_⟩
  · rw [← hW1, hrec]; exact run_enterLoop_outer _ _ _ _ _
  · simp only [resolve, hg]
    simp [go_sem]
  · intro f' hf'; trivial
  · simp [invoke, go_sem, eg]
  · refine (hseq1 (w.heap.size + 1)
      (fun pre W => I pre W ∧ W.heap[w.heap.size + 1]? = some (.loop (rec .ready none)) ∧ W.heap[w.heap.size]? = some (.deferred (some [])))
      (fun pre W => ∃ c, Ix c pre W ∧ W.heap[w.heap.size + 1]? = some (.loop (rec .done (some c))) ∧ W.heap[w.heap.size]? = some (.deferred (some [])))
      (fun s A B hs ht => ⟨hI s A B hs.1 (ht.weaken hS), (ht.same _ (lt_of hs.2.1) hSl).trans hs.2.1, (ht.same _ (lt_of hs.2.2) hSd).trans hs.2.2⟩)
      (fun s A B hs ht => by
        obtain ⟨c, hc, h1, h2⟩ := hs
        exact ⟨c, hIx c s A B hc (ht.weaken hS), (ht.same _ (lt_of h1) hSl).trans h1, (ht.same _ (lt_of h2) hSd).trans h2⟩)
      (fun s A h => hIg s A h.1)
      ?_ ⟨hI1, hL1, hK1⟩).mono ?_
    · rintro pre x rest W hxs ⟨hi, hlp, hk⟩ hsz
      have hlt : w.heap.size + 1 < W.heap.size := lt_of hlp
      have hy := run_yield (P := P) (args := encs x) hlp (by rw [hrec]; exact hps x)
      rw [hrec] at hy
      refine ⟨fn, _, assign, body, hy, roundIn_of_wpIn hfn (hassign _ x W _ ⟨_, run_beginRound hlp (by rw [hrec]), ?_⟩)⟩
      have hl2 : (W.putObj (w.heap.size + 1) (.loop { rec .ready none with state := .busy })).heap[w.heap.size + 1]? = some (.loop { rec .ready none with state := .busy }) := World.putObj_heap_same hlt
      have hk2 : (W.putObj (w.heap.size + 1) (.loop { rec .ready none with state := .busy })).heap[w.heap.size]? = some (.deferred (some [])) := (World.putObj_heap_other (by omega)).trans hk
      refine wpIn_mono (hbody _ pre x rest _ hxs (hI _ _ _ hi (Touch.putObj _ _ hl)) (by rw [World.putObj_size]; omega)) ?_
      have fin : ∀ (jump : Option Code) (W3 : World), Kp (Sof own w (2 + K)) (W.putObj (w.heap.size + 1) (.loop { rec .ready none with state := .busy })) W3 →
          (Instr.endRound (w.heap.size + 1) jump).run P W3 = .ok (.bool jump.isNone) (W3.putObj (w.heap.size + 1) (.loop (rec (if jump.isNone then .ready else .done) jump))) ∧
          (W3.putObj (w.heap.size + 1) (.loop (rec (if jump.isNone then .ready else .done) jump))).heap[w.heap.size + 1]? = some (.loop (rec (if jump.isNone then .ready else .done) jump)) ∧
          (W3.putObj (w.heap.size + 1) (.loop (rec (if jump.isNone then .ready else .done) jump))).heap[w.heap.size]? = some (.deferred (some [])) ∧
          Kp (Sof own W1 K) W (W3.putObj (w.heap.size + 1) (.loop (rec (if jump.isNone then .ready else .done) jump))) := fun jump W3 hk3 => by
        have hl3 := (hk3.same _ hl (lt_of hl2)).trans hl2
        have hd3 := (hk3.same _ hd (lt_of hk2)).trans hk2
        have hrun := run_endRound (P := P) jump hl3
        rw [hrec] at hrun ⊢
        refine ⟨hrun, World.putObj_heap_same (lt_of hl3), (World.putObj_heap_other (by omega)).trans hd3, ⟨?_, fun r hr hrl => ?_⟩⟩
        · have := hk3.size
          rw [World.putObj_size] at this ⊢
          exact this
        · have hne : r ≠ w.heap.size + 1 := fun e => hSl (e ▸ hr)
          rw [World.putObj_heap_other hne]
          exact (hk3.same r (hS r hr) (by rw [World.putObj_size]; exact hrl)).trans (World.putObj_heap_other hne)
      rintro e a3 W3 hp
      cases e with
      | normal =>
        obtain ⟨hk3, hi3⟩ := hp
        obtain ⟨hr, hl4, hk4, hkp⟩ := fin none W3 hk3
        exact ⟨_, _, hr, .inl ⟨rfl, ⟨hI _ _ _ hi3 (Touch.putObj _ _ hl), hl4, hk4⟩, hkp⟩⟩
      | ret =>
        obtain ⟨hk3, hi3⟩ := hp
        obtain ⟨hr, hl4, hk4, hkp⟩ := fin (some .ret) W3 hk3
        exact ⟨_, _, hr, .inr ⟨rfl, ⟨.ret, hIx _ _ _ _ hi3 (Touch.putObj _ _ hl), hl4, hk4⟩, hkp⟩⟩
      | exit id =>
        obtain ⟨hk3, hi3⟩ := hp
        obtain ⟨hr, hl4, hk4, hkp⟩ := fin (some (.exit id)) W3 hk3
        exact ⟨_, _, hr, .inr ⟨rfl, ⟨.exit id, hIx _ _ _ _ hi3 (Touch.putObj _ _ hl), hl4, hk4⟩, hkp⟩⟩
      | goto t =>
        obtain ⟨hk3, hi3⟩ := hp
        obtain ⟨hr, hl4, hk4, hkp⟩ := fin (some (.goto t)) W3 hk3
        exact ⟨_, _, hr, .inr ⟨rfl, ⟨.goto t, hIx _ _ _ _ hi3 (Touch.putObj _ _ hl), hl4, hk4⟩, hkp⟩⟩
      | panic ch => exact hp.elim
      | outgrown => exact hp.elim
    · rintro e W2 ⟨⟨v, rfl⟩, (⟨hi, hlp, hk⟩ | ⟨pre, c, hi, hlp, hk⟩)⟩
      · exact ⟨none, _, by have := run_endLoop (P := P) hlp (by rw [hrec]; simp); rw [hrec] at this; exact this, hdone _ (hI _ _ _ hi (Touch.putObj _ _ hl)) ((World.putObj_heap_other (by omega)).trans hk)⟩
      · exact ⟨some c, _, by have := run_endLoop (P := P) hlp (by rw [hrec]; simp); rw [hrec] at this; exact this, hstop c pre _ (hIx _ _ _ _ hi (Touch.putObj _ _ hl)) ((World.putObj_heap_other (by omega)).trans hk)⟩
end Go.Proofs.Ytidojompkihboaa.Rng
