/- slices.symMergeCmpFunc: the general case, and by induction all of it. -/
import Derived.Test.YtidojompkihboaaSymB
namespace Go.Proofs.Ytidojompkihboaa.X
open Go.RowKit Go.Shelf Go.Lib Go.Sort Go.Proofs.YtidojompkihboaaW.PrintWords Go.Proofs.YtidojompkihboaaW.PrintLast Go.Proofs.YtidojompkihboaaW.PrintMore
section
variable {α : Type} [Inhabited α] {lt : α → α → Bool}
theorem sorted_out {x y a b : Nat} {d d' : Array α} (h : PermIn a b d d') (hs : SortedIn lt x y d) (ho : y ≤ a ∨ b ≤ x) : SortedIn lt x y d' := by
  intro i j h1 h2 h3
  rw [h.2.1 i (by omega), h.2.1 j (by omega)]
  exact hs i j h1 h2 h3
theorem left_skip {a s mid e b : Nat} {d : Array α} (h : Parts lt a s mid e b d) (h1 : a ≤ s) (h2 : s ≤ mid) (hn : ¬ (a < s ∧ s < mid)) : SortedIn lt a mid d := by
  by_cases hs : s = a
  · have := h.p2; rwa [hs] at this
  · have := h.p1; rwa [show s = mid by omega] at this
theorem right_skip {a s mid e b : Nat} {d : Array α} (h : Parts lt a s mid e b d) (h1 : mid ≤ e) (h2 : e ≤ b) (hn : ¬ (mid < e ∧ e < b)) : SortedIn lt mid b d := by
  by_cases hs : e = mid
  · have := h.p4; rwa [hs] at this
  · have := h.p3; rwa [show e = b by omega] at this
theorem right_skip_out {a s mid e b : Nat} {d d' : Array α} (hA : PermIn a mid d d') (h : Parts lt a s mid e b d) (h1 : mid ≤ e) (h2 : e ≤ b) (hn : ¬ (mid < e ∧ e < b)) : SortedIn lt mid b d' :=
  sorted_out hA (right_skip h h1 h2 hn) (.inr (Nat.le_refl _))
/-- Where the search stands. -/
def Srch (lt : α → α → Bool) (n s0 r0 : Nat) (d : Array α) (i j : Nat) : Prop :=
  (i = s0 ∨ (s0 < i ∧ lt d[n - i]! d[i - 1]! = false)) ∧ (j = r0 ∨ (j < r0 ∧ lt d[n - 1 - j]! d[j]! = true))
theorem gen_done {a m b s mid e : Nat} {d d1 d2 d3 : Array α} (hr : Rot s m e d d1) (hp : Parts lt a s mid e b d1) (has : a ≤ s) (hse : s ≤ e) (heb : e ≤ b) (ham : a ≤ mid) (hmb : mid ≤ b) (hb : b ≤ d.size)
    (hA : PermIn a mid d1 d2 ∧ SortedIn lt a mid d2) (hB : PermIn mid b d2 d3 ∧ SortedIn lt mid b d3) : PermIn a b d d3 ∧ SortedIn lt a b d3 := by
  have h0 : PermIn a b d d1 := permIn_wide hr.1 has heb hb hse
  obtain ⟨h1, h2⟩ := parts_join hp ham hmb (by rw [h0.1]; exact hb) d2 hA.1 hA.2 hB.1 hB.2
  exact ⟨permIn_trans _ _ _ _ _ h0 h1, h2⟩
end
variable {P : Program} {k : Nat} {α : Type} [Inhabited α] {enc : α → List Value}
set_option maxHeartbeats 16000000 in
set_option maxRecDepth 1000000 in
theorem sym_gen (L : LaySort P k) (cf : α → α → Int) (hS : SWO (ltOf cf)) (g : Nat) (cb : Array Value) (blk off cap a m b : Nat) (d0 d : Array α) (w0 w : World) (eg : ∀ args w, (callFunc g args).run P w = .ok (.enter g args) w)
    (hcmp : CmpLays P g cb enc k cf blk off d0.size w0) (R : RowK enc k w0 blk off d0) (hs : d0.size = d.size) (S : SWK enc k w0 blk off d w) (ham : a < m) (hne : m ≠ a + 1) (hmb : m < b) (hne2 : b ≠ m + 1) (hb : b ≤ d.size) (hsz : d.size < 1000000) (h1 : SortedIn (ltOf cf) a m d) (h2 : SortedIn (ltOf cf) m b d)
    (ih : ∀ (a' m' b' : Nat) (d' : Array α) (w' : World), b' - a' < b - a → a' < m' → m' < b' → b' ≤ d'.size → d'.size = d.size → SWK enc k w0 blk off d' w' → SortedIn (ltOf cf) a' m' d' → SortedIn (ltOf cf) m' b' d' →
      Calls P 38 #[.slice (some ⟨blk, off, none⟩) d'.size cap, .int .i64 a', .int .i64 m', .int .i64 b', .func (.func g) #[] cb] w' (Merged cf a' b' d' enc k w0 blk off)) :
    Calls P 38 #[.slice (some ⟨blk, off, none⟩) d.size cap, .int .i64 a, .int .i64 m, .int .i64 b, .func (.func g) #[] cb] w (Merged cf a b d enc k w0 blk off) := by
  have mixed := L.mixed; have t0 := L.t0; have a0 := L.a0; have z0 := L.z0; have t3 := L.t3; have a3 := L.a3; have z3 := L.z3; have t4 := L.t4; have a4 := L.a4; have z4 := L.z4; have t32 := L.t32; have a32 := L.a32; have z32 := L.z32; have t71 := L.t71; have a71 := L.a71; have z71 := L.z71; have aE := L.aE; have zE := L.zE
  have u3 := run_underlying L.t3; have u71 := run_underlying L.t71
  have e38 := L.e38; have e39 := L.e39
  have FG := L.f38
  have HL : Aside (LaySort P k) := L
  have HC : Aside _ := hcmp
  have H1 : Aside _ := h1
  have H2 : Aside _ := h2
  have IH : Aside _ := ih
  have S0 : Aside (SWK enc k w0 blk off d w) := S
  have r1 : IntKind.i64.wrap ((m : Int) - (a : Int)) = (m : Int) - (a : Int) := by rw [IntKind.wrap_i64]; omega
  have c1 : ((m : Int) - (a : Int) == 1) = false := by simp; omega
  have r2 : IntKind.i64.wrap ((b : Int) - (m : Int)) = (b : Int) - (m : Int) := by rw [IntKind.wrap_i64]; omega
  have c2 : ((b : Int) - (m : Int) == 1) = false := by simp; omega
  obtain ⟨mid, hmid⟩ : ∃ mid, mid = (a + b) / 2 := ⟨_, rfl⟩
  obtain ⟨n, hn⟩ : ∃ n, n = mid + m := ⟨_, rfl⟩
  obtain ⟨p, hp⟩ : ∃ p, p = n - 1 := ⟨_, rfl⟩
  obtain ⟨s0, r0, hsr⟩ : ∃ s0 r0, (mid < m ∧ s0 = mid + m - b ∧ r0 = mid) ∨ (¬ mid < m ∧ s0 = a ∧ r0 = m) := by
    by_cases h : mid < m
    · exact ⟨_, _, .inl ⟨h, rfl, rfl⟩⟩
    · exact ⟨_, _, .inr ⟨h, rfl, rfl⟩⟩
  have q1 : a ≤ s0 := by omega
  have q2 : s0 ≤ r0 := by omega
  have q3 : r0 ≤ mid := by omega
  have q4 : r0 ≤ m := by omega
  have q5 : n - s0 ≤ b := by omega
  have q6 : a < mid := by omega
  have q7 : mid < b := by omega
  have e_mid : ((a : Int) + (b : Int)) / 2 = (mid : Int) := by omega
  have e_n : (mid : Int) + (m : Int) = (n : Int) := by omega
  have w_n : IntKind.i64.wrap (n : Int) = (n : Int) := by rw [IntKind.wrap_i64]; omega
  have e_p : (n : Int) - 1 = (p : Int) := by omega
  have w_p : IntKind.i64.wrap (p : Int) = (p : Int) := by rw [IntKind.wrap_i64]; omega
  have Q : Aside (((s0 = a ∨ n - s0 = b) ∧ (r0 = m ∨ r0 = mid)) ∧ mid = (a + b) / 2 ∧ n = mid + m ∧ p = n - 1) := (⟨by omega, hmid, hn, hp⟩ : ((s0 = a ∨ n - s0 = b) ∧ (r0 = m ∨ r0 = mid)) ∧ mid = (a + b) / 2 ∧ n = mid + m ∧ p = n - 1)
  have hst : ∃ hm : Bool, decide (mid < m) = hm ∧ (hm = true → (n : Int) - (b : Int) = (s0 : Int) ∧ IntKind.i64.wrap (s0 : Int) = (s0 : Int) ∧ r0 = mid) ∧ (hm = false → s0 = a ∧ r0 = m) := by
    by_cases h : mid < m
    · refine ⟨true, decide_eq_true (by omega), fun _ => ⟨by omega, by rw [IntKind.wrap_i64]; omega, by omega⟩, (fun h => by cases h)⟩
    · refine ⟨false, decide_eq_false (by omega), (fun h => by cases h), fun _ => by omega⟩
  clear S L hcmp h1 h2 hne hne2 ih hmid hn hp hsr
  obtain ⟨hm, hmz, hmt, hmf⟩ := hst
  cases hm with
  | true =>
    obtain ⟨e_s, w_s, hr0⟩ := hmt rfl
    have Z := Aside0.mk (show r0 = mid ∨ r0 = m ∧ s0 = a from .inl hr0)
    have ZZ := Aside0.mk (show (mid : Int) = (r0 : Int) by omega)
    clear hmf hmt hr0
    go_enter FG, Try.ntmps38
    go_wp2
    go_loopg [20, 21] b (fun kx s20 s21 wr => ∃ (i j : Nat), s20 = .int .i64 i ∧ s21 = .int .i64 j ∧ s0 ≤ i ∧ i ≤ j ∧ j ≤ r0 ∧ j - i ≤ kx ∧ Aside0 (Srch (ltOf cf) n s0 r0 d i j) ∧ Aside (SWK enc k w0 blk off d wr))
    case atStart => exact ⟨s0, r0, by first | rfl | (rw [ZA.out]), by rw [ZZ.out], Nat.le_refl _, q2, Nat.le_refl _, by omega, ⟨.inl rfl, .inl rfl⟩, S0⟩
    case round =>
      clear S0
      obtain ⟨i, j, rfl, rfl, hsi, hij, hjr, hkx, I, S1⟩ := hrel
      have QQ := Q.out
      obtain ⟨QZ, hmid, hn, hp⟩ := QQ
      have QZ2 : Aside _ := QZ
      clear QZ
      by_cases hlt : i < j
      · have hltz : decide ((i : Int) < (j : Int)) = true := decide_eq_true (by omega)
        obtain ⟨c, hcd⟩ : ∃ c, c = (i + j) / 2 := ⟨_, rfl⟩
        obtain ⟨pc, hpc⟩ : ∃ pc, pc = n - 1 - c := ⟨_, rfl⟩
        have e_c : ((i : Int) + (j : Int)) / 2 = (c : Int) := by omega
        have e_pc : (p : Int) - (c : Int) = (pc : Int) := by omega
        have w_pc : IntKind.i64.wrap (pc : Int) = (pc : Int) := by rw [IntKind.wrap_i64]; omega
        have b1 : (pc : Int) < (d.size : Int) := by omega
        have b2 : (c : Int) < (d.size : Int) := by omega
        have p1 : (0 : Int) ≤ (pc : Int) := by omega
        have p2 : (0 : Int) ≤ (c : Int) := by omega
        have hci : i ≤ c := by omega
        have hcj : c < j := by omega
        have hpcz : n - 1 - c = pc := by omega
        have hpcy : n - (c + 1) = pc := by omega
        obtain ⟨x, hx⟩ : ∃ x, x = d[pc]! := ⟨_, rfl⟩
        obtain ⟨y, hy⟩ : ∃ y, y = d[c]! := ⟨_, rfl⟩
        have la := S1.out.ld R (by omega) P pc (by omega)
        have lb := S1.out.ld R (by omega) P c (by omega)
        rw [← hx] at la
        rw [← hy] at lb
        have hc := S1.out.cmp HC.out (by omega) x y
        have HX := Aside0.mk (show x = d[pc]! ∧ y = d[c]! from ⟨hx, hy⟩)
        have HP := Aside0.mk (show n - 1 - c = pc ∧ n - (c + 1) = pc ∧ i ≤ c ∧ c < j from ⟨hpcz, hpcy, hci, hcj⟩)
        clear hx hy hcd hpc hmid hn hp hpcz hpcy
        by_cases hv : cf x y < 0
        · have hd : decide (cf x y < 0) = true := decide_eq_true hv
          have I2 := Aside0.mk (show Srch (ltOf cf) n s0 r0 d i c from ⟨I.out.1, .inr ⟨by omega, by rw [HP.out.1, ← HX.out.1, ← HX.out.2]; exact hd⟩⟩)
          go_wp2_with fail
          go_quiet_grown (first | (go_at_fn g; refine Calls.grown_of (hc _ _)))
          have S2 : Aside (SWK enc k w0 blk off d (grow (wr.drewN nq) osq)) := S1.out.grown nq osq
          clear la lb hc S1
          generalize grow (wr.drewN nq) osq = w2 at S2 ⊢
          clear nq osq
          go_wp2
          go_roundg (c - i)
          case measure => omega
          case rel => exact ⟨i, c, rfl, rfl, hsi, by omega, by omega, Nat.le_refl _, I2, S2⟩
        · have hd : decide (cf x y < 0) = false := decide_eq_false hv
          have I2 := Aside0.mk (show Srch (ltOf cf) n s0 r0 d (c + 1) j from ⟨.inr ⟨by omega, by rw [HP.out.2.1, Nat.add_sub_cancel, ← HX.out.1, ← HX.out.2]; exact hd⟩, I.out.2⟩)
          go_wp2_with fail
          go_quiet_grown (first | (go_at_fn g; refine Calls.grown_of (hc _ _)))
          have S2 : Aside (SWK enc k w0 blk off d (grow (wr.drewN nq) osq)) := S1.out.grown nq osq
          clear la lb hc S1
          generalize grow (wr.drewN nq) osq = w2 at S2 ⊢
          clear nq osq
          go_wp2
          go_roundg (j - (c + 1))
          case measure => omega
          case rel => exact ⟨c + 1, j, by first | rfl | go_num, rfl, by omega, by omega, hjr, Nat.le_refl _, I2, S2⟩
      · have hltz : decide ((i : Int) < (j : Int)) = false := decide_eq_false (by omega)
        obtain rfl : j = i := by omega
        obtain ⟨e, he⟩ : ∃ e, e = mid + m - j := ⟨_, rfl⟩
        have e_e : (n : Int) - (j : Int) = (e : Int) := by omega
        have w_e : IntKind.i64.wrap (e : Int) = (e : Int) := by rw [IntKind.wrap_i64]; omega
        have z1 : a ≤ j := by omega
        have z2 : j ≤ m := by omega
        have z3 : j ≤ mid := by omega
        have z4 : e ≤ b := by omega
        have z5 : m ≤ e := by omega
        have z6 : mid ≤ e := by omega
        have z7 : j ≤ e := by omega
        have hparts := Aside0.mk (fun (d1 : Array α) (hr : Rot j m e d d1) => parts_of (s := j) (mid := mid) hS ham hmb hmid he H1.out H2.out z1 z2 z3 z4
          (by
            rcases I.out.1 with h | ⟨h, h'⟩
            · rcases QZ2.out.1 with h3 | h3
              · exact .inl (by omega)
              · exact .inr (.inl (by omega))
            · exact .inr (.inr ⟨by omega, by omega, by omega, by rw [he, ← hn]; exact h'⟩))
          (by
            rcases I.out.2 with h | ⟨h, h'⟩
            · rcases QZ2.out.2 with h3 | h3
              · exact .inl (by omega)
              · exact .inr (.inl (by omega))
            · exact .inr (.inr ⟨by omega, by omega, by rw [show e - 1 = n - 1 - j by omega]; exact h'⟩)) hr)
        have hcl : e - j < b - a ∨ True := .inr trivial
        have hrotL := Aside0.mk (fun (h3 : j < m) (h4 : m < e) => rotate_any HL.out blk off cap j m e d0 d w0 wr (.func (.func g) #[] cb) R (by omega) S1.out h3 h4 (by omega) hsz)
        have hnL := Aside0.mk (fun (h : ¬ (j < m ∧ m < e)) => (show Rot j m e d d from (by
          by_cases h3 : j < m
          · have h4 : e = m := by omega
            rw [h4]; exact Rot.right j m d (by omega)
          · have h4 : j = m := by omega
            rw [h4]; exact Rot.left m e d)))
        clear he hmid hn hp I hcl
        by_cases hR : j < m ∧ m < e
        · have x1 : decide (j < m) = true := decide_eq_true (by omega)
          have x2 : decide (m < e) = true := decide_eq_true (by omega)
          have hrot := Aside0.mk (hrotL.out hR.1 hR.2)
          clear hrotL hnL
          by_cases hL : a < j ∧ j < mid
          · have x3 : decide (a < j) = true := decide_eq_true (by omega)
            have x4 : decide (j < mid) = true := decide_eq_true (by omega)
            by_cases hG : mid < e ∧ e < b
            · have x5 : decide (mid < e) = true := decide_eq_true (by omega)
              have x6 : decide (e < b) = true := decide_eq_true (by omega)
              go_wp2_with (go_at_call 39; refine Calls.mono hrot.out ?_; rintro e' w' ⟨rfl, d1, hr, hS1⟩; have HR : Aside _ := hr; have S2 : Aside (SWK enc k w0 blk off d1 w') := hS1; clear hr hS1)
              have PT := Aside0.mk (hparts.out d1 HR.out)
              have HZ1 := Aside0.mk (show d1.size = d.size from HR.out.1.1)
              have hleft := Aside0.mk (IH.out a j mid d1 _ (by omega) (by omega) (by omega) (by have := HZ1.out; omega) HZ1.out S2.out PT.out.p1 PT.out.p2)
              rw [HZ1.out] at hleft
              go_wp2_with (go_at_call 38; refine Calls.mono hleft.out ?_; rintro e' w2 ⟨rfl, d2, hA, hS2⟩; have HA := Aside0.mk hA; have S3 : Aside (SWK enc k w0 blk off d2 w2) := hS2; clear hA hS2)
              have HZ2 := Aside0.mk (show d2.size = d.size from HA.out.1.1.trans HZ1.out)
              have hright := Aside0.mk (IH.out mid e b d2 _ (by omega) (by omega) (by omega) (by have := HZ2.out; omega) HZ2.out S3.out (sorted_out HA.out.1 PT.out.p3 (.inr (Nat.le_refl _))) (sorted_out HA.out.1 PT.out.p4 (.inr (by omega))))
              rw [HZ2.out] at hright
              go_wp2_with (go_at_call 38; refine Calls.mono hright.out ?_; rintro e' w3 ⟨rfl, d3, hB, hS3⟩; have HB := Aside0.mk hB; have S4 : Aside (SWK enc k w0 blk off d3 w3) := hS3; clear hB hS3)
              go_end0
              exact ⟨rfl, d3, gen_done HR.out PT.out (by omega) (by omega) (by omega) (by omega) (by omega) hb HA.out HB.out, S4.out⟩
            · by_cases hy' : mid < e
              · have x5 : decide (mid < e) = true := decide_eq_true (by omega)
                have x6 : decide (e < b) = false := decide_eq_false (by omega)
                go_wp2_with (go_at_call 39; refine Calls.mono hrot.out ?_; rintro e' w' ⟨rfl, d1, hr, hS1⟩; have HR : Aside _ := hr; have S2 : Aside (SWK enc k w0 blk off d1 w') := hS1; clear hr hS1)
                have PT := Aside0.mk (hparts.out d1 HR.out)
                have HZ1 := Aside0.mk (show d1.size = d.size from HR.out.1.1)
                have hleft := Aside0.mk (IH.out a j mid d1 _ (by omega) (by omega) (by omega) (by have := HZ1.out; omega) HZ1.out S2.out PT.out.p1 PT.out.p2)
                rw [HZ1.out] at hleft
                go_wp2_with (go_at_call 38; refine Calls.mono hleft.out ?_; rintro e' w2 ⟨rfl, d2, hA, hS2⟩; have HA := Aside0.mk hA; have S3 : Aside (SWK enc k w0 blk off d2 w2) := hS2; clear hA hS2)
                have HZ2 := Aside0.mk (show d2.size = d.size from HA.out.1.1.trans HZ1.out)
                have HB := Aside0.mk (show PermIn mid b d2 d2 ∧ SortedIn (ltOf cf) mid b d2 from ⟨permIn_refl _ _ _, right_skip_out HA.out.1 PT.out (by omega) (by omega) hG⟩)
                have S4 := S3
                go_wp2
                go_end0
                exact ⟨rfl, d2, gen_done HR.out PT.out (by omega) (by omega) (by omega) (by omega) (by omega) hb HA.out HB.out, S4.out⟩
              · have x5 : decide (mid < e) = false := decide_eq_false (by omega)
                go_wp2_with (go_at_call 39; refine Calls.mono hrot.out ?_; rintro e' w' ⟨rfl, d1, hr, hS1⟩; have HR : Aside _ := hr; have S2 : Aside (SWK enc k w0 blk off d1 w') := hS1; clear hr hS1)
                have PT := Aside0.mk (hparts.out d1 HR.out)
                have HZ1 := Aside0.mk (show d1.size = d.size from HR.out.1.1)
                have hleft := Aside0.mk (IH.out a j mid d1 _ (by omega) (by omega) (by omega) (by have := HZ1.out; omega) HZ1.out S2.out PT.out.p1 PT.out.p2)
                rw [HZ1.out] at hleft
                go_wp2_with (go_at_call 38; refine Calls.mono hleft.out ?_; rintro e' w2 ⟨rfl, d2, hA, hS2⟩; have HA := Aside0.mk hA; have S3 : Aside (SWK enc k w0 blk off d2 w2) := hS2; clear hA hS2)
                have HZ2 := Aside0.mk (show d2.size = d.size from HA.out.1.1.trans HZ1.out)
                have HB := Aside0.mk (show PermIn mid b d2 d2 ∧ SortedIn (ltOf cf) mid b d2 from ⟨permIn_refl _ _ _, right_skip_out HA.out.1 PT.out (by omega) (by omega) hG⟩)
                have S4 := S3
                go_wp2
                go_end0
                exact ⟨rfl, d2, gen_done HR.out PT.out (by omega) (by omega) (by omega) (by omega) (by omega) hb HA.out HB.out, S4.out⟩
          · by_cases hy : a < j
            · have x3 : decide (a < j) = true := decide_eq_true (by omega)
              have x4 : decide (j < mid) = false := decide_eq_false (by omega)
              by_cases hG : mid < e ∧ e < b
              · have x5 : decide (mid < e) = true := decide_eq_true (by omega)
                have x6 : decide (e < b) = true := decide_eq_true (by omega)
                go_wp2_with (go_at_call 39; refine Calls.mono hrot.out ?_; rintro e' w' ⟨rfl, d1, hr, hS1⟩; have HR : Aside _ := hr; have S2 : Aside (SWK enc k w0 blk off d1 w') := hS1; clear hr hS1)
                have PT := Aside0.mk (hparts.out d1 HR.out)
                have HZ1 := Aside0.mk (show d1.size = d.size from HR.out.1.1)
                have HA := Aside0.mk (show PermIn a mid d1 d1 ∧ SortedIn (ltOf cf) a mid d1 from ⟨permIn_refl _ _ _, left_skip PT.out (by omega) (by omega) hL⟩)
                have S3 := S2
                have HZ2 := Aside0.mk (show d1.size = d.size from HA.out.1.1.trans HZ1.out)
                have hright := Aside0.mk (IH.out mid e b d1 _ (by omega) (by omega) (by omega) (by have := HZ2.out; omega) HZ2.out S3.out (sorted_out HA.out.1 PT.out.p3 (.inr (Nat.le_refl _))) (sorted_out HA.out.1 PT.out.p4 (.inr (by omega))))
                rw [HZ2.out] at hright
                go_wp2_with (go_at_call 38; refine Calls.mono hright.out ?_; rintro e' w3 ⟨rfl, d3, hB, hS3⟩; have HB := Aside0.mk hB; have S4 : Aside (SWK enc k w0 blk off d3 w3) := hS3; clear hB hS3)
                go_end0
                exact ⟨rfl, d3, gen_done HR.out PT.out (by omega) (by omega) (by omega) (by omega) (by omega) hb HA.out HB.out, S4.out⟩
              · by_cases hy' : mid < e
                · have x5 : decide (mid < e) = true := decide_eq_true (by omega)
                  have x6 : decide (e < b) = false := decide_eq_false (by omega)
                  go_wp2_with (go_at_call 39; refine Calls.mono hrot.out ?_; rintro e' w' ⟨rfl, d1, hr, hS1⟩; have HR : Aside _ := hr; have S2 : Aside (SWK enc k w0 blk off d1 w') := hS1; clear hr hS1)
                  have PT := Aside0.mk (hparts.out d1 HR.out)
                  have HZ1 := Aside0.mk (show d1.size = d.size from HR.out.1.1)
                  have HA := Aside0.mk (show PermIn a mid d1 d1 ∧ SortedIn (ltOf cf) a mid d1 from ⟨permIn_refl _ _ _, left_skip PT.out (by omega) (by omega) hL⟩)
                  have S3 := S2
                  have HZ2 := Aside0.mk (show d1.size = d.size from HA.out.1.1.trans HZ1.out)
                  have HB := Aside0.mk (show PermIn mid b d1 d1 ∧ SortedIn (ltOf cf) mid b d1 from ⟨permIn_refl _ _ _, right_skip_out HA.out.1 PT.out (by omega) (by omega) hG⟩)
                  have S4 := S3
                  go_wp2
                  go_end0
                  exact ⟨rfl, d1, gen_done HR.out PT.out (by omega) (by omega) (by omega) (by omega) (by omega) hb HA.out HB.out, S4.out⟩
                · have x5 : decide (mid < e) = false := decide_eq_false (by omega)
                  go_wp2_with (go_at_call 39; refine Calls.mono hrot.out ?_; rintro e' w' ⟨rfl, d1, hr, hS1⟩; have HR : Aside _ := hr; have S2 : Aside (SWK enc k w0 blk off d1 w') := hS1; clear hr hS1)
                  have PT := Aside0.mk (hparts.out d1 HR.out)
                  have HZ1 := Aside0.mk (show d1.size = d.size from HR.out.1.1)
                  have HA := Aside0.mk (show PermIn a mid d1 d1 ∧ SortedIn (ltOf cf) a mid d1 from ⟨permIn_refl _ _ _, left_skip PT.out (by omega) (by omega) hL⟩)
                  have S3 := S2
                  have HZ2 := Aside0.mk (show d1.size = d.size from HA.out.1.1.trans HZ1.out)
                  have HB := Aside0.mk (show PermIn mid b d1 d1 ∧ SortedIn (ltOf cf) mid b d1 from ⟨permIn_refl _ _ _, right_skip_out HA.out.1 PT.out (by omega) (by omega) hG⟩)
                  have S4 := S3
                  go_wp2
                  go_end0
                  exact ⟨rfl, d1, gen_done HR.out PT.out (by omega) (by omega) (by omega) (by omega) (by omega) hb HA.out HB.out, S4.out⟩
            · have x3 : decide (a < j) = false := decide_eq_false (by omega)
              by_cases hG : mid < e ∧ e < b
              · have x5 : decide (mid < e) = true := decide_eq_true (by omega)
                have x6 : decide (e < b) = true := decide_eq_true (by omega)
                go_wp2_with (go_at_call 39; refine Calls.mono hrot.out ?_; rintro e' w' ⟨rfl, d1, hr, hS1⟩; have HR : Aside _ := hr; have S2 : Aside (SWK enc k w0 blk off d1 w') := hS1; clear hr hS1)
                have PT := Aside0.mk (hparts.out d1 HR.out)
                have HZ1 := Aside0.mk (show d1.size = d.size from HR.out.1.1)
                have HA := Aside0.mk (show PermIn a mid d1 d1 ∧ SortedIn (ltOf cf) a mid d1 from ⟨permIn_refl _ _ _, left_skip PT.out (by omega) (by omega) hL⟩)
                have S3 := S2
                have HZ2 := Aside0.mk (show d1.size = d.size from HA.out.1.1.trans HZ1.out)
                have hright := Aside0.mk (IH.out mid e b d1 _ (by omega) (by omega) (by omega) (by have := HZ2.out; omega) HZ2.out S3.out (sorted_out HA.out.1 PT.out.p3 (.inr (Nat.le_refl _))) (sorted_out HA.out.1 PT.out.p4 (.inr (by omega))))
                rw [HZ2.out] at hright
                go_wp2_with (go_at_call 38; refine Calls.mono hright.out ?_; rintro e' w3 ⟨rfl, d3, hB, hS3⟩; have HB := Aside0.mk hB; have S4 : Aside (SWK enc k w0 blk off d3 w3) := hS3; clear hB hS3)
                go_end0
                exact ⟨rfl, d3, gen_done HR.out PT.out (by omega) (by omega) (by omega) (by omega) (by omega) hb HA.out HB.out, S4.out⟩
              · by_cases hy' : mid < e
                · have x5 : decide (mid < e) = true := decide_eq_true (by omega)
                  have x6 : decide (e < b) = false := decide_eq_false (by omega)
                  go_wp2_with (go_at_call 39; refine Calls.mono hrot.out ?_; rintro e' w' ⟨rfl, d1, hr, hS1⟩; have HR : Aside _ := hr; have S2 : Aside (SWK enc k w0 blk off d1 w') := hS1; clear hr hS1)
                  have PT := Aside0.mk (hparts.out d1 HR.out)
                  have HZ1 := Aside0.mk (show d1.size = d.size from HR.out.1.1)
                  have HA := Aside0.mk (show PermIn a mid d1 d1 ∧ SortedIn (ltOf cf) a mid d1 from ⟨permIn_refl _ _ _, left_skip PT.out (by omega) (by omega) hL⟩)
                  have S3 := S2
                  have HZ2 := Aside0.mk (show d1.size = d.size from HA.out.1.1.trans HZ1.out)
                  have HB := Aside0.mk (show PermIn mid b d1 d1 ∧ SortedIn (ltOf cf) mid b d1 from ⟨permIn_refl _ _ _, right_skip_out HA.out.1 PT.out (by omega) (by omega) hG⟩)
                  have S4 := S3
                  go_wp2
                  go_end0
                  exact ⟨rfl, d1, gen_done HR.out PT.out (by omega) (by omega) (by omega) (by omega) (by omega) hb HA.out HB.out, S4.out⟩
                · have x5 : decide (mid < e) = false := decide_eq_false (by omega)
                  go_wp2_with (go_at_call 39; refine Calls.mono hrot.out ?_; rintro e' w' ⟨rfl, d1, hr, hS1⟩; have HR : Aside _ := hr; have S2 : Aside (SWK enc k w0 blk off d1 w') := hS1; clear hr hS1)
                  have PT := Aside0.mk (hparts.out d1 HR.out)
                  have HZ1 := Aside0.mk (show d1.size = d.size from HR.out.1.1)
                  have HA := Aside0.mk (show PermIn a mid d1 d1 ∧ SortedIn (ltOf cf) a mid d1 from ⟨permIn_refl _ _ _, left_skip PT.out (by omega) (by omega) hL⟩)
                  have S3 := S2
                  have HZ2 := Aside0.mk (show d1.size = d.size from HA.out.1.1.trans HZ1.out)
                  have HB := Aside0.mk (show PermIn mid b d1 d1 ∧ SortedIn (ltOf cf) mid b d1 from ⟨permIn_refl _ _ _, right_skip_out HA.out.1 PT.out (by omega) (by omega) hG⟩)
                  have S4 := S3
                  go_wp2
                  go_end0
                  exact ⟨rfl, d1, gen_done HR.out PT.out (by omega) (by omega) (by omega) (by omega) (by omega) hb HA.out HB.out, S4.out⟩
        · have hnorot := hnL.out hR
          clear hrotL hnL
          have HNR := Aside0.mk hnorot
          clear hnorot
          by_cases hx : j < m
          · have x1 : decide (j < m) = true := decide_eq_true (by omega)
            have x2 : decide (m < e) = false := decide_eq_false (by omega)
            by_cases hL : a < j ∧ j < mid
            · have x3 : decide (a < j) = true := decide_eq_true (by omega)
              have x4 : decide (j < mid) = true := decide_eq_true (by omega)
              by_cases hG : mid < e ∧ e < b
              · have x5 : decide (mid < e) = true := decide_eq_true (by omega)
                have x6 : decide (e < b) = true := decide_eq_true (by omega)
                have HR : Aside (Rot j m e d d) := HNR.out
                have S2 : Aside (SWK enc k w0 blk off d wr) := S1
                have PT := Aside0.mk (hparts.out d HR.out)
                have hleft := Aside0.mk (IH.out a j mid d _ (by omega) (by omega) (by omega) (by omega) rfl S2.out PT.out.p1 PT.out.p2)
                go_wp2_with (go_at_call 38; refine Calls.mono hleft.out ?_; rintro e' w2 ⟨rfl, d2, hA, hS2⟩; have HA := Aside0.mk hA; have S3 : Aside (SWK enc k w0 blk off d2 w2) := hS2; clear hA hS2)
                have HZ2 := Aside0.mk (show d2.size = d.size from HA.out.1.1)
                have hright := Aside0.mk (IH.out mid e b d2 _ (by omega) (by omega) (by omega) (by have := HZ2.out; omega) HZ2.out S3.out (sorted_out HA.out.1 PT.out.p3 (.inr (Nat.le_refl _))) (sorted_out HA.out.1 PT.out.p4 (.inr (by omega))))
                rw [HZ2.out] at hright
                go_wp2_with (go_at_call 38; refine Calls.mono hright.out ?_; rintro e' w3 ⟨rfl, d3, hB, hS3⟩; have HB := Aside0.mk hB; have S4 : Aside (SWK enc k w0 blk off d3 w3) := hS3; clear hB hS3)
                go_end0
                exact ⟨rfl, d3, gen_done HR.out PT.out (by omega) (by omega) (by omega) (by omega) (by omega) hb HA.out HB.out, S4.out⟩
              · by_cases hy' : mid < e
                · have x5 : decide (mid < e) = true := decide_eq_true (by omega)
                  have x6 : decide (e < b) = false := decide_eq_false (by omega)
                  have HR : Aside (Rot j m e d d) := HNR.out
                  have S2 : Aside (SWK enc k w0 blk off d wr) := S1
                  have PT := Aside0.mk (hparts.out d HR.out)
                  have hleft := Aside0.mk (IH.out a j mid d _ (by omega) (by omega) (by omega) (by omega) rfl S2.out PT.out.p1 PT.out.p2)
                  go_wp2_with (go_at_call 38; refine Calls.mono hleft.out ?_; rintro e' w2 ⟨rfl, d2, hA, hS2⟩; have HA := Aside0.mk hA; have S3 : Aside (SWK enc k w0 blk off d2 w2) := hS2; clear hA hS2)
                  have HZ2 := Aside0.mk (show d2.size = d.size from HA.out.1.1)
                  have HB := Aside0.mk (show PermIn mid b d2 d2 ∧ SortedIn (ltOf cf) mid b d2 from ⟨permIn_refl _ _ _, right_skip_out HA.out.1 PT.out (by omega) (by omega) hG⟩)
                  have S4 := S3
                  go_wp2
                  go_end0
                  exact ⟨rfl, d2, gen_done HR.out PT.out (by omega) (by omega) (by omega) (by omega) (by omega) hb HA.out HB.out, S4.out⟩
                · have x5 : decide (mid < e) = false := decide_eq_false (by omega)
                  have HR : Aside (Rot j m e d d) := HNR.out
                  have S2 : Aside (SWK enc k w0 blk off d wr) := S1
                  have PT := Aside0.mk (hparts.out d HR.out)
                  have hleft := Aside0.mk (IH.out a j mid d _ (by omega) (by omega) (by omega) (by omega) rfl S2.out PT.out.p1 PT.out.p2)
                  go_wp2_with (go_at_call 38; refine Calls.mono hleft.out ?_; rintro e' w2 ⟨rfl, d2, hA, hS2⟩; have HA := Aside0.mk hA; have S3 : Aside (SWK enc k w0 blk off d2 w2) := hS2; clear hA hS2)
                  have HZ2 := Aside0.mk (show d2.size = d.size from HA.out.1.1)
                  have HB := Aside0.mk (show PermIn mid b d2 d2 ∧ SortedIn (ltOf cf) mid b d2 from ⟨permIn_refl _ _ _, right_skip_out HA.out.1 PT.out (by omega) (by omega) hG⟩)
                  have S4 := S3
                  go_wp2
                  go_end0
                  exact ⟨rfl, d2, gen_done HR.out PT.out (by omega) (by omega) (by omega) (by omega) (by omega) hb HA.out HB.out, S4.out⟩
            · by_cases hy : a < j
              · have x3 : decide (a < j) = true := decide_eq_true (by omega)
                have x4 : decide (j < mid) = false := decide_eq_false (by omega)
                by_cases hG : mid < e ∧ e < b
                · have x5 : decide (mid < e) = true := decide_eq_true (by omega)
                  have x6 : decide (e < b) = true := decide_eq_true (by omega)
                  have HR : Aside (Rot j m e d d) := HNR.out
                  have S2 : Aside (SWK enc k w0 blk off d wr) := S1
                  have PT := Aside0.mk (hparts.out d HR.out)
                  have HA := Aside0.mk (show PermIn a mid d d ∧ SortedIn (ltOf cf) a mid d from ⟨permIn_refl _ _ _, left_skip PT.out (by omega) (by omega) hL⟩)
                  have S3 := S2
                  have hright := Aside0.mk (IH.out mid e b d _ (by omega) (by omega) (by omega) (by omega) rfl S3.out (sorted_out HA.out.1 PT.out.p3 (.inr (Nat.le_refl _))) (sorted_out HA.out.1 PT.out.p4 (.inr (by omega))))
                  go_wp2_with (go_at_call 38; refine Calls.mono hright.out ?_; rintro e' w3 ⟨rfl, d3, hB, hS3⟩; have HB := Aside0.mk hB; have S4 : Aside (SWK enc k w0 blk off d3 w3) := hS3; clear hB hS3)
                  go_end0
                  exact ⟨rfl, d3, gen_done HR.out PT.out (by omega) (by omega) (by omega) (by omega) (by omega) hb HA.out HB.out, S4.out⟩
                · by_cases hy' : mid < e
                  · have x5 : decide (mid < e) = true := decide_eq_true (by omega)
                    have x6 : decide (e < b) = false := decide_eq_false (by omega)
                    have HR : Aside (Rot j m e d d) := HNR.out
                    have S2 : Aside (SWK enc k w0 blk off d wr) := S1
                    have PT := Aside0.mk (hparts.out d HR.out)
                    have HA := Aside0.mk (show PermIn a mid d d ∧ SortedIn (ltOf cf) a mid d from ⟨permIn_refl _ _ _, left_skip PT.out (by omega) (by omega) hL⟩)
                    have S3 := S2
                    have HB := Aside0.mk (show PermIn mid b d d ∧ SortedIn (ltOf cf) mid b d from ⟨permIn_refl _ _ _, right_skip_out HA.out.1 PT.out (by omega) (by omega) hG⟩)
                    have S4 := S3
                    go_wp2
                    go_end0
                    exact ⟨rfl, d, gen_done HR.out PT.out (by omega) (by omega) (by omega) (by omega) (by omega) hb HA.out HB.out, S4.out⟩
                  · have x5 : decide (mid < e) = false := decide_eq_false (by omega)
                    have HR : Aside (Rot j m e d d) := HNR.out
                    have S2 : Aside (SWK enc k w0 blk off d wr) := S1
                    have PT := Aside0.mk (hparts.out d HR.out)
                    have HA := Aside0.mk (show PermIn a mid d d ∧ SortedIn (ltOf cf) a mid d from ⟨permIn_refl _ _ _, left_skip PT.out (by omega) (by omega) hL⟩)
                    have S3 := S2
                    have HB := Aside0.mk (show PermIn mid b d d ∧ SortedIn (ltOf cf) mid b d from ⟨permIn_refl _ _ _, right_skip_out HA.out.1 PT.out (by omega) (by omega) hG⟩)
                    have S4 := S3
                    go_wp2
                    go_end0
                    exact ⟨rfl, d, gen_done HR.out PT.out (by omega) (by omega) (by omega) (by omega) (by omega) hb HA.out HB.out, S4.out⟩
              · have x3 : decide (a < j) = false := decide_eq_false (by omega)
                by_cases hG : mid < e ∧ e < b
                · have x5 : decide (mid < e) = true := decide_eq_true (by omega)
                  have x6 : decide (e < b) = true := decide_eq_true (by omega)
                  have HR : Aside (Rot j m e d d) := HNR.out
                  have S2 : Aside (SWK enc k w0 blk off d wr) := S1
                  have PT := Aside0.mk (hparts.out d HR.out)
                  have HA := Aside0.mk (show PermIn a mid d d ∧ SortedIn (ltOf cf) a mid d from ⟨permIn_refl _ _ _, left_skip PT.out (by omega) (by omega) hL⟩)
                  have S3 := S2
                  have hright := Aside0.mk (IH.out mid e b d _ (by omega) (by omega) (by omega) (by omega) rfl S3.out (sorted_out HA.out.1 PT.out.p3 (.inr (Nat.le_refl _))) (sorted_out HA.out.1 PT.out.p4 (.inr (by omega))))
                  go_wp2_with (go_at_call 38; refine Calls.mono hright.out ?_; rintro e' w3 ⟨rfl, d3, hB, hS3⟩; have HB := Aside0.mk hB; have S4 : Aside (SWK enc k w0 blk off d3 w3) := hS3; clear hB hS3)
                  go_end0
                  exact ⟨rfl, d3, gen_done HR.out PT.out (by omega) (by omega) (by omega) (by omega) (by omega) hb HA.out HB.out, S4.out⟩
                · by_cases hy' : mid < e
                  · have x5 : decide (mid < e) = true := decide_eq_true (by omega)
                    have x6 : decide (e < b) = false := decide_eq_false (by omega)
                    have HR : Aside (Rot j m e d d) := HNR.out
                    have S2 : Aside (SWK enc k w0 blk off d wr) := S1
                    have PT := Aside0.mk (hparts.out d HR.out)
                    have HA := Aside0.mk (show PermIn a mid d d ∧ SortedIn (ltOf cf) a mid d from ⟨permIn_refl _ _ _, left_skip PT.out (by omega) (by omega) hL⟩)
                    have S3 := S2
                    have HB := Aside0.mk (show PermIn mid b d d ∧ SortedIn (ltOf cf) mid b d from ⟨permIn_refl _ _ _, right_skip_out HA.out.1 PT.out (by omega) (by omega) hG⟩)
                    have S4 := S3
                    go_wp2
                    go_end0
                    exact ⟨rfl, d, gen_done HR.out PT.out (by omega) (by omega) (by omega) (by omega) (by omega) hb HA.out HB.out, S4.out⟩
                  · have x5 : decide (mid < e) = false := decide_eq_false (by omega)
                    have HR : Aside (Rot j m e d d) := HNR.out
                    have S2 : Aside (SWK enc k w0 blk off d wr) := S1
                    have PT := Aside0.mk (hparts.out d HR.out)
                    have HA := Aside0.mk (show PermIn a mid d d ∧ SortedIn (ltOf cf) a mid d from ⟨permIn_refl _ _ _, left_skip PT.out (by omega) (by omega) hL⟩)
                    have S3 := S2
                    have HB := Aside0.mk (show PermIn mid b d d ∧ SortedIn (ltOf cf) mid b d from ⟨permIn_refl _ _ _, right_skip_out HA.out.1 PT.out (by omega) (by omega) hG⟩)
                    have S4 := S3
                    go_wp2
                    go_end0
                    exact ⟨rfl, d, gen_done HR.out PT.out (by omega) (by omega) (by omega) (by omega) (by omega) hb HA.out HB.out, S4.out⟩
          · have x1 : decide (j < m) = false := decide_eq_false (by omega)
            by_cases hL : a < j ∧ j < mid
            · have x3 : decide (a < j) = true := decide_eq_true (by omega)
              have x4 : decide (j < mid) = true := decide_eq_true (by omega)
              by_cases hG : mid < e ∧ e < b
              · have x5 : decide (mid < e) = true := decide_eq_true (by omega)
                have x6 : decide (e < b) = true := decide_eq_true (by omega)
                have HR : Aside (Rot j m e d d) := HNR.out
                have S2 : Aside (SWK enc k w0 blk off d wr) := S1
                have PT := Aside0.mk (hparts.out d HR.out)
                have hleft := Aside0.mk (IH.out a j mid d _ (by omega) (by omega) (by omega) (by omega) rfl S2.out PT.out.p1 PT.out.p2)
                go_wp2_with (go_at_call 38; refine Calls.mono hleft.out ?_; rintro e' w2 ⟨rfl, d2, hA, hS2⟩; have HA := Aside0.mk hA; have S3 : Aside (SWK enc k w0 blk off d2 w2) := hS2; clear hA hS2)
                have HZ2 := Aside0.mk (show d2.size = d.size from HA.out.1.1)
                have hright := Aside0.mk (IH.out mid e b d2 _ (by omega) (by omega) (by omega) (by have := HZ2.out; omega) HZ2.out S3.out (sorted_out HA.out.1 PT.out.p3 (.inr (Nat.le_refl _))) (sorted_out HA.out.1 PT.out.p4 (.inr (by omega))))
                rw [HZ2.out] at hright
                go_wp2_with (go_at_call 38; refine Calls.mono hright.out ?_; rintro e' w3 ⟨rfl, d3, hB, hS3⟩; have HB := Aside0.mk hB; have S4 : Aside (SWK enc k w0 blk off d3 w3) := hS3; clear hB hS3)
                go_end0
                exact ⟨rfl, d3, gen_done HR.out PT.out (by omega) (by omega) (by omega) (by omega) (by omega) hb HA.out HB.out, S4.out⟩
              · by_cases hy' : mid < e
                · have x5 : decide (mid < e) = true := decide_eq_true (by omega)
                  have x6 : decide (e < b) = false := decide_eq_false (by omega)
                  have HR : Aside (Rot j m e d d) := HNR.out
                  have S2 : Aside (SWK enc k w0 blk off d wr) := S1
                  have PT := Aside0.mk (hparts.out d HR.out)
                  have hleft := Aside0.mk (IH.out a j mid d _ (by omega) (by omega) (by omega) (by omega) rfl S2.out PT.out.p1 PT.out.p2)
                  go_wp2_with (go_at_call 38; refine Calls.mono hleft.out ?_; rintro e' w2 ⟨rfl, d2, hA, hS2⟩; have HA := Aside0.mk hA; have S3 : Aside (SWK enc k w0 blk off d2 w2) := hS2; clear hA hS2)
                  have HZ2 := Aside0.mk (show d2.size = d.size from HA.out.1.1)
                  have HB := Aside0.mk (show PermIn mid b d2 d2 ∧ SortedIn (ltOf cf) mid b d2 from ⟨permIn_refl _ _ _, right_skip_out HA.out.1 PT.out (by omega) (by omega) hG⟩)
                  have S4 := S3
                  go_wp2
                  go_end0
                  exact ⟨rfl, d2, gen_done HR.out PT.out (by omega) (by omega) (by omega) (by omega) (by omega) hb HA.out HB.out, S4.out⟩
                · have x5 : decide (mid < e) = false := decide_eq_false (by omega)
                  have HR : Aside (Rot j m e d d) := HNR.out
                  have S2 : Aside (SWK enc k w0 blk off d wr) := S1
                  have PT := Aside0.mk (hparts.out d HR.out)
                  have hleft := Aside0.mk (IH.out a j mid d _ (by omega) (by omega) (by omega) (by omega) rfl S2.out PT.out.p1 PT.out.p2)
                  go_wp2_with (go_at_call 38; refine Calls.mono hleft.out ?_; rintro e' w2 ⟨rfl, d2, hA, hS2⟩; have HA := Aside0.mk hA; have S3 : Aside (SWK enc k w0 blk off d2 w2) := hS2; clear hA hS2)
                  have HZ2 := Aside0.mk (show d2.size = d.size from HA.out.1.1)
                  have HB := Aside0.mk (show PermIn mid b d2 d2 ∧ SortedIn (ltOf cf) mid b d2 from ⟨permIn_refl _ _ _, right_skip_out HA.out.1 PT.out (by omega) (by omega) hG⟩)
                  have S4 := S3
                  go_wp2
                  go_end0
                  exact ⟨rfl, d2, gen_done HR.out PT.out (by omega) (by omega) (by omega) (by omega) (by omega) hb HA.out HB.out, S4.out⟩
            · by_cases hy : a < j
              · have x3 : decide (a < j) = true := decide_eq_true (by omega)
                have x4 : decide (j < mid) = false := decide_eq_false (by omega)
                by_cases hG : mid < e ∧ e < b
                · have x5 : decide (mid < e) = true := decide_eq_true (by omega)
                  have x6 : decide (e < b) = true := decide_eq_true (by omega)
                  have HR : Aside (Rot j m e d d) := HNR.out
                  have S2 : Aside (SWK enc k w0 blk off d wr) := S1
                  have PT := Aside0.mk (hparts.out d HR.out)
                  have HA := Aside0.mk (show PermIn a mid d d ∧ SortedIn (ltOf cf) a mid d from ⟨permIn_refl _ _ _, left_skip PT.out (by omega) (by omega) hL⟩)
                  have S3 := S2
                  have hright := Aside0.mk (IH.out mid e b d _ (by omega) (by omega) (by omega) (by omega) rfl S3.out (sorted_out HA.out.1 PT.out.p3 (.inr (Nat.le_refl _))) (sorted_out HA.out.1 PT.out.p4 (.inr (by omega))))
                  go_wp2_with (go_at_call 38; refine Calls.mono hright.out ?_; rintro e' w3 ⟨rfl, d3, hB, hS3⟩; have HB := Aside0.mk hB; have S4 : Aside (SWK enc k w0 blk off d3 w3) := hS3; clear hB hS3)
                  go_end0
                  exact ⟨rfl, d3, gen_done HR.out PT.out (by omega) (by omega) (by omega) (by omega) (by omega) hb HA.out HB.out, S4.out⟩
                · by_cases hy' : mid < e
                  · have x5 : decide (mid < e) = true := decide_eq_true (by omega)
                    have x6 : decide (e < b) = false := decide_eq_false (by omega)
                    have HR : Aside (Rot j m e d d) := HNR.out
                    have S2 : Aside (SWK enc k w0 blk off d wr) := S1
                    have PT := Aside0.mk (hparts.out d HR.out)
                    have HA := Aside0.mk (show PermIn a mid d d ∧ SortedIn (ltOf cf) a mid d from ⟨permIn_refl _ _ _, left_skip PT.out (by omega) (by omega) hL⟩)
                    have S3 := S2
                    have HB := Aside0.mk (show PermIn mid b d d ∧ SortedIn (ltOf cf) mid b d from ⟨permIn_refl _ _ _, right_skip_out HA.out.1 PT.out (by omega) (by omega) hG⟩)
                    have S4 := S3
                    go_wp2
                    go_end0
                    exact ⟨rfl, d, gen_done HR.out PT.out (by omega) (by omega) (by omega) (by omega) (by omega) hb HA.out HB.out, S4.out⟩
                  · have x5 : decide (mid < e) = false := decide_eq_false (by omega)
                    have HR : Aside (Rot j m e d d) := HNR.out
                    have S2 : Aside (SWK enc k w0 blk off d wr) := S1
                    have PT := Aside0.mk (hparts.out d HR.out)
                    have HA := Aside0.mk (show PermIn a mid d d ∧ SortedIn (ltOf cf) a mid d from ⟨permIn_refl _ _ _, left_skip PT.out (by omega) (by omega) hL⟩)
                    have S3 := S2
                    have HB := Aside0.mk (show PermIn mid b d d ∧ SortedIn (ltOf cf) mid b d from ⟨permIn_refl _ _ _, right_skip_out HA.out.1 PT.out (by omega) (by omega) hG⟩)
                    have S4 := S3
                    go_wp2
                    go_end0
                    exact ⟨rfl, d, gen_done HR.out PT.out (by omega) (by omega) (by omega) (by omega) (by omega) hb HA.out HB.out, S4.out⟩
              · have x3 : decide (a < j) = false := decide_eq_false (by omega)
                by_cases hG : mid < e ∧ e < b
                · have x5 : decide (mid < e) = true := decide_eq_true (by omega)
                  have x6 : decide (e < b) = true := decide_eq_true (by omega)
                  have HR : Aside (Rot j m e d d) := HNR.out
                  have S2 : Aside (SWK enc k w0 blk off d wr) := S1
                  have PT := Aside0.mk (hparts.out d HR.out)
                  have HA := Aside0.mk (show PermIn a mid d d ∧ SortedIn (ltOf cf) a mid d from ⟨permIn_refl _ _ _, left_skip PT.out (by omega) (by omega) hL⟩)
                  have S3 := S2
                  have hright := Aside0.mk (IH.out mid e b d _ (by omega) (by omega) (by omega) (by omega) rfl S3.out (sorted_out HA.out.1 PT.out.p3 (.inr (Nat.le_refl _))) (sorted_out HA.out.1 PT.out.p4 (.inr (by omega))))
                  go_wp2_with (go_at_call 38; refine Calls.mono hright.out ?_; rintro e' w3 ⟨rfl, d3, hB, hS3⟩; have HB := Aside0.mk hB; have S4 : Aside (SWK enc k w0 blk off d3 w3) := hS3; clear hB hS3)
                  go_end0
                  exact ⟨rfl, d3, gen_done HR.out PT.out (by omega) (by omega) (by omega) (by omega) (by omega) hb HA.out HB.out, S4.out⟩
                · by_cases hy' : mid < e
                  · have x5 : decide (mid < e) = true := decide_eq_true (by omega)
                    have x6 : decide (e < b) = false := decide_eq_false (by omega)
                    have HR : Aside (Rot j m e d d) := HNR.out
                    have S2 : Aside (SWK enc k w0 blk off d wr) := S1
                    have PT := Aside0.mk (hparts.out d HR.out)
                    have HA := Aside0.mk (show PermIn a mid d d ∧ SortedIn (ltOf cf) a mid d from ⟨permIn_refl _ _ _, left_skip PT.out (by omega) (by omega) hL⟩)
                    have S3 := S2
                    have HB := Aside0.mk (show PermIn mid b d d ∧ SortedIn (ltOf cf) mid b d from ⟨permIn_refl _ _ _, right_skip_out HA.out.1 PT.out (by omega) (by omega) hG⟩)
                    have S4 := S3
                    go_wp2
                    go_end0
                    exact ⟨rfl, d, gen_done HR.out PT.out (by omega) (by omega) (by omega) (by omega) (by omega) hb HA.out HB.out, S4.out⟩
                  · have x5 : decide (mid < e) = false := decide_eq_false (by omega)
                    have HR : Aside (Rot j m e d d) := HNR.out
                    have S2 : Aside (SWK enc k w0 blk off d wr) := S1
                    have PT := Aside0.mk (hparts.out d HR.out)
                    have HA := Aside0.mk (show PermIn a mid d d ∧ SortedIn (ltOf cf) a mid d from ⟨permIn_refl _ _ _, left_skip PT.out (by omega) (by omega) hL⟩)
                    have S3 := S2
                    have HB := Aside0.mk (show PermIn mid b d d ∧ SortedIn (ltOf cf) mid b d from ⟨permIn_refl _ _ _, right_skip_out HA.out.1 PT.out (by omega) (by omega) hG⟩)
                    have S4 := S3
                    go_wp2
                    go_end0
                    exact ⟨rfl, d, gen_done HR.out PT.out (by omega) (by omega) (by omega) (by omega) (by omega) hb HA.out HB.out, S4.out⟩
  | false =>
    obtain ⟨hs0, hr0⟩ := hmf rfl
    have Z := Aside0.mk (show r0 = mid ∨ r0 = m ∧ s0 = a from .inr ⟨hr0, hs0⟩)
    have ZA := Aside0.mk (show (a : Int) = (s0 : Int) by omega)
    have ZZ := Aside0.mk (show (m : Int) = (r0 : Int) by omega)
    clear hmf hmt hs0 hr0
    go_enter FG, Try.ntmps38
    go_wp2
    go_loopg [20, 21] b (fun kx s20 s21 wr => ∃ (i j : Nat), s20 = .int .i64 i ∧ s21 = .int .i64 j ∧ s0 ≤ i ∧ i ≤ j ∧ j ≤ r0 ∧ j - i ≤ kx ∧ Aside0 (Srch (ltOf cf) n s0 r0 d i j) ∧ Aside (SWK enc k w0 blk off d wr))
    case atStart => exact ⟨s0, r0, by first | rfl | (rw [ZA.out]), by rw [ZZ.out], Nat.le_refl _, q2, Nat.le_refl _, by omega, ⟨.inl rfl, .inl rfl⟩, S0⟩
    case round =>
      clear S0
      obtain ⟨i, j, rfl, rfl, hsi, hij, hjr, hkx, I, S1⟩ := hrel
      have QQ := Q.out
      obtain ⟨QZ, hmid, hn, hp⟩ := QQ
      have QZ2 : Aside _ := QZ
      clear QZ
      by_cases hlt : i < j
      · have hltz : decide ((i : Int) < (j : Int)) = true := decide_eq_true (by omega)
        obtain ⟨c, hcd⟩ : ∃ c, c = (i + j) / 2 := ⟨_, rfl⟩
        obtain ⟨pc, hpc⟩ : ∃ pc, pc = n - 1 - c := ⟨_, rfl⟩
        have e_c : ((i : Int) + (j : Int)) / 2 = (c : Int) := by omega
        have e_pc : (p : Int) - (c : Int) = (pc : Int) := by omega
        have w_pc : IntKind.i64.wrap (pc : Int) = (pc : Int) := by rw [IntKind.wrap_i64]; omega
        have b1 : (pc : Int) < (d.size : Int) := by omega
        have b2 : (c : Int) < (d.size : Int) := by omega
        have p1 : (0 : Int) ≤ (pc : Int) := by omega
        have p2 : (0 : Int) ≤ (c : Int) := by omega
        have hci : i ≤ c := by omega
        have hcj : c < j := by omega
        have hpcz : n - 1 - c = pc := by omega
        have hpcy : n - (c + 1) = pc := by omega
        obtain ⟨x, hx⟩ : ∃ x, x = d[pc]! := ⟨_, rfl⟩
        obtain ⟨y, hy⟩ : ∃ y, y = d[c]! := ⟨_, rfl⟩
        have la := S1.out.ld R (by omega) P pc (by omega)
        have lb := S1.out.ld R (by omega) P c (by omega)
        rw [← hx] at la
        rw [← hy] at lb
        have hc := S1.out.cmp HC.out (by omega) x y
        have HX := Aside0.mk (show x = d[pc]! ∧ y = d[c]! from ⟨hx, hy⟩)
        have HP := Aside0.mk (show n - 1 - c = pc ∧ n - (c + 1) = pc ∧ i ≤ c ∧ c < j from ⟨hpcz, hpcy, hci, hcj⟩)
        clear hx hy hcd hpc hmid hn hp hpcz hpcy
        by_cases hv : cf x y < 0
        · have hd : decide (cf x y < 0) = true := decide_eq_true hv
          have I2 := Aside0.mk (show Srch (ltOf cf) n s0 r0 d i c from ⟨I.out.1, .inr ⟨by omega, by rw [HP.out.1, ← HX.out.1, ← HX.out.2]; exact hd⟩⟩)
          go_wp2_with fail
          go_quiet_grown (first | (go_at_fn g; refine Calls.grown_of (hc _ _)))
          have S2 : Aside (SWK enc k w0 blk off d (grow (wr.drewN nq) osq)) := S1.out.grown nq osq
          clear la lb hc S1
          generalize grow (wr.drewN nq) osq = w2 at S2 ⊢
          clear nq osq
          go_wp2
          go_roundg (c - i)
          case measure => omega
          case rel => exact ⟨i, c, rfl, rfl, hsi, by omega, by omega, Nat.le_refl _, I2, S2⟩
        · have hd : decide (cf x y < 0) = false := decide_eq_false hv
          have I2 := Aside0.mk (show Srch (ltOf cf) n s0 r0 d (c + 1) j from ⟨.inr ⟨by omega, by rw [HP.out.2.1, Nat.add_sub_cancel, ← HX.out.1, ← HX.out.2]; exact hd⟩, I.out.2⟩)
          go_wp2_with fail
          go_quiet_grown (first | (go_at_fn g; refine Calls.grown_of (hc _ _)))
          have S2 : Aside (SWK enc k w0 blk off d (grow (wr.drewN nq) osq)) := S1.out.grown nq osq
          clear la lb hc S1
          generalize grow (wr.drewN nq) osq = w2 at S2 ⊢
          clear nq osq
          go_wp2
          go_roundg (j - (c + 1))
          case measure => omega
          case rel => exact ⟨c + 1, j, by first | rfl | go_num, rfl, by omega, by omega, hjr, Nat.le_refl _, I2, S2⟩
      · have hltz : decide ((i : Int) < (j : Int)) = false := decide_eq_false (by omega)
        obtain rfl : j = i := by omega
        obtain ⟨e, he⟩ : ∃ e, e = mid + m - j := ⟨_, rfl⟩
        have e_e : (n : Int) - (j : Int) = (e : Int) := by omega
        have w_e : IntKind.i64.wrap (e : Int) = (e : Int) := by rw [IntKind.wrap_i64]; omega
        have z1 : a ≤ j := by omega
        have z2 : j ≤ m := by omega
        have z3 : j ≤ mid := by omega
        have z4 : e ≤ b := by omega
        have z5 : m ≤ e := by omega
        have z6 : mid ≤ e := by omega
        have z7 : j ≤ e := by omega
        have hparts := Aside0.mk (fun (d1 : Array α) (hr : Rot j m e d d1) => parts_of (s := j) (mid := mid) hS ham hmb hmid he H1.out H2.out z1 z2 z3 z4
          (by
            rcases I.out.1 with h | ⟨h, h'⟩
            · rcases QZ2.out.1 with h3 | h3
              · exact .inl (by omega)
              · exact .inr (.inl (by omega))
            · exact .inr (.inr ⟨by omega, by omega, by omega, by rw [he, ← hn]; exact h'⟩))
          (by
            rcases I.out.2 with h | ⟨h, h'⟩
            · rcases QZ2.out.2 with h3 | h3
              · exact .inl (by omega)
              · exact .inr (.inl (by omega))
            · exact .inr (.inr ⟨by omega, by omega, by rw [show e - 1 = n - 1 - j by omega]; exact h'⟩)) hr)
        have hcl : e - j < b - a ∨ True := .inr trivial
        have hrotL := Aside0.mk (fun (h3 : j < m) (h4 : m < e) => rotate_any HL.out blk off cap j m e d0 d w0 wr (.func (.func g) #[] cb) R (by omega) S1.out h3 h4 (by omega) hsz)
        have hnL := Aside0.mk (fun (h : ¬ (j < m ∧ m < e)) => (show Rot j m e d d from (by
          by_cases h3 : j < m
          · have h4 : e = m := by omega
            rw [h4]; exact Rot.right j m d (by omega)
          · have h4 : j = m := by omega
            rw [h4]; exact Rot.left m e d)))
        clear he hmid hn hp I hcl
        by_cases hR : j < m ∧ m < e
        · have x1 : decide (j < m) = true := decide_eq_true (by omega)
          have x2 : decide (m < e) = true := decide_eq_true (by omega)
          have hrot := Aside0.mk (hrotL.out hR.1 hR.2)
          clear hrotL hnL
          by_cases hL : a < j ∧ j < mid
          · have x3 : decide (a < j) = true := decide_eq_true (by omega)
            have x4 : decide (j < mid) = true := decide_eq_true (by omega)
            by_cases hG : mid < e ∧ e < b
            · have x5 : decide (mid < e) = true := decide_eq_true (by omega)
              have x6 : decide (e < b) = true := decide_eq_true (by omega)
              go_wp2_with (go_at_call 39; refine Calls.mono hrot.out ?_; rintro e' w' ⟨rfl, d1, hr, hS1⟩; have HR : Aside _ := hr; have S2 : Aside (SWK enc k w0 blk off d1 w') := hS1; clear hr hS1)
              have PT := Aside0.mk (hparts.out d1 HR.out)
              have HZ1 := Aside0.mk (show d1.size = d.size from HR.out.1.1)
              have hleft := Aside0.mk (IH.out a j mid d1 _ (by omega) (by omega) (by omega) (by have := HZ1.out; omega) HZ1.out S2.out PT.out.p1 PT.out.p2)
              rw [HZ1.out] at hleft
              go_wp2_with (go_at_call 38; refine Calls.mono hleft.out ?_; rintro e' w2 ⟨rfl, d2, hA, hS2⟩; have HA := Aside0.mk hA; have S3 : Aside (SWK enc k w0 blk off d2 w2) := hS2; clear hA hS2)
              have HZ2 := Aside0.mk (show d2.size = d.size from HA.out.1.1.trans HZ1.out)
              have hright := Aside0.mk (IH.out mid e b d2 _ (by omega) (by omega) (by omega) (by have := HZ2.out; omega) HZ2.out S3.out (sorted_out HA.out.1 PT.out.p3 (.inr (Nat.le_refl _))) (sorted_out HA.out.1 PT.out.p4 (.inr (by omega))))
              rw [HZ2.out] at hright
              go_wp2_with (go_at_call 38; refine Calls.mono hright.out ?_; rintro e' w3 ⟨rfl, d3, hB, hS3⟩; have HB := Aside0.mk hB; have S4 : Aside (SWK enc k w0 blk off d3 w3) := hS3; clear hB hS3)
              go_end0
              exact ⟨rfl, d3, gen_done HR.out PT.out (by omega) (by omega) (by omega) (by omega) (by omega) hb HA.out HB.out, S4.out⟩
            · by_cases hy' : mid < e
              · have x5 : decide (mid < e) = true := decide_eq_true (by omega)
                have x6 : decide (e < b) = false := decide_eq_false (by omega)
                go_wp2_with (go_at_call 39; refine Calls.mono hrot.out ?_; rintro e' w' ⟨rfl, d1, hr, hS1⟩; have HR : Aside _ := hr; have S2 : Aside (SWK enc k w0 blk off d1 w') := hS1; clear hr hS1)
                have PT := Aside0.mk (hparts.out d1 HR.out)
                have HZ1 := Aside0.mk (show d1.size = d.size from HR.out.1.1)
                have hleft := Aside0.mk (IH.out a j mid d1 _ (by omega) (by omega) (by omega) (by have := HZ1.out; omega) HZ1.out S2.out PT.out.p1 PT.out.p2)
                rw [HZ1.out] at hleft
                go_wp2_with (go_at_call 38; refine Calls.mono hleft.out ?_; rintro e' w2 ⟨rfl, d2, hA, hS2⟩; have HA := Aside0.mk hA; have S3 : Aside (SWK enc k w0 blk off d2 w2) := hS2; clear hA hS2)
                have HZ2 := Aside0.mk (show d2.size = d.size from HA.out.1.1.trans HZ1.out)
                have HB := Aside0.mk (show PermIn mid b d2 d2 ∧ SortedIn (ltOf cf) mid b d2 from ⟨permIn_refl _ _ _, right_skip_out HA.out.1 PT.out (by omega) (by omega) hG⟩)
                have S4 := S3
                go_wp2
                go_end0
                exact ⟨rfl, d2, gen_done HR.out PT.out (by omega) (by omega) (by omega) (by omega) (by omega) hb HA.out HB.out, S4.out⟩
              · have x5 : decide (mid < e) = false := decide_eq_false (by omega)
                go_wp2_with (go_at_call 39; refine Calls.mono hrot.out ?_; rintro e' w' ⟨rfl, d1, hr, hS1⟩; have HR : Aside _ := hr; have S2 : Aside (SWK enc k w0 blk off d1 w') := hS1; clear hr hS1)
                have PT := Aside0.mk (hparts.out d1 HR.out)
                have HZ1 := Aside0.mk (show d1.size = d.size from HR.out.1.1)
                have hleft := Aside0.mk (IH.out a j mid d1 _ (by omega) (by omega) (by omega) (by have := HZ1.out; omega) HZ1.out S2.out PT.out.p1 PT.out.p2)
                rw [HZ1.out] at hleft
                go_wp2_with (go_at_call 38; refine Calls.mono hleft.out ?_; rintro e' w2 ⟨rfl, d2, hA, hS2⟩; have HA := Aside0.mk hA; have S3 : Aside (SWK enc k w0 blk off d2 w2) := hS2; clear hA hS2)
                have HZ2 := Aside0.mk (show d2.size = d.size from HA.out.1.1.trans HZ1.out)
                have HB := Aside0.mk (show PermIn mid b d2 d2 ∧ SortedIn (ltOf cf) mid b d2 from ⟨permIn_refl _ _ _, right_skip_out HA.out.1 PT.out (by omega) (by omega) hG⟩)
                have S4 := S3
                go_wp2
                go_end0
                exact ⟨rfl, d2, gen_done HR.out PT.out (by omega) (by omega) (by omega) (by omega) (by omega) hb HA.out HB.out, S4.out⟩
          · by_cases hy : a < j
            · have x3 : decide (a < j) = true := decide_eq_true (by omega)
              have x4 : decide (j < mid) = false := decide_eq_false (by omega)
              by_cases hG : mid < e ∧ e < b
              · have x5 : decide (mid < e) = true := decide_eq_true (by omega)
                have x6 : decide (e < b) = true := decide_eq_true (by omega)
                go_wp2_with (go_at_call 39; refine Calls.mono hrot.out ?_; rintro e' w' ⟨rfl, d1, hr, hS1⟩; have HR : Aside _ := hr; have S2 : Aside (SWK enc k w0 blk off d1 w') := hS1; clear hr hS1)
                have PT := Aside0.mk (hparts.out d1 HR.out)
                have HZ1 := Aside0.mk (show d1.size = d.size from HR.out.1.1)
                have HA := Aside0.mk (show PermIn a mid d1 d1 ∧ SortedIn (ltOf cf) a mid d1 from ⟨permIn_refl _ _ _, left_skip PT.out (by omega) (by omega) hL⟩)
                have S3 := S2
                have HZ2 := Aside0.mk (show d1.size = d.size from HA.out.1.1.trans HZ1.out)
                have hright := Aside0.mk (IH.out mid e b d1 _ (by omega) (by omega) (by omega) (by have := HZ2.out; omega) HZ2.out S3.out (sorted_out HA.out.1 PT.out.p3 (.inr (Nat.le_refl _))) (sorted_out HA.out.1 PT.out.p4 (.inr (by omega))))
                rw [HZ2.out] at hright
                go_wp2_with (go_at_call 38; refine Calls.mono hright.out ?_; rintro e' w3 ⟨rfl, d3, hB, hS3⟩; have HB := Aside0.mk hB; have S4 : Aside (SWK enc k w0 blk off d3 w3) := hS3; clear hB hS3)
                go_end0
                exact ⟨rfl, d3, gen_done HR.out PT.out (by omega) (by omega) (by omega) (by omega) (by omega) hb HA.out HB.out, S4.out⟩
              · by_cases hy' : mid < e
                · have x5 : decide (mid < e) = true := decide_eq_true (by omega)
                  have x6 : decide (e < b) = false := decide_eq_false (by omega)
                  go_wp2_with (go_at_call 39; refine Calls.mono hrot.out ?_; rintro e' w' ⟨rfl, d1, hr, hS1⟩; have HR : Aside _ := hr; have S2 : Aside (SWK enc k w0 blk off d1 w') := hS1; clear hr hS1)
                  have PT := Aside0.mk (hparts.out d1 HR.out)
                  have HZ1 := Aside0.mk (show d1.size = d.size from HR.out.1.1)
                  have HA := Aside0.mk (show PermIn a mid d1 d1 ∧ SortedIn (ltOf cf) a mid d1 from ⟨permIn_refl _ _ _, left_skip PT.out (by omega) (by omega) hL⟩)
                  have S3 := S2
                  have HZ2 := Aside0.mk (show d1.size = d.size from HA.out.1.1.trans HZ1.out)
                  have HB := Aside0.mk (show PermIn mid b d1 d1 ∧ SortedIn (ltOf cf) mid b d1 from ⟨permIn_refl _ _ _, right_skip_out HA.out.1 PT.out (by omega) (by omega) hG⟩)
                  have S4 := S3
                  go_wp2
                  go_end0
                  exact ⟨rfl, d1, gen_done HR.out PT.out (by omega) (by omega) (by omega) (by omega) (by omega) hb HA.out HB.out, S4.out⟩
                · have x5 : decide (mid < e) = false := decide_eq_false (by omega)
                  go_wp2_with (go_at_call 39; refine Calls.mono hrot.out ?_; rintro e' w' ⟨rfl, d1, hr, hS1⟩; have HR : Aside _ := hr; have S2 : Aside (SWK enc k w0 blk off d1 w') := hS1; clear hr hS1)
                  have PT := Aside0.mk (hparts.out d1 HR.out)
                  have HZ1 := Aside0.mk (show d1.size = d.size from HR.out.1.1)
                  have HA := Aside0.mk (show PermIn a mid d1 d1 ∧ SortedIn (ltOf cf) a mid d1 from ⟨permIn_refl _ _ _, left_skip PT.out (by omega) (by omega) hL⟩)
                  have S3 := S2
                  have HZ2 := Aside0.mk (show d1.size = d.size from HA.out.1.1.trans HZ1.out)
                  have HB := Aside0.mk (show PermIn mid b d1 d1 ∧ SortedIn (ltOf cf) mid b d1 from ⟨permIn_refl _ _ _, right_skip_out HA.out.1 PT.out (by omega) (by omega) hG⟩)
                  have S4 := S3
                  go_wp2
                  go_end0
                  exact ⟨rfl, d1, gen_done HR.out PT.out (by omega) (by omega) (by omega) (by omega) (by omega) hb HA.out HB.out, S4.out⟩
            · have x3 : decide (a < j) = false := decide_eq_false (by omega)
              by_cases hG : mid < e ∧ e < b
              · have x5 : decide (mid < e) = true := decide_eq_true (by omega)
                have x6 : decide (e < b) = true := decide_eq_true (by omega)
                go_wp2_with (go_at_call 39; refine Calls.mono hrot.out ?_; rintro e' w' ⟨rfl, d1, hr, hS1⟩; have HR : Aside _ := hr; have S2 : Aside (SWK enc k w0 blk off d1 w') := hS1; clear hr hS1)
                have PT := Aside0.mk (hparts.out d1 HR.out)
                have HZ1 := Aside0.mk (show d1.size = d.size from HR.out.1.1)
                have HA := Aside0.mk (show PermIn a mid d1 d1 ∧ SortedIn (ltOf cf) a mid d1 from ⟨permIn_refl _ _ _, left_skip PT.out (by omega) (by omega) hL⟩)
                have S3 := S2
                have HZ2 := Aside0.mk (show d1.size = d.size from HA.out.1.1.trans HZ1.out)
                have hright := Aside0.mk (IH.out mid e b d1 _ (by omega) (by omega) (by omega) (by have := HZ2.out; omega) HZ2.out S3.out (sorted_out HA.out.1 PT.out.p3 (.inr (Nat.le_refl _))) (sorted_out HA.out.1 PT.out.p4 (.inr (by omega))))
                rw [HZ2.out] at hright
                go_wp2_with (go_at_call 38; refine Calls.mono hright.out ?_; rintro e' w3 ⟨rfl, d3, hB, hS3⟩; have HB := Aside0.mk hB; have S4 : Aside (SWK enc k w0 blk off d3 w3) := hS3; clear hB hS3)
                go_end0
                exact ⟨rfl, d3, gen_done HR.out PT.out (by omega) (by omega) (by omega) (by omega) (by omega) hb HA.out HB.out, S4.out⟩
              · by_cases hy' : mid < e
                · have x5 : decide (mid < e) = true := decide_eq_true (by omega)
                  have x6 : decide (e < b) = false := decide_eq_false (by omega)
                  go_wp2_with (go_at_call 39; refine Calls.mono hrot.out ?_; rintro e' w' ⟨rfl, d1, hr, hS1⟩; have HR : Aside _ := hr; have S2 : Aside (SWK enc k w0 blk off d1 w') := hS1; clear hr hS1)
                  have PT := Aside0.mk (hparts.out d1 HR.out)
                  have HZ1 := Aside0.mk (show d1.size = d.size from HR.out.1.1)
                  have HA := Aside0.mk (show PermIn a mid d1 d1 ∧ SortedIn (ltOf cf) a mid d1 from ⟨permIn_refl _ _ _, left_skip PT.out (by omega) (by omega) hL⟩)
                  have S3 := S2
                  have HZ2 := Aside0.mk (show d1.size = d.size from HA.out.1.1.trans HZ1.out)
                  have HB := Aside0.mk (show PermIn mid b d1 d1 ∧ SortedIn (ltOf cf) mid b d1 from ⟨permIn_refl _ _ _, right_skip_out HA.out.1 PT.out (by omega) (by omega) hG⟩)
                  have S4 := S3
                  go_wp2
                  go_end0
                  exact ⟨rfl, d1, gen_done HR.out PT.out (by omega) (by omega) (by omega) (by omega) (by omega) hb HA.out HB.out, S4.out⟩
                · have x5 : decide (mid < e) = false := decide_eq_false (by omega)
                  go_wp2_with (go_at_call 39; refine Calls.mono hrot.out ?_; rintro e' w' ⟨rfl, d1, hr, hS1⟩; have HR : Aside _ := hr; have S2 : Aside (SWK enc k w0 blk off d1 w') := hS1; clear hr hS1)
                  have PT := Aside0.mk (hparts.out d1 HR.out)
                  have HZ1 := Aside0.mk (show d1.size = d.size from HR.out.1.1)
                  have HA := Aside0.mk (show PermIn a mid d1 d1 ∧ SortedIn (ltOf cf) a mid d1 from ⟨permIn_refl _ _ _, left_skip PT.out (by omega) (by omega) hL⟩)
                  have S3 := S2
                  have HZ2 := Aside0.mk (show d1.size = d.size from HA.out.1.1.trans HZ1.out)
                  have HB := Aside0.mk (show PermIn mid b d1 d1 ∧ SortedIn (ltOf cf) mid b d1 from ⟨permIn_refl _ _ _, right_skip_out HA.out.1 PT.out (by omega) (by omega) hG⟩)
                  have S4 := S3
                  go_wp2
                  go_end0
                  exact ⟨rfl, d1, gen_done HR.out PT.out (by omega) (by omega) (by omega) (by omega) (by omega) hb HA.out HB.out, S4.out⟩
        · have hnorot := hnL.out hR
          clear hrotL hnL
          have HNR := Aside0.mk hnorot
          clear hnorot
          by_cases hx : j < m
          · have x1 : decide (j < m) = true := decide_eq_true (by omega)
            have x2 : decide (m < e) = false := decide_eq_false (by omega)
            by_cases hL : a < j ∧ j < mid
            · have x3 : decide (a < j) = true := decide_eq_true (by omega)
              have x4 : decide (j < mid) = true := decide_eq_true (by omega)
              by_cases hG : mid < e ∧ e < b
              · have x5 : decide (mid < e) = true := decide_eq_true (by omega)
                have x6 : decide (e < b) = true := decide_eq_true (by omega)
                have HR : Aside (Rot j m e d d) := HNR.out
                have S2 : Aside (SWK enc k w0 blk off d wr) := S1
                have PT := Aside0.mk (hparts.out d HR.out)
                have hleft := Aside0.mk (IH.out a j mid d _ (by omega) (by omega) (by omega) (by omega) rfl S2.out PT.out.p1 PT.out.p2)
                go_wp2_with (go_at_call 38; refine Calls.mono hleft.out ?_; rintro e' w2 ⟨rfl, d2, hA, hS2⟩; have HA := Aside0.mk hA; have S3 : Aside (SWK enc k w0 blk off d2 w2) := hS2; clear hA hS2)
                have HZ2 := Aside0.mk (show d2.size = d.size from HA.out.1.1)
                have hright := Aside0.mk (IH.out mid e b d2 _ (by omega) (by omega) (by omega) (by have := HZ2.out; omega) HZ2.out S3.out (sorted_out HA.out.1 PT.out.p3 (.inr (Nat.le_refl _))) (sorted_out HA.out.1 PT.out.p4 (.inr (by omega))))
                rw [HZ2.out] at hright
                go_wp2_with (go_at_call 38; refine Calls.mono hright.out ?_; rintro e' w3 ⟨rfl, d3, hB, hS3⟩; have HB := Aside0.mk hB; have S4 : Aside (SWK enc k w0 blk off d3 w3) := hS3; clear hB hS3)
                go_end0
                exact ⟨rfl, d3, gen_done HR.out PT.out (by omega) (by omega) (by omega) (by omega) (by omega) hb HA.out HB.out, S4.out⟩
              · by_cases hy' : mid < e
                · have x5 : decide (mid < e) = true := decide_eq_true (by omega)
                  have x6 : decide (e < b) = false := decide_eq_false (by omega)
                  have HR : Aside (Rot j m e d d) := HNR.out
                  have S2 : Aside (SWK enc k w0 blk off d wr) := S1
                  have PT := Aside0.mk (hparts.out d HR.out)
                  have hleft := Aside0.mk (IH.out a j mid d _ (by omega) (by omega) (by omega) (by omega) rfl S2.out PT.out.p1 PT.out.p2)
                  go_wp2_with (go_at_call 38; refine Calls.mono hleft.out ?_; rintro e' w2 ⟨rfl, d2, hA, hS2⟩; have HA := Aside0.mk hA; have S3 : Aside (SWK enc k w0 blk off d2 w2) := hS2; clear hA hS2)
                  have HZ2 := Aside0.mk (show d2.size = d.size from HA.out.1.1)
                  have HB := Aside0.mk (show PermIn mid b d2 d2 ∧ SortedIn (ltOf cf) mid b d2 from ⟨permIn_refl _ _ _, right_skip_out HA.out.1 PT.out (by omega) (by omega) hG⟩)
                  have S4 := S3
                  go_wp2
                  go_end0
                  exact ⟨rfl, d2, gen_done HR.out PT.out (by omega) (by omega) (by omega) (by omega) (by omega) hb HA.out HB.out, S4.out⟩
                · have x5 : decide (mid < e) = false := decide_eq_false (by omega)
                  have HR : Aside (Rot j m e d d) := HNR.out
                  have S2 : Aside (SWK enc k w0 blk off d wr) := S1
                  have PT := Aside0.mk (hparts.out d HR.out)
                  have hleft := Aside0.mk (IH.out a j mid d _ (by omega) (by omega) (by omega) (by omega) rfl S2.out PT.out.p1 PT.out.p2)
                  go_wp2_with (go_at_call 38; refine Calls.mono hleft.out ?_; rintro e' w2 ⟨rfl, d2, hA, hS2⟩; have HA := Aside0.mk hA; have S3 : Aside (SWK enc k w0 blk off d2 w2) := hS2; clear hA hS2)
                  have HZ2 := Aside0.mk (show d2.size = d.size from HA.out.1.1)
                  have HB := Aside0.mk (show PermIn mid b d2 d2 ∧ SortedIn (ltOf cf) mid b d2 from ⟨permIn_refl _ _ _, right_skip_out HA.out.1 PT.out (by omega) (by omega) hG⟩)
                  have S4 := S3
                  go_wp2
                  go_end0
                  exact ⟨rfl, d2, gen_done HR.out PT.out (by omega) (by omega) (by omega) (by omega) (by omega) hb HA.out HB.out, S4.out⟩
            · by_cases hy : a < j
              · have x3 : decide (a < j) = true := decide_eq_true (by omega)
                have x4 : decide (j < mid) = false := decide_eq_false (by omega)
                by_cases hG : mid < e ∧ e < b
                · have x5 : decide (mid < e) = true := decide_eq_true (by omega)
                  have x6 : decide (e < b) = true := decide_eq_true (by omega)
                  have HR : Aside (Rot j m e d d) := HNR.out
                  have S2 : Aside (SWK enc k w0 blk off d wr) := S1
                  have PT := Aside0.mk (hparts.out d HR.out)
                  have HA := Aside0.mk (show PermIn a mid d d ∧ SortedIn (ltOf cf) a mid d from ⟨permIn_refl _ _ _, left_skip PT.out (by omega) (by omega) hL⟩)
                  have S3 := S2
                  have hright := Aside0.mk (IH.out mid e b d _ (by omega) (by omega) (by omega) (by omega) rfl S3.out (sorted_out HA.out.1 PT.out.p3 (.inr (Nat.le_refl _))) (sorted_out HA.out.1 PT.out.p4 (.inr (by omega))))
                  go_wp2_with (go_at_call 38; refine Calls.mono hright.out ?_; rintro e' w3 ⟨rfl, d3, hB, hS3⟩; have HB := Aside0.mk hB; have S4 : Aside (SWK enc k w0 blk off d3 w3) := hS3; clear hB hS3)
                  go_end0
                  exact ⟨rfl, d3, gen_done HR.out PT.out (by omega) (by omega) (by omega) (by omega) (by omega) hb HA.out HB.out, S4.out⟩
                · by_cases hy' : mid < e
                  · have x5 : decide (mid < e) = true := decide_eq_true (by omega)
                    have x6 : decide (e < b) = false := decide_eq_false (by omega)
                    have HR : Aside (Rot j m e d d) := HNR.out
                    have S2 : Aside (SWK enc k w0 blk off d wr) := S1
                    have PT := Aside0.mk (hparts.out d HR.out)
                    have HA := Aside0.mk (show PermIn a mid d d ∧ SortedIn (ltOf cf) a mid d from ⟨permIn_refl _ _ _, left_skip PT.out (by omega) (by omega) hL⟩)
                    have S3 := S2
                    have HB := Aside0.mk (show PermIn mid b d d ∧ SortedIn (ltOf cf) mid b d from ⟨permIn_refl _ _ _, right_skip_out HA.out.1 PT.out (by omega) (by omega) hG⟩)
                    have S4 := S3
                    go_wp2
                    go_end0
                    exact ⟨rfl, d, gen_done HR.out PT.out (by omega) (by omega) (by omega) (by omega) (by omega) hb HA.out HB.out, S4.out⟩
                  · have x5 : decide (mid < e) = false := decide_eq_false (by omega)
                    have HR : Aside (Rot j m e d d) := HNR.out
                    have S2 : Aside (SWK enc k w0 blk off d wr) := S1
                    have PT := Aside0.mk (hparts.out d HR.out)
                    have HA := Aside0.mk (show PermIn a mid d d ∧ SortedIn (ltOf cf) a mid d from ⟨permIn_refl _ _ _, left_skip PT.out (by omega) (by omega) hL⟩)
                    have S3 := S2
                    have HB := Aside0.mk (show PermIn mid b d d ∧ SortedIn (ltOf cf) mid b d from ⟨permIn_refl _ _ _, right_skip_out HA.out.1 PT.out (by omega) (by omega) hG⟩)
                    have S4 := S3
                    go_wp2
                    go_end0
                    exact ⟨rfl, d, gen_done HR.out PT.out (by omega) (by omega) (by omega) (by omega) (by omega) hb HA.out HB.out, S4.out⟩
              · have x3 : decide (a < j) = false := decide_eq_false (by omega)
                by_cases hG : mid < e ∧ e < b
                · have x5 : decide (mid < e) = true := decide_eq_true (by omega)
                  have x6 : decide (e < b) = true := decide_eq_true (by omega)
                  have HR : Aside (Rot j m e d d) := HNR.out
                  have S2 : Aside (SWK enc k w0 blk off d wr) := S1
                  have PT := Aside0.mk (hparts.out d HR.out)
                  have HA := Aside0.mk (show PermIn a mid d d ∧ SortedIn (ltOf cf) a mid d from ⟨permIn_refl _ _ _, left_skip PT.out (by omega) (by omega) hL⟩)
                  have S3 := S2
                  have hright := Aside0.mk (IH.out mid e b d _ (by omega) (by omega) (by omega) (by omega) rfl S3.out (sorted_out HA.out.1 PT.out.p3 (.inr (Nat.le_refl _))) (sorted_out HA.out.1 PT.out.p4 (.inr (by omega))))
                  go_wp2_with (go_at_call 38; refine Calls.mono hright.out ?_; rintro e' w3 ⟨rfl, d3, hB, hS3⟩; have HB := Aside0.mk hB; have S4 : Aside (SWK enc k w0 blk off d3 w3) := hS3; clear hB hS3)
                  go_end0
                  exact ⟨rfl, d3, gen_done HR.out PT.out (by omega) (by omega) (by omega) (by omega) (by omega) hb HA.out HB.out, S4.out⟩
                · by_cases hy' : mid < e
                  · have x5 : decide (mid < e) = true := decide_eq_true (by omega)
                    have x6 : decide (e < b) = false := decide_eq_false (by omega)
                    have HR : Aside (Rot j m e d d) := HNR.out
                    have S2 : Aside (SWK enc k w0 blk off d wr) := S1
                    have PT := Aside0.mk (hparts.out d HR.out)
                    have HA := Aside0.mk (show PermIn a mid d d ∧ SortedIn (ltOf cf) a mid d from ⟨permIn_refl _ _ _, left_skip PT.out (by omega) (by omega) hL⟩)
                    have S3 := S2
                    have HB := Aside0.mk (show PermIn mid b d d ∧ SortedIn (ltOf cf) mid b d from ⟨permIn_refl _ _ _, right_skip_out HA.out.1 PT.out (by omega) (by omega) hG⟩)
                    have S4 := S3
                    go_wp2
                    go_end0
                    exact ⟨rfl, d, gen_done HR.out PT.out (by omega) (by omega) (by omega) (by omega) (by omega) hb HA.out HB.out, S4.out⟩
                  · have x5 : decide (mid < e) = false := decide_eq_false (by omega)
                    have HR : Aside (Rot j m e d d) := HNR.out
                    have S2 : Aside (SWK enc k w0 blk off d wr) := S1
                    have PT := Aside0.mk (hparts.out d HR.out)
                    have HA := Aside0.mk (show PermIn a mid d d ∧ SortedIn (ltOf cf) a mid d from ⟨permIn_refl _ _ _, left_skip PT.out (by omega) (by omega) hL⟩)
                    have S3 := S2
                    have HB := Aside0.mk (show PermIn mid b d d ∧ SortedIn (ltOf cf) mid b d from ⟨permIn_refl _ _ _, right_skip_out HA.out.1 PT.out (by omega) (by omega) hG⟩)
                    have S4 := S3
                    go_wp2
                    go_end0
                    exact ⟨rfl, d, gen_done HR.out PT.out (by omega) (by omega) (by omega) (by omega) (by omega) hb HA.out HB.out, S4.out⟩
          · have x1 : decide (j < m) = false := decide_eq_false (by omega)
            by_cases hL : a < j ∧ j < mid
            · have x3 : decide (a < j) = true := decide_eq_true (by omega)
              have x4 : decide (j < mid) = true := decide_eq_true (by omega)
              by_cases hG : mid < e ∧ e < b
              · have x5 : decide (mid < e) = true := decide_eq_true (by omega)
                have x6 : decide (e < b) = true := decide_eq_true (by omega)
                have HR : Aside (Rot j m e d d) := HNR.out
                have S2 : Aside (SWK enc k w0 blk off d wr) := S1
                have PT := Aside0.mk (hparts.out d HR.out)
                have hleft := Aside0.mk (IH.out a j mid d _ (by omega) (by omega) (by omega) (by omega) rfl S2.out PT.out.p1 PT.out.p2)
                go_wp2_with (go_at_call 38; refine Calls.mono hleft.out ?_; rintro e' w2 ⟨rfl, d2, hA, hS2⟩; have HA := Aside0.mk hA; have S3 : Aside (SWK enc k w0 blk off d2 w2) := hS2; clear hA hS2)
                have HZ2 := Aside0.mk (show d2.size = d.size from HA.out.1.1)
                have hright := Aside0.mk (IH.out mid e b d2 _ (by omega) (by omega) (by omega) (by have := HZ2.out; omega) HZ2.out S3.out (sorted_out HA.out.1 PT.out.p3 (.inr (Nat.le_refl _))) (sorted_out HA.out.1 PT.out.p4 (.inr (by omega))))
                rw [HZ2.out] at hright
                go_wp2_with (go_at_call 38; refine Calls.mono hright.out ?_; rintro e' w3 ⟨rfl, d3, hB, hS3⟩; have HB := Aside0.mk hB; have S4 : Aside (SWK enc k w0 blk off d3 w3) := hS3; clear hB hS3)
                go_end0
                exact ⟨rfl, d3, gen_done HR.out PT.out (by omega) (by omega) (by omega) (by omega) (by omega) hb HA.out HB.out, S4.out⟩
              · by_cases hy' : mid < e
                · have x5 : decide (mid < e) = true := decide_eq_true (by omega)
                  have x6 : decide (e < b) = false := decide_eq_false (by omega)
                  have HR : Aside (Rot j m e d d) := HNR.out
                  have S2 : Aside (SWK enc k w0 blk off d wr) := S1
                  have PT := Aside0.mk (hparts.out d HR.out)
                  have hleft := Aside0.mk (IH.out a j mid d _ (by omega) (by omega) (by omega) (by omega) rfl S2.out PT.out.p1 PT.out.p2)
                  go_wp2_with (go_at_call 38; refine Calls.mono hleft.out ?_; rintro e' w2 ⟨rfl, d2, hA, hS2⟩; have HA := Aside0.mk hA; have S3 : Aside (SWK enc k w0 blk off d2 w2) := hS2; clear hA hS2)
                  have HZ2 := Aside0.mk (show d2.size = d.size from HA.out.1.1)
                  have HB := Aside0.mk (show PermIn mid b d2 d2 ∧ SortedIn (ltOf cf) mid b d2 from ⟨permIn_refl _ _ _, right_skip_out HA.out.1 PT.out (by omega) (by omega) hG⟩)
                  have S4 := S3
                  go_wp2
                  go_end0
                  exact ⟨rfl, d2, gen_done HR.out PT.out (by omega) (by omega) (by omega) (by omega) (by omega) hb HA.out HB.out, S4.out⟩
                · have x5 : decide (mid < e) = false := decide_eq_false (by omega)
                  have HR : Aside (Rot j m e d d) := HNR.out
                  have S2 : Aside (SWK enc k w0 blk off d wr) := S1
                  have PT := Aside0.mk (hparts.out d HR.out)
                  have hleft := Aside0.mk (IH.out a j mid d _ (by omega) (by omega) (by omega) (by omega) rfl S2.out PT.out.p1 PT.out.p2)
                  go_wp2_with (go_at_call 38; refine Calls.mono hleft.out ?_; rintro e' w2 ⟨rfl, d2, hA, hS2⟩; have HA := Aside0.mk hA; have S3 : Aside (SWK enc k w0 blk off d2 w2) := hS2; clear hA hS2)
                  have HZ2 := Aside0.mk (show d2.size = d.size from HA.out.1.1)
                  have HB := Aside0.mk (show PermIn mid b d2 d2 ∧ SortedIn (ltOf cf) mid b d2 from ⟨permIn_refl _ _ _, right_skip_out HA.out.1 PT.out (by omega) (by omega) hG⟩)
                  have S4 := S3
                  go_wp2
                  go_end0
                  exact ⟨rfl, d2, gen_done HR.out PT.out (by omega) (by omega) (by omega) (by omega) (by omega) hb HA.out HB.out, S4.out⟩
            · by_cases hy : a < j
              · have x3 : decide (a < j) = true := decide_eq_true (by omega)
                have x4 : decide (j < mid) = false := decide_eq_false (by omega)
                by_cases hG : mid < e ∧ e < b
                · have x5 : decide (mid < e) = true := decide_eq_true (by omega)
                  have x6 : decide (e < b) = true := decide_eq_true (by omega)
                  have HR : Aside (Rot j m e d d) := HNR.out
                  have S2 : Aside (SWK enc k w0 blk off d wr) := S1
                  have PT := Aside0.mk (hparts.out d HR.out)
                  have HA := Aside0.mk (show PermIn a mid d d ∧ SortedIn (ltOf cf) a mid d from ⟨permIn_refl _ _ _, left_skip PT.out (by omega) (by omega) hL⟩)
                  have S3 := S2
                  have hright := Aside0.mk (IH.out mid e b d _ (by omega) (by omega) (by omega) (by omega) rfl S3.out (sorted_out HA.out.1 PT.out.p3 (.inr (Nat.le_refl _))) (sorted_out HA.out.1 PT.out.p4 (.inr (by omega))))
                  go_wp2_with (go_at_call 38; refine Calls.mono hright.out ?_; rintro e' w3 ⟨rfl, d3, hB, hS3⟩; have HB := Aside0.mk hB; have S4 : Aside (SWK enc k w0 blk off d3 w3) := hS3; clear hB hS3)
                  go_end0
                  exact ⟨rfl, d3, gen_done HR.out PT.out (by omega) (by omega) (by omega) (by omega) (by omega) hb HA.out HB.out, S4.out⟩
                · by_cases hy' : mid < e
                  · have x5 : decide (mid < e) = true := decide_eq_true (by omega)
                    have x6 : decide (e < b) = false := decide_eq_false (by omega)
                    have HR : Aside (Rot j m e d d) := HNR.out
                    have S2 : Aside (SWK enc k w0 blk off d wr) := S1
                    have PT := Aside0.mk (hparts.out d HR.out)
                    have HA := Aside0.mk (show PermIn a mid d d ∧ SortedIn (ltOf cf) a mid d from ⟨permIn_refl _ _ _, left_skip PT.out (by omega) (by omega) hL⟩)
                    have S3 := S2
                    have HB := Aside0.mk (show PermIn mid b d d ∧ SortedIn (ltOf cf) mid b d from ⟨permIn_refl _ _ _, right_skip_out HA.out.1 PT.out (by omega) (by omega) hG⟩)
                    have S4 := S3
                    go_wp2
                    go_end0
                    exact ⟨rfl, d, gen_done HR.out PT.out (by omega) (by omega) (by omega) (by omega) (by omega) hb HA.out HB.out, S4.out⟩
                  · have x5 : decide (mid < e) = false := decide_eq_false (by omega)
                    have HR : Aside (Rot j m e d d) := HNR.out
                    have S2 : Aside (SWK enc k w0 blk off d wr) := S1
                    have PT := Aside0.mk (hparts.out d HR.out)
                    have HA := Aside0.mk (show PermIn a mid d d ∧ SortedIn (ltOf cf) a mid d from ⟨permIn_refl _ _ _, left_skip PT.out (by omega) (by omega) hL⟩)
                    have S3 := S2
                    have HB := Aside0.mk (show PermIn mid b d d ∧ SortedIn (ltOf cf) mid b d from ⟨permIn_refl _ _ _, right_skip_out HA.out.1 PT.out (by omega) (by omega) hG⟩)
                    have S4 := S3
                    go_wp2
                    go_end0
                    exact ⟨rfl, d, gen_done HR.out PT.out (by omega) (by omega) (by omega) (by omega) (by omega) hb HA.out HB.out, S4.out⟩
              · have x3 : decide (a < j) = false := decide_eq_false (by omega)
                by_cases hG : mid < e ∧ e < b
                · have x5 : decide (mid < e) = true := decide_eq_true (by omega)
                  have x6 : decide (e < b) = true := decide_eq_true (by omega)
                  have HR : Aside (Rot j m e d d) := HNR.out
                  have S2 : Aside (SWK enc k w0 blk off d wr) := S1
                  have PT := Aside0.mk (hparts.out d HR.out)
                  have HA := Aside0.mk (show PermIn a mid d d ∧ SortedIn (ltOf cf) a mid d from ⟨permIn_refl _ _ _, left_skip PT.out (by omega) (by omega) hL⟩)
                  have S3 := S2
                  have hright := Aside0.mk (IH.out mid e b d _ (by omega) (by omega) (by omega) (by omega) rfl S3.out (sorted_out HA.out.1 PT.out.p3 (.inr (Nat.le_refl _))) (sorted_out HA.out.1 PT.out.p4 (.inr (by omega))))
                  go_wp2_with (go_at_call 38; refine Calls.mono hright.out ?_; rintro e' w3 ⟨rfl, d3, hB, hS3⟩; have HB := Aside0.mk hB; have S4 : Aside (SWK enc k w0 blk off d3 w3) := hS3; clear hB hS3)
                  go_end0
                  exact ⟨rfl, d3, gen_done HR.out PT.out (by omega) (by omega) (by omega) (by omega) (by omega) hb HA.out HB.out, S4.out⟩
                · by_cases hy' : mid < e
                  · have x5 : decide (mid < e) = true := decide_eq_true (by omega)
                    have x6 : decide (e < b) = false := decide_eq_false (by omega)
                    have HR : Aside (Rot j m e d d) := HNR.out
                    have S2 : Aside (SWK enc k w0 blk off d wr) := S1
                    have PT := Aside0.mk (hparts.out d HR.out)
                    have HA := Aside0.mk (show PermIn a mid d d ∧ SortedIn (ltOf cf) a mid d from ⟨permIn_refl _ _ _, left_skip PT.out (by omega) (by omega) hL⟩)
                    have S3 := S2
                    have HB := Aside0.mk (show PermIn mid b d d ∧ SortedIn (ltOf cf) mid b d from ⟨permIn_refl _ _ _, right_skip_out HA.out.1 PT.out (by omega) (by omega) hG⟩)
                    have S4 := S3
                    go_wp2
                    go_end0
                    exact ⟨rfl, d, gen_done HR.out PT.out (by omega) (by omega) (by omega) (by omega) (by omega) hb HA.out HB.out, S4.out⟩
                  · have x5 : decide (mid < e) = false := decide_eq_false (by omega)
                    have HR : Aside (Rot j m e d d) := HNR.out
                    have S2 : Aside (SWK enc k w0 blk off d wr) := S1
                    have PT := Aside0.mk (hparts.out d HR.out)
                    have HA := Aside0.mk (show PermIn a mid d d ∧ SortedIn (ltOf cf) a mid d from ⟨permIn_refl _ _ _, left_skip PT.out (by omega) (by omega) hL⟩)
                    have S3 := S2
                    have HB := Aside0.mk (show PermIn mid b d d ∧ SortedIn (ltOf cf) mid b d from ⟨permIn_refl _ _ _, right_skip_out HA.out.1 PT.out (by omega) (by omega) hG⟩)
                    have S4 := S3
                    go_wp2
                    go_end0
                    exact ⟨rfl, d, gen_done HR.out PT.out (by omega) (by omega) (by omega) (by omega) (by omega) hb HA.out HB.out, S4.out⟩
end Go.Proofs.Ytidojompkihboaa.X
