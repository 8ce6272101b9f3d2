/- slices.symMergeCmpFunc where one of the two parts is of one element. -/
import Derived.Test.YtidojompkihboaaSwap
namespace Go.Proofs.Ytidojompkihboaa.X
open Go.RowKit Go.Shelf Go.Lib Go.Sort
variable {P : Program} {k : Nat} {α : Type} [Inhabited α] {enc : α → List Value}
/-- What merging comes to: the two sorted parts, as one. -/
def Merged (cf : α → α → Int) (a b : Nat) (d : Array α) (enc : α → List Value) (k : Nat) (w0 : World) (blk off : Nat) (e : Ending) (w' : World) : Prop :=
  e = .returned (.tuple #[]) ∧ ∃ d', (PermIn a b d d' ∧ SortedIn (ltOf cf) a b d') ∧ SWK enc k w0 blk off d' w'
set_option maxHeartbeats 8000000 in
set_option maxRecDepth 1000000 in
theorem sym_one (L : LaySort P k) (cf : α → α → Int) (hS : SWO (ltOf cf)) (g : Nat) (cb : Array Value) (blk off cap a m b : Nat) (d0 d : Array α) (w0 w : World) (eg : ∀ args w, (callFunc g args).run P w = .ok (.enter g args) w)
    (hcmp : CmpLays P g cb enc k cf blk off d0.size w0) (R : RowK enc k w0 blk off d0) (hs : d0.size = d.size) (S : SWK enc k w0 blk off d w) (ham : m = a + 1) (hmb : m < b) (hb : b ≤ d.size) (hsz : d.size < 1000000) (h2 : SortedIn (ltOf cf) m b d) :
    Calls P 38 #[.slice (some ⟨blk, off, none⟩) d.size cap, .int .i64 a, .int .i64 m, .int .i64 b, .func (.func g) #[] cb] w (Merged cf a b d enc k w0 blk off) := by
  have mixed := L.mixed; have t0 := L.t0; have a0 := L.a0; have z0 := L.z0; have t3 := L.t3; have a3 := L.a3; have z3 := L.z3; have t4 := L.t4; have a4 := L.a4; have z4 := L.z4; have t32 := L.t32; have a32 := L.a32; have z32 := L.z32; have t71 := L.t71; have a71 := L.a71; have z71 := L.z71; have aE := L.aE; have zE := L.zE
  have u3 := run_underlying L.t3; have u71 := run_underlying L.t71
  have FG := L.f38
  have HC : Aside _ := hcmp
  have H2 : Aside _ := h2
  have S0 : Aside (SWK enc k w0 blk off d w) := S
  have HM : Aside (m = a + 1) := ham
  have r1 : IntKind.i64.wrap ((m : Int) - (a : Int)) = (m : Int) - (a : Int) := by rw [IntKind.wrap_i64]; omega
  have c1 : ((m : Int) - (a : Int) == 1) = true := by simp; omega
  clear S L hcmp h2 ham
  go_enter FG, Try.ntmps38
  go_wp2
  go_loopg [10, 11] b (fun kx s10 s11 wr => ∃ (i j : Nat), s10 = .int .i64 i ∧ s11 = .int .i64 j ∧ m ≤ i ∧ i ≤ j ∧ j ≤ b ∧ j - i ≤ kx ∧ Aside ((∀ t, m ≤ t → t < i → ltOf cf d[t]! d[a]! = true) ∧ (∀ t, j ≤ t → t < b → ltOf cf d[t]! d[a]! = false)) ∧ Aside (SWK enc k w0 blk off d wr))
  case atStart => exact ⟨m, b, rfl, rfl, Nat.le_refl _, by omega, Nat.le_refl _, by omega, (⟨fun t x y => by omega, fun t x y => by omega⟩ : (∀ t, m ≤ t → t < m → ltOf cf d[t]! d[a]! = true) ∧ (∀ t, b ≤ t → t < b → ltOf cf d[t]! d[a]! = false)), S0⟩
  case round =>
    clear S0
    obtain ⟨i, j, rfl, rfl, hmi, hij, hjb, hkx, I, S1⟩ := hrel
    by_cases hlt : i < j
    · have hltz : decide ((i : Int) < (j : Int)) = true := decide_eq_true (by omega)
      have e1 : (((i : Int) + (j : Int)) / 2).toNat = (i + j) / 2 := by omega
      have p1 : (0 : Int) ≤ ((i : Int) + (j : Int)) / 2 := by omega
      have b1 : ((i : Int) + (j : Int)) / 2 < (d.size : Int) := by omega
      have b2 : (a : Int) < (d.size : Int) := by have := HM.out; omega
      obtain ⟨x, hx⟩ : ∃ x, x = d[(i + j) / 2]! := ⟨_, rfl⟩
      obtain ⟨y, hy⟩ : ∃ y, y = d[a]! := ⟨_, rfl⟩
      have la := S1.out.ld R (by omega) P ((i + j) / 2) (by omega)
      have lb := S1.out.ld R (by omega) P a (by have := HM.out; omega)
      rw [← hx] at la
      rw [← hy] at lb
      have hc := S1.out.cmp HC.out (by omega) x y
      have HX : Aside (x = d[(i + j) / 2]! ∧ y = d[a]!) := (⟨hx, hy⟩ : x = d[(i + j) / 2]! ∧ y = d[a]!)
      clear hx hy
      by_cases hv : cf x y < 0
      · have hd : decide (cf x y < 0) = true := decide_eq_true hv
        have I2 : Aside ((∀ t, m ≤ t → t < (i + j) / 2 + 1 → ltOf cf d[t]! d[a]! = true) ∧ (∀ t, j ≤ t → t < b → ltOf cf d[t]! d[a]! = false)) := (⟨fun t q1 q2 => (by
          by_cases ht : t = (i + j) / 2
          · rw [ht, ← HX.out.1, ← HX.out.2]; exact hd
          · have q3 := H2.out t ((i + j) / 2) q1 (by omega) (by omega)
            rw [← HX.out.1] at q3
            cases hq : ltOf cf d[t]! d[a]! with
            | true => rfl
            | false => rw [← HX.out.2] at hq; have := hS.ntrans _ _ _ q3 hq; rw [show ltOf cf x y = true from hd] at this; cases this), I.out.2⟩ : (∀ t, m ≤ t → t < (i + j) / 2 + 1 → ltOf cf d[t]! d[a]! = true) ∧ (∀ t, j ≤ t → t < b → ltOf cf d[t]! d[a]! = false))
        go_wp2_with fail
        go_quiet_grown (first | (go_at_fn g; refine Calls.grown_of (hc _ _)))
        have S2 : Aside (SWK enc k w0 blk off d (grow (wr.drewN nq) osq)) := S1.out.grown nq osq
        clear la lb hc S1
        generalize grow (wr.drewN nq) osq = w2 at S2 ⊢
        clear nq osq
        go_wp2
        go_roundg (j - ((i + j) / 2 + 1))
        case measure => omega
        case rel => exact ⟨(i + j) / 2 + 1, j, by congr 1 <;> omega, rfl, by omega, by omega, hjb, Nat.le_refl _, I2, S2⟩
      · have hd : decide (cf x y < 0) = false := decide_eq_false hv
        have I2 : Aside ((∀ t, m ≤ t → t < i → ltOf cf d[t]! d[a]! = true) ∧ (∀ t, (i + j) / 2 ≤ t → t < b → ltOf cf d[t]! d[a]! = false)) := (⟨I.out.1, fun t q1 q2 => by
          have q3 : ltOf cf d[(i + j) / 2]! d[a]! = false := by rw [← HX.out.1, ← HX.out.2]; exact hd
          by_cases ht : t = (i + j) / 2
          · rw [ht]; exact q3
          · exact hS.ntrans _ _ _ (H2.out ((i + j) / 2) t (by omega) (by omega) q2) q3⟩ : (∀ t, m ≤ t → t < i → ltOf cf d[t]! d[a]! = true) ∧ (∀ t, (i + j) / 2 ≤ t → t < b → ltOf cf d[t]! d[a]! = false))
        go_wp2_with fail
        go_quiet_grown (first | (go_at_fn g; refine Calls.grown_of (hc _ _)))
        have S2 : Aside (SWK enc k w0 blk off d (grow (wr.drewN nq) osq)) := S1.out.grown nq osq
        clear la lb hc S1
        generalize grow (wr.drewN nq) osq = w2 at S2 ⊢
        clear nq osq
        go_wp2
        go_roundg ((i + j) / 2 - i)
        case measure => omega
        case rel => exact ⟨i, (i + j) / 2, rfl, by congr 1 <;> omega, hmi, by omega, by omega, Nat.le_refl _, I2, S2⟩
    · have hltz : decide ((i : Int) < (j : Int)) = false := decide_eq_false (by omega)
      obtain rfl : j = i := by omega
      have r2 : IntKind.i64.wrap ((j : Int) - 1) = (j : Int) - 1 := by rw [IntKind.wrap_i64]; omega
      go_wp2
      go_loopg [13] j (fun kx s13 wr2 => ∃ (q : Nat) (dk : Array α), s13 = .int .i64 q ∧ a ≤ q ∧ q + 1 ≤ j ∧ j - q ≤ kx ∧ Aside (UpI a q d dk) ∧ Aside (SWK enc k w0 blk off dk wr2))
      case atStart => exact ⟨a, d, rfl, Nat.le_refl _, by have := HM.out; omega, by omega, (UpI.start a d : Aside (UpI a a d d)), S1⟩
      case round =>
        clear S1
        obtain ⟨q, dk, rfl, haq, hqj, hkx2, U, S1⟩ := hrel
        have hds : dk.size = d.size := U.out.perm.1
        by_cases hq : q + 1 < j
        · have hqz : decide ((q : Int) < (j : Int) - 1) = true := decide_eq_true (by omega)
          have pA : (0 : Int) ≤ (q : Int) := by omega
          have bA : (q : Int) < (d.size : Int) := by omega
          have eB : ((q : Int) + 1).toNat = q + 1 := by omega
          have pB : (0 : Int) ≤ (q : Int) + 1 := by omega
          have bB : (q : Int) + 1 < (d.size : Int) := by omega
          have rB : IntKind.i64.wrap ((q : Int) + 1) = (q : Int) + 1 := by rw [IntKind.wrap_i64]; omega
          have S2 : Aside (SWK enc k w0 blk off (swp dk q (q + 1)) ((wr.drew.setCells blk (off + q * k) (enc dk[q + 1]!)).setCells blk (off + (q + 1) * k) (enc dk[q]!))) := S1.out.swapped R q (q + 1) (by omega) (by omega)
          have la := S1.out.ld1 R (by omega) P q (by omega)
          have lb := S1.out.ld1 R (by omega) P (q + 1) (by omega)
          have sa := S1.out.st1 R (by omega) P q (by omega) dk[q + 1]!
          have sb := S1.out.st2 R (by omega) P q (q + 1) (by omega) (by omega) dk[q + 1]! dk[q]!
          have na : (enc dk[q]!).length = k := R.hk _
          have nb : (enc dk[q + 1]!).length = k := R.hk _
          generalize enc dk[q]! = cI at S2 la sb na
          generalize enc dk[q + 1]! = cJ at S2 lb sa sb nb
          clear S1
          go_wp2_with fail
          go_big_region_o
          clear la lb sa sb
          generalize (wr.drew.setCells blk (off + q * k) cJ).setCells blk (off + (q + 1) * k) cI = w2 at S2 ⊢
          go_wp2
          go_roundg (j - (q + 1))
          case measure => omega
          case rel => exact ⟨q + 1, swp dk q (q + 1), by go_num, by omega, by omega, Nat.le_refl _, (U.out.step haq (by omega) : Aside (UpI a (q + 1) d _)), S2⟩
        · have hqz : decide ((q : Int) < (j : Int) - 1) = false := decide_eq_false (by omega)
          obtain rfl : j = q + 1 := by omega
          go_wp2
          (try simp only [Exit.inBlock, Exit.then]); refine bodyPost_ret (results_none rfl _ _ _) rfl ?_
          exact ⟨rfl, dk, UpI.done (i := q + 1) hS U.out (by omega) (by omega) hb (by have := H2.out; rwa [HM.out] at this) (by have := I.out.1; rwa [HM.out] at this) I.out.2, S1.out⟩
end Go.Proofs.Ytidojompkihboaa.X
