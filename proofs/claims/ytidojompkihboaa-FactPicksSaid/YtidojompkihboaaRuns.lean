/- The facts of each key, one after another: fact.runs, as an iterator over a row that stays. -/
import Derived.Test.YtidojompkihboaaFront
import Derived.Test.YtidojompkihboaaRangeK
import Derived.Test.YtidojompkihboaaEqKey
import Derived.Deep.QuietTactic
import Derived.Sort.QuietIn
import Derived.BigQuiet
import Derived.OwnWalkIn
import Derived.TacticsInMore
import Derived.LoopNIn
import Derived.LoopIn
import Derived.Shelf.Abstract
import Derived.Shelf.RegionOpen
import Derived.Outline
namespace Go.Proofs.Ytidojompkihboaa.X
open Go.RowKit Go.Shelf Go.Sort Go.Proofs.Ytidojompkihboaa.Rng Go.Proofs.YtidojompkihboaaW.PrintWords Go.Proofs.YtidojompkihboaaW.PrintLast Go.Proofs.YtidojompkihboaaW.PrintMore
attribute [local go_sem] Oper.semAt_some
attribute [local go_sem high] eqA30

def sameK (x y : S30) : Bool := x.f0.toList == y.f0.toList && (x.f1.toList == y.f1.toList && (x.f2.toList == y.f2.toList && (x.f3.toList == y.f3.toList && (x.f4 == y.f4))))
def runLen : List S40 → Nat
  | [] => 0
  | x :: r => 1 + (r.takeWhile fun y => sameK y.f0 x.f0).length
def runsF : Nat → List S40 → List (List S40)
  | 0, _ => []
  | _, [] => []
  | n + 1, x :: r => (x :: r).take (runLen (x :: r)) :: runsF n ((x :: r).drop (runLen (x :: r)))
def lenOf (b : Nat) (W : World) : Nat := match W.cell? ⟨b, 0, none⟩ with | some (.slice _ n _) => n | _ => 0
structure Chunk where
  A : Option Addr
  c : Nat
  l : List S40
theorem take_stop {α : Type} (p : α → Bool) (l : List α) (n : Nat) (hn : n ≤ l.length) (h : ∀ i (hi : i < l.length), i < n → p l[i] = true) (hs : n = l.length ∨ ∃ hl : n < l.length, p l[n] = false) : (l.takeWhile p).length = n := by
  induction l generalizing n with
  | nil => simp at hn; simp [hn]
  | cons x r ih =>
    cases n with
    | zero =>
      rcases hs with hs | ⟨hl, hs⟩
      · simp at hs
      · rw [List.takeWhile_cons_of_neg (by simpa using hs)]; rfl
    | succ n =>
      rw [List.takeWhile_cons_of_pos (by have := h 0 (by simp) (by omega); exact this), List.length_cons]
      congr 1
      refine ih n (by simpa using hn) (fun i hi hin => by have := h (i + 1) (by simpa using hi) (by omega); exact this) ?_
      rcases hs with hs | ⟨hl, hs⟩
      · exact .inl (by simpa using hs)
      · exact .inr ⟨by simpa using hl, hs⟩
theorem rdF {l : List S40} {i : Nat} (h : i < l.length) : rd_T40 l (i : Int) = l[i] := by simp [rd_T40, List.getD_eq_getElem?_getD, List.getElem?_eq_getElem h]
theorem runLen_of (t : List S40) (m : Int) (h1 : 1 ≤ m) (h2 : m ≤ t.length) (h : ∀ i : Int, 1 ≤ i → i < m → sameK (rd_T40 t i).f0 (rd_T40 t 0).f0 = true) (hs : m = t.length ∨ sameK (rd_T40 t m).f0 (rd_T40 t 0).f0 = false) : runLen t = m.toNat := by
  cases t with
  | nil => simp at h2; omega
  | cons x r =>
    have h00 : rd_T40 (x :: r) 0 = x := rfl
    rw [List.length_cons] at h2
    have ha : ∀ i (hi : i < r.length), i < m.toNat - 1 → sameK (r[i]).f0 x.f0 = true := by
      intro i hi hin
      have := h (i + 1) (by omega) (by omega)
      rw [h00, show ((i : Int) + 1) = ((i + 1 : Nat) : Int) from by omega, rdF (by simpa using hi)] at this
      exact this
    have hb : m.toNat - 1 = r.length ∨ ∃ hl : m.toNat - 1 < r.length, sameK (r[m.toNat - 1]).f0 x.f0 = false := by
      by_cases he : m = r.length + 1
      · exact .inl (by omega)
      · rcases hs with hs | hs
        · exact absurd (by simpa using hs) he
        · refine .inr ⟨by omega, ?_⟩
          rw [h00, show m = ((m.toNat - 1 + 1 : Nat) : Int) from by omega, rdF (by simp; omega)] at hs
          simpa using hs
    rw [runLen, take_stop (fun y : S40 => sameK y.f0 x.f0) r (m.toNat - 1) (by omega) ha hb]
    omega
/-- The chunks lie in the row: one by one, each where the one ahead of it ends. -/
def Lies (W : World) : List Chunk → Prop := fun ch => ∀ x ∈ ch, x.l.length ≤ x.c ∧ Kd.C k40 W x.A x.l.length x.l
def chunksF : Nat → Option Addr → Nat → List S40 → List Chunk
  | 0, _, _, _ => []
  | _, _, _, [] => []
  | n + 1, A, c, x :: r => ⟨A, c, (x :: r).take (runLen (x :: r))⟩ :: chunksF n (if c = runLen (x :: r) then A else A.map (·.add (runLen (x :: r) * 6))) (c - runLen (x :: r)) ((x :: r).drop (runLen (x :: r)))
theorem chunksF_step (n : Nat) (A : Option Addr) (c : Nat) (t : List S40) (m : Nat) (ht : t ≠ []) (hm : runLen t = m) : chunksF (n + 1) A c t = ⟨A, c, t.take m⟩ :: chunksF n (if c = m then A else A.map (·.add (m * 6))) (c - m) (t.drop m) := by
  cases t with
  | nil => exact absurd rfl ht
  | cons x r => rw [chunksF, hm]
set_option maxHeartbeats 1000000 in
set_option maxRecDepth 100000 in
theorem runs_iter (A0 : Option Addr) (c0 : Nat) (d : List S40) (bl : Nat) (W : World) (h1 : W.heap[bl]? = some (.cells #[.slice A0 d.length c0] 32 (0, 0))) (hc0 : d.length ≤ c0) (hn : d.length ≤ 1000000) :
    SeqC Try.prog 34 #[.pointer (some ⟨bl, 0, none⟩)] (fun x : Chunk => #[.slice x.A x.l.length x.c]) (fun r => r = bl) 0 (fun w => Kd.C k40 w A0 d.length d) (chunksF d.length A0 c0 d) W := by
  intro l J Jx hJ hJx hKg hY h0
  have mixed : Try.prog.follows Departure.mixedOrders = true := by kernel_rfl
  refine callsIn_of_wp Try.func34 rfl trivial ?_
  simp only [Try.ntmps34, List.size_toArray, List.length_cons, List.length_nil, Nat.reduceAdd, Nat.reduceSub, Array.replicate_succ, Array.replicate_zero, List.push_toArray, List.append_toArray, List.nil_append, List.cons_append]
  gi_wp2
  gi_loopw [3] (fun _ wr => ∃ (pre : List Chunk) (n : Nat) (A : Option Addr) (c : Nat) (t : List S40), t.length ≤ n ∧ t.length ≤ c ∧ t.length ≤ 1000000 ∧ Aside0 (chunksF d.length A0 c0 d = pre ++ chunksF n A c t) ∧ Aside0 (J pre wr) ∧ Aside0 (W.heap.size ≤ wr.heap.size) ∧
      Aside0 (wr.heap[bl]? = some (.cells #[.slice A t.length c] 32 (0, 0))) ∧ Aside0 (∀ w, Kd.C k40 w A0 d.length d → Kd.C k40 w A t.length t)) (fun _ wr => lenOf bl wr)
  case atStart => exact ⟨[], d.length, A0, c0, d, Nat.le_refl _, hc0, hn, ⟨rfl⟩, ⟨h0⟩, ⟨Nat.le_refl _⟩, ⟨h1⟩, ⟨fun _ h => h⟩⟩
  case round =>
    obtain ⟨pre, n, A, c, t, ht, htc, htn, hx, hj, hsz, g1, hC⟩ := hrel
    have c1 : wr.cell? ⟨bl, 0, none⟩ = some (.slice A t.length c) := by simp [World.cell?, g1.out]
    have f1 : wr.frozen? ⟨bl, 0, none⟩ = false := by simp [World.frozen?, g1.out]
    by_cases h0t : t.length = 0
    · obtain rfl : t = [] := List.eq_nil_of_length_eq_zero h0t
      have HF := Aside0.mk (show J (chunksF d.length A0 c0 d) wr by rw [hx.out, show chunksF n A c [] = [] from by cases n <;> rfl, List.append_nil]; exact hj.out)
      gi_wp2
      go_end0
      exact ⟨⟨_, rfl⟩, .inl HF.out⟩
    · have hpos : decide (0 < (t.length : Int)) = true := decide_eq_true (by omega)
      have HCt := Aside0.mk (hC.out wr (hKg _ _ hj.out))
      gi_wp2
      gi_loopw [3] (fun v3 wr2 => ∃ (m : Int) (q : Nat), 1 ≤ m ∧ m ≤ t.length ∧ v3 = .int .i64 m ∧ wr2 = wr.drewN q ∧ Aside0 (∀ i : Int, 1 ≤ i → i < m → sameK (rd_T40 t i).f0 (rd_T40 t 0).f0 = true)) (fun v3 _ => t.length - (intOf v3).toNat)
      case atStart => exact ⟨1, 0, by omega, by omega, rfl, rfl, ⟨fun i h1 h2 => by omega⟩⟩
      case round =>
        obtain ⟨m, q, hm1, hm2, rfl, rfl, hsame⟩ := hrel
        have d1 : (wr.drewN q).cell? ⟨bl, 0, none⟩ = some (.slice A t.length c) := c1
        obtain ⟨ad, rfl, z0, z1, z2, z3, z4, z5⟩ := at_T40 HCt.out 0 (by omega) (by omega)
        rw [show (0 : Int).toNat * 6 = 0 from rfl, Addr.add_zero'] at z0 z1 z2 z3 z4 z5
        by_cases hlt : m < (t.length : Int)
        · obtain ⟨ad', ead', y0, y1, y2, y3, y4, y5⟩ := at_T40 HCt.out m (by omega) hlt
          cases ead'
          have hltb : decide (m < (t.length : Int)) = true := decide_eq_true hlt
          gi_wp2
          gi_quiet (fail)
          rw [show ((rd_T40 t m).f0.f0.toList == (rd_T40 t 0).f0.f0.toList && ((rd_T40 t m).f0.f1.toList == (rd_T40 t 0).f0.f1.toList && ((rd_T40 t m).f0.f2.toList == (rd_T40 t 0).f0.f2.toList && ((rd_T40 t m).f0.f3.toList == (rd_T40 t 0).f0.f3.toList && (rd_T40 t m).f0.f4 == (rd_T40 t 0).f0.f4)))) = sameK (rd_T40 t m).f0 (rd_T40 t 0).f0 from rfl]
          cases hsm : sameK (rd_T40 t m).f0 (rd_T40 t 0).f0 with
          | true =>
            have HS := Aside0.mk (show ∀ i : Int, 1 ≤ i → i < m + 1 → sameK (rd_T40 t i).f0 (rd_T40 t 0).f0 = true from fun i h1 h2 => by
              by_cases e : i = m
              · rw [e]; exact hsm
              · exact hsame.out i h1 (by omega))
            clear hsm y0 y1 y2 y3 y4 y5 z0 z1 z2 z3 z4 z5
            gi_wp2
            go_roundw
            case rel => exact ⟨m + 1, q + nq, by omega, by omega, rfl, rfl, HS⟩
            case measure => simp [intOf]; omega
          | false =>
          have hrl := runLen_of t m hm1 hm2 hsame.out (.inr hsm)
          clear hsm y0 y1 y2 y3 y4 y5 z0 z1 z2 z3 z4 z5
          obtain ⟨n, rfl⟩ : ∃ n', n = n' + 1 := ⟨n - 1, by omega⟩
          have hstep := chunksF_step n (some ad) c t m.toNat (fun e => h0t (by rw [e]; rfl)) hrl
          have hlen : (t.take m.toNat).length = m.toNat := by rw [List.length_take]; omega
          obtain ⟨fn, tmps, assign, body, hy, hR⟩ := hY pre ⟨some ad, c, t.take m.toNat⟩ _ (wr.drewN (q + nq)) (by rw [hx.out, hstep]) (hJ _ _ _ hj.out (Touch.of_below (pw_below_drewN (Below.refl _ _) (q + nq)))) hsz.out
          dsimp only at hy
          rw [hlen] at hy
          have HR := Aside0.mk hR
          have HST := Aside0.mk hstep
          clear hR hstep hlen
          obtain ⟨i0, hi0, hz40⟩ := Option.map_eq_some_iff.1 info40
          injection hz40 with hz1 hz2
          injection hz2 with hz2 hz3
          have kt := cut_to (P := Try.prog) 32 40 .i64 Try.underlying32 hi0 (some ad) t.length c m (by omega) hm2 htc
          have kf := cut_from (P := Try.prog) 32 40 .i64 Try.underlying32 hi0 6 hz2 (some ad) t.length c m (by omega) hm2
          clear hi0 hz1 hz2 hz3
          have d2 : (wr.drewN (q + nq)).cell? ⟨bl, 0, none⟩ = some (.slice (some ad) t.length c) := c1
          gi_wp2
          refine ⟨rfl, HR.out.mono ?_⟩
          rintro e W' (⟨rfl, hJ', hk⟩ | ⟨rfl, hJx', hk⟩)
          · have k1 := (hk.same bl (.inl rfl) (blk_lt g1.out)).trans g1.out
            have e1 : W'.cell? ⟨bl, 0, none⟩ = some (.slice (some ad) t.length c) := by simp [World.cell?, k1]
            have e2 : W'.frozen? ⟨bl, 0, none⟩ = false := by simp [World.frozen?, k1]
            have hsz' := Aside0.mk (Nat.le_trans hsz.out hk.size)
            generalize hA' : (if c = m.toNat then some ad else (some ad).map (·.add (m.toNat * 6))) = A' at kf HST
            have HJ := Aside0.mk (hJ _ _ _ hJ' (Touch.setCell W' ⟨bl, 0, none⟩ (.slice A' (t.length - m.toNat) (c - m.toNat)) (.inl rfl)))
            have K1 := Aside0.mk (blk_set k1 0 (.slice A' (t.length - m.toNat) (c - m.toNat)))
            have HX := Aside0.mk (show chunksF d.length A0 c0 d = (pre ++ [⟨some ad, c, t.take m.toNat⟩]) ++ chunksF n A' (c - m.toNat) (t.drop m.toNat) by rw [hx.out, HST.out]; simp)
            have HC2 := Aside0.mk (show ∀ w, Kd.C k40 w A0 d.length d → Kd.C k40 w A' (t.drop m.toNat).length (t.drop m.toNat) from fun w hw => by rw [← hA']; exact Kd.C_drop (hC.out w hw) (by omega) htc)
            have HdL := Aside0.mk (show t.length - m.toNat = (t.drop m.toNat).length by rw [List.length_drop])
            have HZ := Aside0.mk (show (t.drop m.toNat).length ≤ n ∧ (t.drop m.toNat).length ≤ c - m.toNat ∧ (t.drop m.toNat).length ≤ 1000000 ∧ t.length - m.toNat < t.length by rw [List.length_drop]; omega)
            clear k1 hJ' hk hA'
            gi_wp2
            go_roundw
            case rel => exact ⟨_, n, A', c - m.toNat, t.drop m.toNat, HZ.out.1, HZ.out.2.1, HZ.out.2.2.1, HX, HJ, ⟨by simpa using hsz'.out⟩, ⟨by rw [← HdL.out]; exact K1.out⟩, HC2⟩
            case measure => simp [lenOf, World.cell?, g1.out, K1.out]; exact HZ.out.2.2.2
          · have HF := Aside0.mk hJx'
            clear hJx' hk
            gi_wp2
            refine bodyPost_ret (results_none rfl _ _ _) rfl ?_
            exact ⟨⟨_, rfl⟩, .inr ⟨_, HF.out⟩⟩
        · have hltb : decide (m < (t.length : Int)) = false := decide_eq_false hlt
          gi_wp2
          gi_quiet (fail)
          have hrl := runLen_of t m hm1 hm2 hsame.out (.inl (by omega))
          clear z0 z1 z2 z3 z4 z5
          obtain ⟨n, rfl⟩ : ∃ n', n = n' + 1 := ⟨n - 1, by omega⟩
          have hstep := chunksF_step n (some ad) c t m.toNat (fun e => h0t (by rw [e]; rfl)) hrl
          have hlen : (t.take m.toNat).length = m.toNat := by rw [List.length_take]; omega
          obtain ⟨fn, tmps, assign, body, hy, hR⟩ := hY pre ⟨some ad, c, t.take m.toNat⟩ _ (wr.drewN (q + nq)) (by rw [hx.out, hstep]) (hJ _ _ _ hj.out (Touch.of_below (pw_below_drewN (Below.refl _ _) (q + nq)))) hsz.out
          dsimp only at hy
          rw [hlen] at hy
          have HR := Aside0.mk hR
          have HST := Aside0.mk hstep
          clear hR hstep hlen
          obtain ⟨i0, hi0, hz40⟩ := Option.map_eq_some_iff.1 info40
          injection hz40 with hz1 hz2
          injection hz2 with hz2 hz3
          have kt := cut_to (P := Try.prog) 32 40 .i64 Try.underlying32 hi0 (some ad) t.length c m (by omega) hm2 htc
          have kf := cut_from (P := Try.prog) 32 40 .i64 Try.underlying32 hi0 6 hz2 (some ad) t.length c m (by omega) hm2
          clear hi0 hz1 hz2 hz3
          have d2 : (wr.drewN (q + nq)).cell? ⟨bl, 0, none⟩ = some (.slice (some ad) t.length c) := c1
          gi_wp2
          refine ⟨rfl, HR.out.mono ?_⟩
          rintro e W' (⟨rfl, hJ', hk⟩ | ⟨rfl, hJx', hk⟩)
          · have k1 := (hk.same bl (.inl rfl) (blk_lt g1.out)).trans g1.out
            have e1 : W'.cell? ⟨bl, 0, none⟩ = some (.slice (some ad) t.length c) := by simp [World.cell?, k1]
            have e2 : W'.frozen? ⟨bl, 0, none⟩ = false := by simp [World.frozen?, k1]
            have hsz' := Aside0.mk (Nat.le_trans hsz.out hk.size)
            generalize hA' : (if c = m.toNat then some ad else (some ad).map (·.add (m.toNat * 6))) = A' at kf HST
            have HJ := Aside0.mk (hJ _ _ _ hJ' (Touch.setCell W' ⟨bl, 0, none⟩ (.slice A' (t.length - m.toNat) (c - m.toNat)) (.inl rfl)))
            have K1 := Aside0.mk (blk_set k1 0 (.slice A' (t.length - m.toNat) (c - m.toNat)))
            have HX := Aside0.mk (show chunksF d.length A0 c0 d = (pre ++ [⟨some ad, c, t.take m.toNat⟩]) ++ chunksF n A' (c - m.toNat) (t.drop m.toNat) by rw [hx.out, HST.out]; simp)
            have HC2 := Aside0.mk (show ∀ w, Kd.C k40 w A0 d.length d → Kd.C k40 w A' (t.drop m.toNat).length (t.drop m.toNat) from fun w hw => by rw [← hA']; exact Kd.C_drop (hC.out w hw) (by omega) htc)
            have HdL := Aside0.mk (show t.length - m.toNat = (t.drop m.toNat).length by rw [List.length_drop])
            have HZ := Aside0.mk (show (t.drop m.toNat).length ≤ n ∧ (t.drop m.toNat).length ≤ c - m.toNat ∧ (t.drop m.toNat).length ≤ 1000000 ∧ t.length - m.toNat < t.length by rw [List.length_drop]; omega)
            clear k1 hJ' hk hA'
            gi_wp2
            go_roundw
            case rel => exact ⟨_, n, A', c - m.toNat, t.drop m.toNat, HZ.out.1, HZ.out.2.1, HZ.out.2.2.1, HX, HJ, ⟨by simpa using hsz'.out⟩, ⟨by rw [← HdL.out]; exact K1.out⟩, HC2⟩
            case measure => simp [lenOf, World.cell?, g1.out, K1.out]; exact HZ.out.2.2.2
          · have HF := Aside0.mk hJx'
            clear hJx' hk
            gi_wp2
            refine bodyPost_ret (results_none rfl _ _ _) rfl ?_
            exact ⟨⟨_, rfl⟩, .inr ⟨_, HF.out⟩⟩
end Go.Proofs.Ytidojompkihboaa.X
