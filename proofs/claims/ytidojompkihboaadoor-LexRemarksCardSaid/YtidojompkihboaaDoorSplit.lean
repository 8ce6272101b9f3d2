import Derived.Test.YtidojompkihboaaDoorXx0
import Derived.Test.YtidojompkihboaaDoorRange
import Derived.Test.YtidojompkihboaaDoorShelf
import Derived.OwnWalkIn
import Derived.TacticsInMore
import Derived.LoopNIn
import Derived.LoopIn
import Derived.Shelf.Abstract
import Derived.Shelf.RegionOpen
import Derived.Outline
namespace Go.Proofs.YtidojompkihboaaDoor.X
open Go.RowKit Go.Shelf Go.Proofs.YtidojompkihboaaDoorW.PrintWords Go.Proofs.YtidojompkihboaaDoorW.PrintLast Go.Proofs.YtidojompkihboaaDoorW.PrintMore Go.Proofs.YtidojompkihboaaDoor.Rng
attribute [local go_sem] Oper.semAt_some

/-- The pieces of a text between its ends of lines. -/
def splitB : Nat → ByteArray → List ByteArray
  | 0, s => [s]
  | n + 1, s => if Lib.indexByte s.data.toList 10 < 0 then [s] else s.extract 0 (Lib.indexByte s.data.toList 10).toNat :: splitB n (s.extract ((Lib.indexByte s.data.toList 10).toNat + 1) s.size)

def leftOf (b : Nat) (W : World) : Nat := match W.cell? ⟨b, 0, none⟩ with | some (.string t) => t.size | _ => 0
def ownOf (a b c : Nat) (r : Nat) : Prop := r = a ∨ r = b ∨ r = c
set_option maxHeartbeats 1000000 in
set_option maxRecDepth 100000 in
theorem splitSeq_iter (s : ByteArray) (hs : s.size ≤ 4294967296) (b1 b2 b3 : Nat) (W : World) (h1 : W.heap[b1]? = some (.cells #[.string ⟨#[10]⟩] 9 (0, 0))) (h2 : W.heap[b2]? = some (.cells #[.string s] 9 (0, 0))) (h3 : W.heap[b3]? = some (.cells #[.int .i64 0] 3 (0, 0)))
    (h12 : b1 ≠ b2) (h23 : b2 ≠ b3) :
    SeqC Tryd.prog 46 #[.pointer (some ⟨b1, 0, none⟩), .pointer (some ⟨b2, 0, none⟩), .pointer (some ⟨b3, 0, none⟩)] (fun x : ByteArray => #[.string x]) (ownOf b1 b2 b3) 0 (splitB s.size s) W := by
  intro l J Jx hJ hJx hY h0
  refine callsIn_of_wp Tryd.func46 rfl trivial ?_
  simp only [Tryd.ntmps46, List.size_toArray, List.length_cons, List.length_nil, Nat.reduceAdd, Nat.reduceSub, Array.replicate_succ, Array.replicate_zero, List.push_toArray, List.append_toArray, List.nil_append, List.cons_append]
  have c1 : W.cell? ⟨b1, 0, none⟩ = some (.string ⟨#[10]⟩) := by simp [World.cell?, h1]
  gi_wp2
  gi_loopw [7] (fun _ wr => ∃ (pre : List ByteArray) (n : Nat) (t : ByteArray), t.size ≤ n ∧ t.size ≤ 4294967296 ∧ Aside0 (splitB s.size s = pre ++ splitB n t) ∧ Aside0 (J pre wr) ∧ Aside0 (W.heap.size ≤ wr.heap.size) ∧
      Aside0 (wr.heap[b1]? = some (.cells #[.string ⟨#[10]⟩] 9 (0, 0))) ∧ Aside0 (wr.heap[b2]? = some (.cells #[.string t] 9 (0, 0))) ∧ Aside0 (wr.heap[b3]? = some (.cells #[.int .i64 0] 3 (0, 0)))) (fun _ wr => leftOf b2 wr)
  case atStart => exact ⟨[], s.size, s, Nat.le_refl _, hs, ⟨rfl⟩, ⟨h0⟩, ⟨Nat.le_refl _⟩, ⟨h1⟩, ⟨h2⟩, ⟨h3⟩⟩
  case round =>
    obtain ⟨pre, n, t, ht, hts, hx, hj, hsz, g1, g2, g3⟩ := hrel
    have c1 : wr.cell? ⟨b1, 0, none⟩ = some (.string ⟨#[10]⟩) := by simp [World.cell?, g1.out]
    have c2 : wr.cell? ⟨b2, 0, none⟩ = some (.string t) := by simp [World.cell?, g2.out]
    have c3 : wr.cell? ⟨b3, 0, none⟩ = some (.int .i64 0) := by simp [World.cell?, g3.out]
    have f2 : wr.frozen? ⟨b2, 0, none⟩ = false := by simp [World.frozen?, g2.out]
    obtain ⟨q, hq⟩ : ∃ q, q = Lib.indexByte t.data.toList 10 := ⟨_, rfl⟩
    have hidx : ∀ w, Aside0 (CallsIn Fence.wide 0 Tryd.prog 48 #[.string t, .string ⟨#[10]⟩] w fun e w' => e = .returned (.int .i64 q) ∧ w = w') := fun w => ⟨by rw [hq]; exact callsIn_wide.2 ((Tryd.strings_Index_one t 10 w).mono (fun _ _ ⟨a, b⟩ => ⟨a, b.symm⟩))⟩
    have hge := Lib.indexByte_ge t.data.toList 10
    rw [← hq] at hge
    by_cases hneg : q < 0
    · have hqm : q = -1 := by omega
      have hpiece : splitB n t = [t] := by
        cases n with
        | zero => rfl
        | succ n => rw [splitB, if_pos (by rw [← hq]; exact hneg)]
      obtain ⟨fn, tmps, assign, body, hy, hR⟩ := hY pre t [] wr (by rw [hx.out, hpiece]) hj.out hsz.out
      have HR := Aside0.mk hR
      clear hR
      have HQ := Aside0.mk hq
      clear hq
      gi_wp2_with (refine ⟨trivial, rfl, ?_⟩; gi_at_call 48; refine (hidx _).out.mono ?_; rintro e w' ⟨rfl, rfl⟩)
      refine ⟨rfl, HR.out.mono ?_⟩
      rintro e W' (⟨rfl, hJ', hk⟩ | ⟨rfl, hJx', hk⟩)
      · have HF := Aside0.mk (show J (splitB s.size s) W' by rw [hx.out, hpiece]; exact hJ')
        clear hJ' hk
        gi_wp2
        go_end0
        exact ⟨⟨_, rfl⟩, .inl HF.out⟩
      · have HF := Aside0.mk hJx'
        clear hJx' hk
        gi_wp2
        go_end0
        exact ⟨⟨_, rfl⟩, .inr ⟨_, HF.out⟩⟩
    · obtain ⟨i, hi⟩ : ∃ i : Nat, q = (i : Int) := ⟨q.toNat, by omega⟩
      subst hi
      have hlt : i < t.size := by
        have := (Lib.indexByte_some (hq.symm)).1
        have hl := (List.getElem?_eq_some_iff.1 this).1
        rw [data_length] at hl
        exact hl
      obtain ⟨m, rfl⟩ : ∃ m, n = m + 1 := ⟨n - 1, by omega⟩
      have hpiece : splitB (m + 1) t = t.extract 0 i :: splitB m (t.extract (i + 1) t.size) := by
        rw [splitB, if_neg (by rw [← hq]; omega), ← hq, Int.toNat_natCast]
      obtain ⟨fn, tmps, assign, body, hy, hR⟩ := hY pre (t.extract 0 i) (splitB m (t.extract (i + 1) t.size)) wr (by rw [hx.out, hpiece]) hj.out hsz.out
      have HR := Aside0.mk hR
      clear hR
      have HQ := Aside0.mk hq
      clear hq hge hneg
      gi_wp2_with (refine ⟨trivial, rfl, ?_⟩; gi_at_call 48; refine (hidx _).out.mono ?_; rintro e w' ⟨rfl, rfl⟩)
      refine ⟨rfl, HR.out.mono ?_⟩
      rintro e W' (⟨rfl, hJ', hk⟩ | ⟨rfl, hJx', hk⟩)
      · have k1 := (hk.same b1 (.inl (.inl rfl)) (blk_lt g1.out)).trans g1.out
        have k2 := (hk.same b2 (.inl (.inr (.inl rfl))) (blk_lt g2.out)).trans g2.out
        have k3 := (hk.same b3 (.inl (.inr (.inr rfl))) (blk_lt g3.out)).trans g3.out
        have d1 : W'.cell? ⟨b1, 0, none⟩ = some (.string ⟨#[10]⟩) := by simp [World.cell?, k1]
        have d2 : W'.cell? ⟨b2, 0, none⟩ = some (.string t) := by simp [World.cell?, k2]
        have e2 : W'.frozen? ⟨b2, 0, none⟩ = false := by simp [World.frozen?, k2]
        have hsz' := Aside0.mk (Nat.le_trans hsz.out hk.size)
        have HJ := Aside0.mk (hJ _ _ _ hJ' (Touch.setCell W' ⟨b2, 0, none⟩ (.string (t.extract (i + 1) t.size)) (.inl (.inr (.inl rfl)))))
        have K1 := Aside0.mk ((blk_far (p := ⟨b2, 0, none⟩) k1 h12 (.string (t.extract (i + 1) t.size))))
        have K2 := Aside0.mk (blk_set k2 0 (.string (t.extract (i + 1) t.size)))
        have K3 := Aside0.mk ((blk_far (p := ⟨b2, 0, none⟩) k3 (Ne.symm h23) (.string (t.extract (i + 1) t.size))))
        have HX := Aside0.mk (show splitB s.size s = (pre ++ [t.extract 0 i]) ++ splitB m (t.extract (i + 1) t.size) by rw [hx.out, hpiece]; simp)
        clear k1 k2 k3 hJ' hk hpiece
        gi_wp2
        go_roundw
        case rel => exact ⟨_, m, _, by simp; omega, by simp; omega, HX, HJ, ⟨by simpa using hsz'.out⟩, K1, K2, K3⟩
        case measure => simp [leftOf, World.cell?, g2.out, K2.out]; omega
      · have HF := Aside0.mk hJx'
        clear hJx' hk
        gi_wp2
        refine bodyPost_ret (results_none rfl _ _ _) rfl ?_
        exact ⟨⟨_, rfl⟩, .inr ⟨_, HF.out⟩⟩
end Go.Proofs.YtidojompkihboaaDoor.X
