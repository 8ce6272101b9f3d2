/- slices.SortStableFunc of facts by their keys, below 20 facts: as the insertion sort lays them. -/
import Derived.Test.YtidojompkihboaaCmp
import Derived.Test.YtidojompkihboaaShelf
namespace Go.Proofs.Ytidojompkihboaa.X
open Go.RowKit Go.Shelf Go.Sort Go.Proofs.YtidojompkihboaaW.PrintWords Go.Proofs.YtidojompkihboaaW.PrintLast Go.Proofs.YtidojompkihboaaW.PrintMore

theorem G.trans {a b c : World} (h : G a b) (k : G b c) : G a c := by
  obtain ⟨q, os, rfl⟩ := k
  exact (h.drewN q).grow os
def enc40 (x : S40) : List Value := [.string x.f0.f0, .string x.f0.f1, .string x.f0.f2, .string x.f0.f3, .int .i64 x.f0.f4, .int .i64 x.f1]
def cfF (x y : S40) : Int := cmpK x.f0 y.f0
set_option maxHeartbeats 2000000 in
set_option maxRecDepth 100000 in
theorem of1_any (x y : S40) (w : World) :
    Calls Try.prog 24 #[.agg (enc40 x).toArray, .agg (enc40 y).toArray] w fun e w' => e = .returned (.int .i64 (cfF x y)) ∧ G w w' := by
  unfold enc40
  have hcm : ∀ W, Aside0 (Calls Try.prog 8 #[.agg #[.string x.f0.f0, .string x.f0.f1, .string x.f0.f2, .string x.f0.f3, .int .i64 x.f0.f4], .agg #[.string y.f0.f0, .string y.f0.f1, .string y.f0.f2, .string y.f0.f3, .int .i64 y.f0.f4]] W fun e w' => e = .returned (.int .i64 (cfF x y)) ∧ G W w') := fun W => ⟨cmp_any x.f0 y.f0 W⟩
  generalize cfF x y = r at hcm ⊢
  go_enter Try.func24, Try.ntmps24
  go_wp2_with (go_at_call 8; refine (hcm _).out.mono ?_; rintro e w' ⟨rfl, hG⟩)
  go_ret
  exact ⟨rfl, G.trans (((G.refl w).alloc _).alloc _) hG⟩
instance : Inhabited S40 := ⟨z40⟩
theorem cmpLays24 (blk off size : Nat) (w : World) : CmpLays Try.prog 24 #[] enc40 6 cfF blk off size w :=
  fun _ _ _ _ x y => of1_any x y _
theorem enters24 : ∀ args w, (callFunc 24 args).run Try.prog w = .ok (.enter 24 args) w := enters_of Try.func24 (by kernel_rfl) rfl
theorem enc40_one (x : S40) : ∀ v ∈ enc40 x, v.oneCell' = true := by
  intro v hv
  simp [enc40] at hv
  rcases hv with rfl | rfl | rfl | rfl | rfl | rfl <;> rfl
theorem ins_any (blk off cap a b : Nat) (d : Array S40) (w : World) (hH : HoldsK enc40 6 w blk off d) (hblk : blk < w.heap.size) (hab : a ≤ b) (hb : b ≤ d.size) (hsz : d.size < 4611686018427387904) :
    Calls Try.prog 37 #[.slice (some ⟨blk, off, none⟩) d.size cap, .int .i64 a, .int .i64 b, .func (.func 24) #[] #[]] w fun e w' =>
      e = .returned (.tuple #[]) ∧ ∃ n os, w' = sortWorldK enc40 6 w blk off n (Sort.insertionSort (ltOf cfF) d a b) os :=
  AnyQ.insertionSortCmpFunc Try.insF 6 Try.isAgg40 Try.sizeOf40 enc40 (fun _ => rfl) enc40_one cfF 24 #[] blk off cap a b d w enters24 (cmpLays24 blk off d.size w) hH hblk hab hb hsz
set_option maxHeartbeats 2000000 in
set_option maxRecDepth 100000 in
theorem stable_any (blk off cap : Nat) (d : Array S40) (w : World) (hH : HoldsK enc40 6 w blk off d) (hblk : blk < w.heap.size) (hn : d.size < 20) :
    Calls Try.prog 33 #[.slice (some ⟨blk, off, none⟩) d.size cap, .int .i64 d.size, .func (.func 24) #[] #[]] w fun e w' =>
      e = .returned (.tuple #[]) ∧ ∃ n os, w' = sortWorldK enc40 6 w blk off n (Sort.insertionSort (ltOf cfF) d 0 d.size) os := by
  have hins := Aside0.mk (ins_any blk off cap 0 d.size d w hH hblk (Nat.zero_le _) (Nat.le_refl _) (by omega))
  rw [show ((0 : Nat) : Int) = 0 from rfl] at hins
  generalize Sort.insertionSort (ltOf cfF) d 0 d.size = r at hins ⊢
  clear hH
  go_enter Try.func33, Try.ntmps33
  go_wp2
  go_loop [7, 8] (fun v7 v8 => v7 = .int .i64 0 ∧ v8 = .int .i64 20) (fun _ _ => 0)
  case atStart => exact ⟨rfl, rfl⟩
  case round =>
    obtain ⟨rfl, rfl⟩ := hrel
    have c1 : decide ((20 : Int) ≤ (d.size : Int)) = false := decide_eq_false (by omega)
    go_wp2_with (go_at_call 37; refine hins.out.mono ?_; rintro e w' ⟨rfl, n, os, rfl⟩)
    go_loop [6, 7, 8, 9] (fun v6 _ _ _ => v6 = .int .i64 20) (fun _ _ _ _ => 0)
    case atStart => exact rfl
    case round =>
      have hrel' := hrel
      subst hrel'
      have c2 : decide ((20 : Int) < (d.size : Int)) = false := decide_eq_false (by omega)
      go_wp2
      go_end0
      exact ⟨rfl, n, os, rfl⟩
theorem enters33 : ∀ args w, (callFunc 33 args).run Try.prog w = .ok (.enter 33 args) w := enters_of Try.func33 (by kernel_rfl) rfl
set_option maxHeartbeats 1000000 in
theorem sort_any (blk off cap : Nat) (d : Array S40) (w : World) (hH : HoldsK enc40 6 w blk off d) (hblk : blk < w.heap.size) (hn : d.size < 20) :
    Calls Try.prog 23 #[.slice (some ⟨blk, off, none⟩) d.size cap, .func (.func 24) #[] #[]] w fun e w' =>
      e = .returned (.tuple #[]) ∧ ∃ n os, w' = sortWorldK enc40 6 w blk off n (Sort.insertionSort (ltOf cfF) d 0 d.size) os := by
  have hst := Aside0.mk (stable_any blk off cap d w hH hblk hn)
  generalize Sort.insertionSort (ltOf cfF) d 0 d.size = r at hst ⊢
  clear hH
  go_enter Try.func23, Try.ntmps23
  go_wp2_with (go_at_call 33; refine hst.out.mono ?_; rintro e w' ⟨rfl, n, os, rfl⟩)
  go_end0
  exact ⟨rfl, n, os, rfl⟩
end Go.Proofs.Ytidojompkihboaa.X
