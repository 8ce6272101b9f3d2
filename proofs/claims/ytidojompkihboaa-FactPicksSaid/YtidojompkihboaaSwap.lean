/- slices.swapRangeCmpFunc, slices.rotateCmpFunc of facts. -/
import Derived.Test.YtidojompkihboaaSort
import Derived.Test.YtidojompkihboaaMerge
import Derived.Shelf.SlSortCmp.KitK
import Derived.Sort.WalkB2
import Derived.Sort.WalkB12
import Derived.Deep.LoopGhost
namespace Go.Proofs.Ytidojompkihboaa.X
open Go.RowKit Go.Shelf Go.Lib Go.Sort
/-- What the walks of the sort's parts are told of the program: its bodies and types, the element's size left open. -/
structure LaySort (P : Program) (k : Nat) : Prop where
  mixed : P.follows .mixedOrders = true
  f38 : P.funcs[38]? = some Try.f38
  f39 : P.funcs[39]? = some Try.f39
  f40 : P.funcs[40]? = some Try.f40
  e38 : ∀ args w, (callFunc 38 args).run P w = .ok (.enter 38 args) w
  e39 : ∀ args w, (callFunc 39 args).run P w = .ok (.enter 39 args) w
  e40 : ∀ args w, (callFunc 40 args).run P w = .ok (.enter 40 args) w
  t0 : P.underlying 0 = some (TypeDesc.tuple #[])
  a0 : ∀ w, (isAgg 0).run P w = .ok false w
  z0 : ∀ w, (Go.sizeOf 0).run P w = .ok 1 w
  t3 : P.underlying 3 = some (TypeDesc.int IntKind.i64)
  a3 : ∀ w, (isAgg 3).run P w = .ok false w
  z3 : ∀ w, (Go.sizeOf 3).run P w = .ok 1 w
  t4 : P.underlying 4 = some (TypeDesc.bool)
  a4 : ∀ w, (isAgg 4).run P w = .ok false w
  z4 : ∀ w, (Go.sizeOf 4).run P w = .ok 1 w
  t32 : P.underlying 32 = some (TypeDesc.slice 40)
  a32 : ∀ w, (isAgg 32).run P w = .ok false w
  z32 : ∀ w, (Go.sizeOf 32).run P w = .ok 1 w
  a55 : ∀ w, (isAgg 55).run P w = .ok false w
  z55 : ∀ w, (Go.sizeOf 55).run P w = .ok 1 w
  t71 : P.underlying 71 = some (TypeDesc.int IntKind.u64)
  a71 : ∀ w, (isAgg 71).run P w = .ok false w
  z71 : ∀ w, (Go.sizeOf 71).run P w = .ok 1 w
  aE : ∀ w, (isAgg 40).run P w = .ok true w
  zE : ∀ w, (Go.sizeOf 40).run P w = .ok k w
theorem laySort : LaySort Try.prog 6 where
  mixed := by kernel_rfl
  f38 := Try.func38
  f39 := Try.func39
  f40 := Try.func40
  e38 := enters_of Try.func38 (by kernel_rfl) rfl
  e39 := enters_of Try.func39 (by kernel_rfl) rfl
  e40 := enters_of Try.func40 (by kernel_rfl) rfl
  t0 := by kernel_rfl
  a0 := fun _ => by kernel_rfl
  z0 := fun _ => by kernel_rfl
  t3 := by kernel_rfl
  a3 := fun _ => by kernel_rfl
  z3 := fun _ => by kernel_rfl
  t4 := by kernel_rfl
  a4 := fun _ => by kernel_rfl
  z4 := fun _ => by kernel_rfl
  t32 := by kernel_rfl
  a32 := fun _ => by kernel_rfl
  z32 := fun _ => by kernel_rfl
  a55 := fun _ => by kernel_rfl
  z55 := fun _ => by kernel_rfl
  t71 := by kernel_rfl
  a71 := fun _ => by kernel_rfl
  z71 := fun _ => by kernel_rfl
  aE := Try.isAgg40
  zE := Try.sizeOf40
variable {P : Program} {k : Nat} {α : Type} [Inhabited α] {enc : α → List Value}
set_option maxHeartbeats 4000000 in
set_option maxRecDepth 1000000 in
theorem swapRange_any (L : LaySort P k) (blk off cap a b n : Nat) (d0 d : Array α) (w0 w : World) (v : Value) (R : RowK enc k w0 blk off d0) (hs : d0.size = d.size) (S : SWK enc k w0 blk off d w) (hab : a + n ≤ b) (hb : b + n ≤ d.size) (hsz : d.size < 1000000) :
    Calls P 40 #[.slice (some ⟨blk, off, none⟩) d.size cap, .int .i64 a, .int .i64 b, .int .i64 n, v] w fun e w' => e = .returned (.tuple #[]) ∧ ∃ d', SwN a b n d d' ∧ SWK enc k w0 blk off d' w' := by
  have mixed := L.mixed; have t0 := L.t0; have a0 := L.a0; have z0 := L.z0; have t3 := L.t3; have a3 := L.a3; have z3 := L.z3; have t4 := L.t4; have a4 := L.a4; have z4 := L.z4; have t32 := L.t32; have a32 := L.a32; have z32 := L.z32; have aE := L.aE; have zE := L.zE
  have FG := L.f40
  have S0 : Aside (SWK enc k w0 blk off d w) := S
  clear S
  go_enter FG, Try.ntmps40
  go_wp2
  go_loopg [10] n (fun kx s10 wr => ∃ (i : Nat) (dk : Array α), s10 = .int .i64 i ∧ i ≤ n ∧ n - i ≤ kx ∧ Aside (SwN a b i d dk) ∧ Aside (SWK enc k w0 blk off dk wr))
  case atStart => exact ⟨0, d, rfl, Nat.zero_le _, by omega, (SwN.start a b d : Aside (SwN a b 0 d d)), S0⟩
  case round =>
    clear S0
    obtain ⟨i, dk, rfl, hin, hkx, H, S1⟩ := hrel
    have hds : dk.size = d.size := H.out.perm.1
    by_cases hlt : i < n
    · have hltz : decide ((i : Int) < (n : Int)) = true := decide_eq_true (by omega)
      have eA : ((a : Int) + (i : Int)).toNat = a + i := by omega
      have pA : (0 : Int) ≤ (a : Int) + (i : Int) := by omega
      have bA : (a : Int) + (i : Int) < (d.size : Int) := by omega
      have rA : IntKind.i64.wrap ((a : Int) + (i : Int)) = (a : Int) + (i : Int) := by rw [IntKind.wrap_i64]; omega
      have eB : ((b : Int) + (i : Int)).toNat = b + i := by omega
      have pB : (0 : Int) ≤ (b : Int) + (i : Int) := by omega
      have bB : (b : Int) + (i : Int) < (d.size : Int) := by omega
      have rB : IntKind.i64.wrap ((b : Int) + (i : Int)) = (b : Int) + (i : Int) := by rw [IntKind.wrap_i64]; omega
      have S2 : Aside (SWK enc k w0 blk off (swp dk (a + i) (b + i)) ((wr.drew.setCells blk (off + (a + i) * k) (enc dk[b + i]!)).setCells blk (off + (b + i) * k) (enc dk[a + i]!))) := S1.out.swapped R (a + i) (b + i) (by omega) (by omega)
      have la := S1.out.ld1 R (by omega) P (a + i) (by omega)
      have lb := S1.out.ld1 R (by omega) P (b + i) (by omega)
      have sa := S1.out.st1 R (by omega) P (a + i) (by omega) dk[b + i]!
      have sb := S1.out.st2 R (by omega) P (a + i) (b + i) (by omega) (by omega) dk[b + i]! dk[a + i]!
      have na : (enc dk[a + i]!).length = k := R.hk _
      have nb : (enc dk[b + i]!).length = k := R.hk _
      generalize enc dk[a + i]! = cI at S2 la sb na
      generalize enc dk[b + i]! = cJ at S2 lb sa sb nb
      clear S1
      go_wp2_with fail
      go_big_region_o
      clear la lb sa sb
      generalize (wr.drew.setCells blk (off + (a + i) * k) cJ).setCells blk (off + (b + i) * k) cI = w2 at S2 ⊢
      go_wp2
      go_roundg (n - (i + 1))
      case measure => omega
      case rel => exact ⟨i + 1, swp dk (a + i) (b + i), by go_num, by omega, Nat.le_refl _, (H.out.step (by omega) (by omega) : Aside (SwN a b (i + 1) d _)), S2⟩
    · have hltz : decide ((i : Int) < (n : Int)) = false := decide_eq_false (by omega)
      obtain rfl : i = n := by omega
      go_wp2
      go_end0
      exact ⟨rfl, dk, H.out, S1.out⟩
set_option maxHeartbeats 4000000 in
set_option maxRecDepth 1000000 in
theorem rotate_any (L : LaySort P k) (blk off cap a m b : Nat) (d0 d : Array α) (w0 w : World) (v : Value) (R : RowK enc k w0 blk off d0) (hs : d0.size = d.size) (S : SWK enc k w0 blk off d w) (ham : a < m) (hmb : m < b) (hb : b ≤ d.size) (hsz : d.size < 1000000) :
    Calls P 39 #[.slice (some ⟨blk, off, none⟩) d.size cap, .int .i64 a, .int .i64 m, .int .i64 b, v] w fun e w' => e = .returned (.tuple #[]) ∧ ∃ d', Rot a m b d d' ∧ SWK enc k w0 blk off d' w' := by
  have mixed := L.mixed; have t0 := L.t0; have a0 := L.a0; have z0 := L.z0; have t3 := L.t3; have a3 := L.a3; have z3 := L.z3; have t4 := L.t4; have a4 := L.a4; have z4 := L.z4; have t32 := L.t32; have a32 := L.a32; have z32 := L.z32
  have FG := L.f39
  have e40 := L.e40
  have S0 : Aside (SWK enc k w0 blk off d w) := S
  have HL : Aside (LaySort P k) := L
  have r1 : IntKind.i64.wrap ((m : Int) - (a : Int)) = (m : Int) - (a : Int) := by rw [IntKind.wrap_i64]; omega
  have r2 : IntKind.i64.wrap ((b : Int) - (m : Int)) = (b : Int) - (m : Int) := by rw [IntKind.wrap_i64]; omega
  clear S L
  go_enter FG, Try.ntmps39
  go_wp2
  go_loopg [10, 11] (b - a) (fun kx s10 s11 wr => ∃ (i j : Nat) (dk : Array α), s10 = .int .i64 i ∧ s11 = .int .i64 j ∧ 0 < i ∧ 0 < j ∧ a ≤ m - i ∧ i ≤ m ∧ m + j ≤ b ∧ i + j ≤ kx ∧ Aside (RotI a m b i j d dk) ∧ Aside (SWK enc k w0 blk off dk wr))
  case atStart => exact ⟨m - a, b - m, d, by congr 1; omega, by congr 1; omega, by omega, by omega, by omega, by omega, by omega, by omega, (RotI.start a m b d (by omega) (by omega) : Aside (RotI a m b (m - a) (b - m) d d)), S0⟩
  case round =>
    clear S0
    obtain ⟨i, j, dk, rfl, rfl, hi0, hj0, hai, him, hmj, hkx, H, S1⟩ := hrel
    have hds : dk.size = d.size := H.out.perm.1
    have r3 : IntKind.i64.wrap ((m : Int) - (i : Int)) = (m : Int) - (i : Int) := by rw [IntKind.wrap_i64]; omega
    have r4 : IntKind.i64.wrap ((m : Int) + (j : Int)) = (m : Int) + (j : Int) := by rw [IntKind.wrap_i64]; omega
    have r5 : IntKind.i64.wrap ((m : Int) + (j : Int) - (i : Int)) = (m : Int) + (j : Int) - (i : Int) := by rw [IntKind.wrap_i64]; omega
    have r6 : IntKind.i64.wrap ((i : Int) - (j : Int)) = (i : Int) - (j : Int) := by rw [IntKind.wrap_i64]; omega
    have r7 : IntKind.i64.wrap ((j : Int) - (i : Int)) = (j : Int) - (i : Int) := by rw [IntKind.wrap_i64]; omega
    by_cases heq : i = j
    · subst heq
      have hc : ((i : Int) != (i : Int)) = false := by simp
      have hcall : Aside (Calls P 40 #[.slice (some ⟨blk, off, none⟩) d.size cap, .int .i64 ((m : Int) - (i : Int)), .int .i64 m, .int .i64 i, v] wr fun e w' => e = .returned (.tuple #[]) ∧ ∃ d', SwN (m - i) m i dk d' ∧ SWK enc k w0 blk off d' w') := by
        have := swapRange_any HL.out blk off cap (m - i) m i d0 dk w0 wr v R (by omega) S1.out (by omega) (by omega) (by omega)
        rw [hds, show ((m - i : Nat) : Int) = (m : Int) - (i : Int) by omega] at this
        exact this
      go_wp2_with (go_at_call 40; refine Calls.mono hcall.out ?_; rintro e w' ⟨rfl, dn, hw, hS⟩)
      go_end0
      exact ⟨rfl, dn, H.out.done hai him hmj ⟨by omega, by omega⟩ hb hw, hS⟩
    · have hc : ((i : Int) != (j : Int)) = true := by simp; omega
      by_cases hgt : j < i
      · have hc2 : decide ((j : Int) < (i : Int)) = true := decide_eq_true (by omega)
        have hcall : Aside (Calls P 40 #[.slice (some ⟨blk, off, none⟩) d.size cap, .int .i64 ((m : Int) - (i : Int)), .int .i64 m, .int .i64 j, v] wr fun e w' => e = .returned (.tuple #[]) ∧ ∃ d', SwN (m - i) m j dk d' ∧ SWK enc k w0 blk off d' w') := by
          have := swapRange_any HL.out blk off cap (m - i) m j d0 dk w0 wr v R (by omega) S1.out (by omega) (by omega) (by omega)
          rw [hds, show ((m - i : Nat) : Int) = (m : Int) - (i : Int) by omega] at this
          exact this
        go_wp2_with (go_at_call 40; refine Calls.mono hcall.out ?_; rintro e w' ⟨rfl, dn, hw, hS⟩; have HW : Aside _ := hw; have HS : Aside _ := hS; clear hw hS)
        go_roundg (i - j + j)
        case measure => omega
        case rel => exact ⟨i - j, j, dn, by congr 1; omega, rfl, by omega, by omega, by omega, by omega, by omega, by omega, (H.out.gt hgt hai him hmj hb HW.out : Aside (RotI a m b (i - j) j d dn)), HS⟩
      · have hc2 : decide ((j : Int) < (i : Int)) = false := decide_eq_false (by omega)
        have hcall : Aside (Calls P 40 #[.slice (some ⟨blk, off, none⟩) d.size cap, .int .i64 ((m : Int) - (i : Int)), .int .i64 ((m : Int) + (j : Int) - (i : Int)), .int .i64 i, v] wr fun e w' => e = .returned (.tuple #[]) ∧ ∃ d', SwN (m - i) (m + j - i) i dk d' ∧ SWK enc k w0 blk off d' w') := by
          have := swapRange_any HL.out blk off cap (m - i) (m + j - i) i d0 dk w0 wr v R (by omega) S1.out (by omega) (by omega) (by omega)
          rw [hds, show ((m - i : Nat) : Int) = (m : Int) - (i : Int) by omega, show ((m + j - i : Nat) : Int) = (m : Int) + (j : Int) - (i : Int) by omega] at this
          exact this
        go_wp2_with (go_at_call 40; refine Calls.mono hcall.out ?_; rintro e w' ⟨rfl, dn, hw, hS⟩; have HW : Aside _ := hw; have HS : Aside _ := hS; clear hw hS)
        go_roundg (i + (j - i))
        case measure => omega
        case rel => exact ⟨i, j - i, dn, rfl, by congr 1; omega, by omega, by omega, by omega, by omega, by omega, by omega, (H.out.lt (by omega) hai him hmj hb HW.out : Aside (RotI a m b i (j - i) d dn)), HS⟩
end Go.Proofs.Ytidojompkihboaa.X
