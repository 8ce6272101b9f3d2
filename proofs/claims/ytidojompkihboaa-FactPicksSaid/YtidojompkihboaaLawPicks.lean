/- FactPicks: what is picked of each mark, put together, is all, and what is picked is a cube: for every list of facts and every entity. -/
import Derived.Test.YtidojompkihboaaRows
import Derived.Test.YtidojompkihboaaPicks
import Derived.WalkKit
import Derived.ProofKit
import Derived.OpenShut
import Derived.ShutString
import Derived.ChangeOld
import Derived.Below
import Derived.SizedLaws
import Derived.Test.YtidojompkihboaaWSized
import Derived.Test.YtidojompkihboaaOpen
namespace Go.Proofs.Ytidojompkihboaa.X
open Go.RowKit Go.Shelf Go.Sort Go.Proofs.YtidojompkihboaaW.PrintWords Go.Proofs.YtidojompkihboaaW.PrintLast Go.Proofs.YtidojompkihboaaW.PrintMore
set_option linter.unusedVariables false
set_option linter.unusedSimpArgs false
set_option maxHeartbeats 2000000 in
set_option maxRecDepth 1000000 in
theorem picks_few (l : List S27) (A0 : Option Addr) (c0 : Nat) (s : ByteArray) (w : World) (hC : Kd.C k27 w A0 l.length l) (hc0 : l.length ≤ c0) (kf : Nat) (hf : comptrollerlaw09_Few.f kf l = some false) :
    Calls Try.prog 4 #[.slice A0 l.length c0, .string s] w fun e w' => e = .returned (.bool true) ∧ Below w.heap.size w w' := by
  have HC := Aside0.mk hC
  have HF := Aside0.mk hf
  clear hC hf
  go_enter Try.func4, Try.ntmps4
  go_wp2_with (first
    | (go_at_call 6; refine (comptrollerlaw09_alive.calls true _ rfl).mono ?_; rintro e w1 ⟨rfl, hb⟩; have HB1 := Aside0.mk hb; clear hb)
    | (go_at_call 7; refine (comptrollerlaw09_Few.calls kf A0 c0 l false _ (Kd.C_below HC.out HB1.out) hc0 HF.out).mono ?_; rintro e w2 ⟨rfl, hb⟩; have HB2 := Aside0.mk (HB1.out.trans (hb.mono HB1.out.size)); clear hb))
  go_ret
  exact ⟨rfl, HB2.out⟩
set_option maxHeartbeats 2000000 in
set_option maxRecDepth 1000000 in
theorem picks_small (l : List S27) (A0 : Option Addr) (c0 : Nat) (s : ByteArray) (w : World) (hC : Kd.C k27 w A0 l.length l) (hc0 : l.length ≤ c0) (kf ks : Nat) (hf : comptrollerlaw09_Few.f kf l = some true) (hsm : comptrollerlaw09_small.f ks l = some false) :
    Calls Try.prog 4 #[.slice A0 l.length c0, .string s] w fun e w' => e = .returned (.bool true) ∧ Below w.heap.size w w' := by
  have HC := Aside0.mk hC
  have HF := Aside0.mk hf
  have HSM := Aside0.mk hsm
  clear hC hf hsm
  go_enter Try.func4, Try.ntmps4
  go_wp2_with (first
    | (go_at_call 6; refine (comptrollerlaw09_alive.calls true _ rfl).mono ?_; rintro e w1 ⟨rfl, hb⟩; have HB1 := Aside0.mk hb; clear hb)
    | (go_at_call 7; refine (comptrollerlaw09_Few.calls kf A0 c0 l true _ (Kd.C_below HC.out HB1.out) hc0 HF.out).mono ?_; rintro e w2 ⟨rfl, hb⟩; have HB2 := Aside0.mk (HB1.out.trans (hb.mono HB1.out.size)); clear hb)
    | (go_at_call 9; refine (comptrollerlaw09_small.calls ks A0 c0 l false _ (Kd.C_below HC.out HB2.out) hc0 HSM.out).mono ?_; rintro e w3 ⟨rfl, hb⟩; have HB3 := Aside0.mk (HB2.out.trans (hb.mono HB2.out.size)); clear hb))
  go_ret
  exact ⟨rfl, HB3.out⟩
set_option maxHeartbeats 2000000 in
set_option maxRecDepth 1000000 in
theorem picks_long (l : List S27) (A0 : Option Addr) (c0 : Nat) (s : ByteArray) (w : World) (hC : Kd.C k27 w A0 l.length l) (hc0 : l.length ≤ c0) (kf ks : Nat) (hf : comptrollerlaw09_Few.f kf l = some true) (hsm : comptrollerlaw09_small.f ks l = some true) (hs : 40 < s.size) :
    Calls Try.prog 4 #[.slice A0 l.length c0, .string s] w fun e w' => e = .returned (.bool true) ∧ Below w.heap.size w w' := by
  have HC := Aside0.mk hC
  have HF := Aside0.mk hf
  have HSM := Aside0.mk hsm
  have hlong : decide (40 < (s.size : Int)) = true := decide_eq_true (by omega)
  clear hC hf hsm
  go_enter Try.func4, Try.ntmps4
  go_wp2_with (first
    | (go_at_call 6; refine (comptrollerlaw09_alive.calls true _ rfl).mono ?_; rintro e w1 ⟨rfl, hb⟩; have HB1 := Aside0.mk hb; clear hb)
    | (go_at_call 7; refine (comptrollerlaw09_Few.calls kf A0 c0 l true _ (Kd.C_below HC.out HB1.out) hc0 HF.out).mono ?_; rintro e w2 ⟨rfl, hb⟩; have HB2 := Aside0.mk (HB1.out.trans (hb.mono HB1.out.size)); clear hb)
    | (go_at_call 9; refine (comptrollerlaw09_small.calls ks A0 c0 l true _ (Kd.C_below HC.out HB2.out) hc0 HSM.out).mono ?_; rintro e w3 ⟨rfl, hb⟩; have HB3 := Aside0.mk (HB2.out.trans (hb.mono HB2.out.size)); clear hb))
  go_ret
  exact ⟨rfl, HB3.out⟩
theorem picks_any (l : List S27) (A0 : Option Addr) (c0 : Nat) (s : ByteArray) (w : World) (hC : Kd.C k27 w A0 l.length l) (hc0 : l.length ≤ c0) (hwf : ∀ x ∈ l, (Lit.int .i64 x.f0.f4).wf = true) :
    Calls Try.prog 4 #[.slice A0 l.length c0, .string s] w fun e w' => e = .returned (.bool true) ∧ Below w.heap.size w w' := by
  obtain ⟨r, hr, h150⟩ := few_tot l hC.2.1 (l.length + 1) (by omega)
  cases r with
  | false => exact picks_few l A0 c0 s w hC hc0 _ hr
  | true =>
    obtain ⟨r2, hr2, hsm⟩ := small_tot l (by have := h150 rfl; omega) (l.length + 1) (by omega)
    cases r2 with
    | false => exact picks_small l A0 c0 s w hC hc0 _ _ hr hr2
    | true =>
      by_cases hs : s.size ≤ 40
      · exact picks_main l A0 c0 s w hC hc0 hwf _ _ hr hr2 (h150 rfl) (theirs_abs l (h150 rfl) (hsm rfl)) hs
      · exact picks_long l A0 c0 s w hC hc0 _ _ hr hr2 (by omega)
end Go.Proofs.Ytidojompkihboaa.X
namespace Go.Proofs.Ytidojompkihboaa.factPicks
open Go.ChangeShapes Go.WideShapes Go.ChangeAt Go.RowKit
open Go.ChangeMaps (open_string shut_string)
open Go.Proofs.YtidojompkihboaaW
theorem own : ownKnob Try.prog.godebug = none := by kernel_rfl
theorem laidOut : laidOutB Try.prog = true := by kernel_rfl
set_option maxRecDepth 100000 in
theorem lifted (os : Os) (started : os.Started) (H : Type) (enc : TypeId × Value → H) :
    ReturnsInHanded {} Try.checked os 4 .any (Rows.factPicksSpec.pre6 enc Try.prog Try.f4 Rows.factPicksRow.domain false) (Rows.factPicksSpec.post enc Try.prog Try.f4 false true false false) := by
  refine returnsInHanded_of_change_sized (C := Try.checked) own started (by kernel_rfl) Try.func4
    (ChangeSpec.witness6 (enc := enc) (C := Try.checked) false ⟨#[], #[.slice none 0 0, .string ByteArray.empty], []⟩ 8 (by kernel_rfl) (by kernel_rfl) (by kernel_rfl) (by kernel_rfl)) ?_
  intro W base args ds gs before hval0 hW hcnd hsz0 _
  have hval : ∀ (j : Nat) t v, Try.f4.params[j]? = some t → args[j]? = some v → Value.okWide Try.prog W .any base t v := hval0
  have hW' := hW
  obtain ⟨p, q, hA0, hV, rfl, hfz, hnd⟩ := hW
  have hA : DataW.TrodAll enc Try.prog W 0 (fun _ => true) true Try.f4.params.toList args.toList ds p := hA0
  rw [Try.params4] at hA hval
  obtain ⟨v0, vs0, d0, ds0, p0, q0, hargs, rfl, rfl, h0, r0⟩ := trodAll_cons hA
  obtain ⟨v1, vs1, d1, ds1, p1, q1, rfl, rfl, rfl, h1, r1⟩ := trodAll_cons r0
  obtain ⟨rfl, rfl, rfl⟩ := trodAll_nil r1
  obtain rfl : args = #[v0, v1] := by cases args; simp_all
  obtain ⟨rfl, rfl⟩ := trodVars_none hV
  obtain ⟨a0, len0, cap0, rfl⟩ := okWide_slice Try.underlying28 (hval 0 28 v0 rfl rfl)
  obtain ⟨l, rfl, hcap, hC, hwf⟩ := X.open_facts h0
  have lt0 : ∀ x ∈ p0, x.block < W.heap.size := by obtain ⟨m, hm⟩ := h0; exact DataW.trod_lt m _ _ _ hm
  obtain ⟨a1, rfl, rfl, rfl, y1⟩ := open_string Try.underlying9 (hval 1 9 v1 rfl rfl) h1
  clear hA0 hval0 hsz0
  refine (X.picks_any l a0 cap0 a1 W hC hcap hwf).mono fun e W' ⟨he, bel⟩ => ?_
  subst he
  exact ⟨_, rfl, _, _, _, [], _, [], hW', trodAll_mk1 (shut_bool Try.underlying4 _), (trodAll_cons_mk (Below.trod laidOut (by kernel_rfl) (of_decide_eq_true (by kernel_rfl)) h0 bel lt0) (trodAll_cons_mk (shut_string Try.underlying9 y1) trodAll_mk0)), rfl, bel.frame _, fun h => by cases h⟩
theorem over : Rows.factPicksRow.holds Try.pinned (OpenSpec.ofChange Rows.factPicksSpec) :=
  OpenClaim.holds_of_wide 4 Try.f4 rfl rfl rfl rfl rfl rfl rfl ⟨rfl, rfl, rfl, rfl, rfl⟩ rfl rfl rfl rfl rfl (by kernel_rfl) Try.func4 (by kernel_rfl)
    (of_decide_eq_true (by kernel_rfl)) (by unfold Func.isWrapper; first | (rw [if_pos (by decide +kernel)]; kernel_rfl) | (rw [if_neg (by decide +kernel)]; exact ⟨rfl, rfl⟩))
    (fun os started H enc _ => lifted os started H enc)
theorem proved : Rows.FactPicksSaid := over
#print axioms proved
end Go.Proofs.Ytidojompkihboaa.factPicks
