/- LexRemarks, walked. -/
import Derived.Test.YtidojompkihboaaDoorXx2
import Derived.Test.YtidojompkihboaaDoorXx1
import Derived.Test.YtidojompkihboaaDoorLines
import Derived.Test.YtidojompkihboaaDoorName
namespace Go.Proofs.YtidojompkihboaaDoor.X
open Go.RowKit Go.Proofs.YtidojompkihboaaDoorW.PrintWords Go.Proofs.YtidojompkihboaaDoorW.PrintLast Go.Proofs.YtidojompkihboaaDoorW.PrintMore
set_option linter.unusedVariables false
def goodR (l : List Int) (n : Int) : Prop := ∀ j, 0 ≤ j → j < n → 32 ≤ rd l j ∧ rd l j ≤ 126
def goodS (l : List Int) (n : Int) : Prop := ∀ j, 0 ≤ j → j < n → rd l j ≠ 35 ∧ 32 ≤ rd l j ∧ rd l j ≤ 126
theorem goodR.up {l : List Int} {i : Int} (h : goodR l i) (h1 : ¬ rd l i < 32) (h2 : ¬ 126 < rd l i) : goodR l (i + 1) := by
  intro j hj hji
  by_cases e : j = i
  · subst e; omega
  · exact h j hj (by omega)
theorem goodS.up {l : List Int} {i : Int} (h : goodS l i) (h0 : ¬ rd l i = 35) (h1 : ¬ rd l i < 32) (h2 : ¬ 126 < rd l i) : goodS l (i + 1) := by
  intro j hj hji
  by_cases e : j = i
  · subst e; omega
  · exact h j hj (by omega)
structure RemFin (k : Nat) (s rem : ByteArray) (la lc : List S42) (o : List S49) : Prop where
  a : lex_Lines.f s = some (la, 0)
  b : lex_Lines.f ((s ++ (⟨#[35]⟩ : ByteArray)) ++ rem) = some (la, 0)
  c : lex_Lines.f (((⟨#[35]⟩ : ByteArray) ++ rem) ++ (⟨#[10]⟩ : ByteArray) ++ s) = some (lc, 0)
  ours : comptrollerlaw05_Ours.f k la = some o
  same : comptrollerref05_Same.f k o o = some true
  len : lc.length = la.length
  first : 0 < la.length → (rd_T42 lc 0).f0 = 2 ∧ (rd_T42 la 0).f0 = 1
set_option maxHeartbeats 4000000 in
set_option maxRecDepth 100000 in
theorem remarks_main (k : Nat) (s rem : ByteArray) (la lc : List S42) (o : List S49) (w : World) (hal : comptrollerlaw05_alive.f k = some true) (hs : s.size ≤ 3000) (hr : rem.size ≤ 100)
    (hfin : goodR (bytesOf rem) rem.size → goodS (bytesOf s) s.size → RemFin k s rem la lc o) :
    Calls Tryd.prog 7 #[.string s, .string rem] w fun e w' => e = .returned (.bool true) ∧ Below w.heap.size w w' := by
  have A4 := Aside0.mk hal
  have HF := Aside0.mk hfin
  clear hal hfin
  have c1 : decide (3000 < (s.size : Int)) = false := decide_eq_false (by omega)
  have c2 : decide (100 < (rem.size : Int)) = false := decide_eq_false (by omega)
  have kb := fun (x : ByteArray) W => print_bytes (P := Tryd.prog) 9 43 5 Tryd.underlying9 Tryd.underlying43 Tryd.underlying5 x W
  go_enter Tryd.func7, Tryd.ntmps7
  go_wp2_with (go_at_call 8; refine (comptrollerlaw05_alive.calls k true _ A4.out).mono ?_; rintro e w7 ⟨rfl, hb⟩)
  have hR1 : Aside0 (ReadsInt (Lib.bytesWorld w7 5 rem) .u8 (some ⟨w7.heap.size, 0, none⟩) rem.size (bytesOf rem)) := ⟨bytes_reads w7 5 rem (by omega)⟩
  have HB1 := Aside0.mk (bytes_below hb hb.size 5 rem)
  clear hb
  generalize Lib.bytesWorld w7 5 rem = W1 at hR1 HB1 ⊢
  generalize (some (⟨w7.heap.size, 0, none⟩ : Addr)) = A1 at hR1 ⊢
  generalize grownCap w7 rem.size 0 5 = cap1
  go_loop [6, 28] (fun _ k => ∃ i : Int, 0 ≤ i ∧ i ≤ rem.size ∧ k = .int .i64 i ∧ Aside0 (goodR (bytesOf rem) i)) (fun _ k => rem.size - (intOf k).toNat)
  case atStart => exact ⟨0, by omega, by omega, rfl, ⟨fun j h1 h2 => by omega⟩⟩
  case round =>
    obtain ⟨i, h0, h1, rfl, hi⟩ := hrel
    by_cases hlt : i < (rem.size : Int)
    · obtain ⟨ad, rfl, hc⟩ := hR1.out.at_ i h0 hlt
      by_cases g1 : rd (bytesOf rem) i < 32
      · go_wp2
        go_ret
        exact ⟨rfl, HB1.out⟩
      · by_cases g2 : 126 < rd (bytesOf rem) i
        · go_wp2
          go_ret
          exact ⟨rfl, HB1.out⟩
        · have HG := Aside0.mk (hi.out.up g1 g2)
          go_wp2
          go_round
          case rel => exact ⟨i + 1, by omega, by omega, rfl, HG⟩
          case measure => simp [intOf]; omega
    · have HG1 := Aside0.mk (show goodR (bytesOf rem) rem.size from by have := hi.out; rwa [show i = (rem.size : Int) from by omega] at this)
      clear hi
      go_wp2
      clear hlt h0 h1
      have hR2 : Aside0 (ReadsInt (Lib.bytesWorld W1 5 s) .u8 (some ⟨W1.heap.size, 0, none⟩) s.size (bytesOf s)) := ⟨bytes_reads W1 5 s (by omega)⟩
      have HB2 := Aside0.mk (bytes_below HB1.out HB1.out.size 5 s)
      clear HB1 hR1
      generalize Lib.bytesWorld W1 5 s = W2 at hR2 HB2 ⊢
      generalize (some (⟨W1.heap.size, 0, none⟩ : Addr)) = A2 at hR2 ⊢
      generalize grownCap W1 s.size 0 5 = cap2
      go_loop [8, 42] (fun _ k => ∃ i : Int, 0 ≤ i ∧ i ≤ s.size ∧ k = .int .i64 i ∧ Aside0 (goodS (bytesOf s) i)) (fun _ k => s.size - (intOf k).toNat)
      case atStart => exact ⟨0, by omega, by omega, rfl, ⟨fun j h1 h2 => by omega⟩⟩
      case round =>
        obtain ⟨i, h0, h1, rfl, hi⟩ := hrel
        by_cases hlt : i < (s.size : Int)
        · obtain ⟨ad, rfl, hc⟩ := hR2.out.at_ i h0 hlt
          by_cases g0 : rd (bytesOf s) i = 35
          · rw [g0] at hc
            go_wp2
            go_ret
            exact ⟨rfl, HB2.out⟩
          · have g0b : (rd (bytesOf s) i == 35) = false := beq_eq_false_iff_ne.mpr g0
            by_cases g1 : rd (bytesOf s) i < 32
            · go_wp2
              go_ret
              exact ⟨rfl, HB2.out⟩
            · by_cases g2 : 126 < rd (bytesOf s) i
              · go_wp2
                go_ret
                exact ⟨rfl, HB2.out⟩
              · have HG := Aside0.mk (hi.out.up g0 g1 g2)
                go_wp2
                go_round
                case rel => exact ⟨i + 1, by omega, by omega, rfl, HG⟩
                case measure => simp [intOf]; omega
        · have HG2 := Aside0.mk (show goodS (bytesOf s) s.size from by have := hi.out; rwa [show i = (s.size : Int) from by omega] at this)
          clear hi
          obtain ⟨fa, fb, fc, fo, fs, fl, ff⟩ := HF.out HG1.out HG2.out
          have FA := Aside0.mk fa
          have FB := Aside0.mk fb
          have FC := Aside0.mk fc
          have FO := Aside0.mk fo
          have FS := Aside0.mk fs
          have FF := Aside0.mk ff
          clear fa fb fc fo fs ff HF HG1 HG2
          have d1 : (9223372036854775807 < s.size + 1) = False := eq_false (by omega)
          have d2 : (9223372036854775807 < s.size + 1 + rem.size) = False := eq_false (by omega)
          have d3 : (9223372036854775807 < 1 + rem.size) = False := eq_false (by omega)
          have d4 : (9223372036854775807 < 1 + rem.size + 1) = False := eq_false (by omega)
          have d5 : (9223372036854775807 < 1 + rem.size + 1 + s.size) = False := eq_false (by omega)
          have l1 : ((lc.length : Int) != (la.length : Int)) = false := bne_eq_false_iff_eq.mpr (by omega)
          by_cases hz : la.length = 0
          · have hz1 : ((la.length : Int) == 0) = true := beq_iff_eq.mpr (by omega)
            clear hz
            go_wp2_with (first
              | (go_at_call 10; (with_reducible refine (lex_Lines.calls s la 0 _ FA.out).mono ?_); rintro e w1 ⟨va, rfl, hA, hb1⟩; obtain ⟨Aa, ca, rfl⟩ := Kd.S_slice hA; have HA := Aside0.mk hA; have HB3 := Aside0.mk (HB2.out.trans (hb1.mono HB2.out.size)); clear hA hb1)
              | (go_at_call 10; (with_reducible refine (lex_Lines.calls _ la 0 _ FB.out).mono ?_); rintro e w2 ⟨vb, rfl, hb, hb2⟩; obtain ⟨Ab, cb, rfl⟩ := Kd.S_slice hb; have HBB := Aside0.mk hb; have HA2 := Aside0.mk (Kd.S_below HA.out hb2); have HB4 := Aside0.mk (HB3.out.trans (hb2.mono HB3.out.size)); clear hb hb2)
              | (go_at_call 10; (with_reducible refine (lex_Lines.calls _ lc 0 _ FC.out).mono ?_); rintro e w3 ⟨vc, rfl, hc, hb3⟩; obtain ⟨Ac, cc, rfl⟩ := Kd.S_slice hc; have HC := Aside0.mk hc; have HA3 := Aside0.mk (Kd.S_below HA2.out hb3); have HBB3 := Aside0.mk (Kd.S_below HBB.out hb3); have HB5 := Aside0.mk (HB4.out.trans (hb3.mono HB4.out.size)); clear hc hb3)
              | (go_at_call 13; (with_reducible refine (comptrollerlaw05_Ours.calls k (fun _ => True) Aa ca la o _ (Kd.S_V HA3.out) FO.out).mono ?_); rintro e w4 ⟨vo, rfl, ho, hb4⟩; obtain ⟨Ao, co, rfl⟩ := Kd.N_slice ho; have HO1 := Aside0.mk ho; have HA4 := Aside0.mk (Kd.S_below HA3.out hb4); have HC4 := Aside0.mk (Kd.S_below HC.out hb4); have HBB4 := Aside0.mk (Kd.S_below HBB3.out hb4); have HB6 := Aside0.mk (HB5.out.trans (hb4.mono HB5.out.size)); clear ho hb4)
              | (go_at_call 13; (with_reducible refine (comptrollerlaw05_Ours.calls k (fun _ => True) Ab cb la o _ (Kd.S_V HBB4.out) FO.out).mono ?_); rintro e w5 ⟨vp, rfl, hp, hb5⟩; obtain ⟨Ap, cp, rfl⟩ := Kd.N_slice hp; have HO2 := Aside0.mk hp; have HO1' := Aside0.mk (Kd.N_below HO1.out hb5); have HA5 := Aside0.mk (Kd.S_below HA4.out hb5); have HC5 := Aside0.mk (Kd.S_below HC4.out hb5); have HB7 := Aside0.mk (HB6.out.trans (hb5.mono HB6.out.size)); clear hp hb5)
              | (go_at_call 12; (with_reducible refine (comptrollerref05_Same.calls k Ao co o Ap cp o true _ (Kd.N_reads' HO1'.out).2.2 (Kd.N_reads' HO1'.out).2.1 (Kd.N_reads' HO2.out).2.2 (Kd.N_reads' HO2.out).2.1 FS.out).mono ?_); rintro e w6 ⟨rfl, ⟨nd, rfl⟩⟩))
            go_ret
            exact ⟨rfl, HB7.out.trans (pw_below_drewN (Below.refl _ _) nd)⟩
          · have hz1 : ((la.length : Int) == 0) = false := beq_eq_false_iff_ne.mpr (by omega)
            have FF1 := Aside0.mk (FF.out (by omega)).1
            have FF2 := Aside0.mk (FF.out (by omega)).2
            have hq1 : (0 < (lc.length : Int)) = True := eq_true (by omega)
            have hq2 : (0 < (la.length : Int)) = True := eq_true (by omega)
            have hq3 : (0 < lc.length) = True := eq_true (by omega)
            have hq4 : (0 < la.length) = True := eq_true (by omega)
            clear FF
            go_wp2_with (first
              | (go_at_call 10; (with_reducible refine (lex_Lines.calls s la 0 _ FA.out).mono ?_); rintro e w1 ⟨va, rfl, hA, hb1⟩; obtain ⟨Aa, ca, rfl⟩ := Kd.S_slice hA; have HA := Aside0.mk hA; have HB3 := Aside0.mk (HB2.out.trans (hb1.mono HB2.out.size)); clear hA hb1)
              | (go_at_call 10; (with_reducible refine (lex_Lines.calls _ la 0 _ FB.out).mono ?_); rintro e w2 ⟨vb, rfl, hb, hb2⟩; obtain ⟨Ab, cb, rfl⟩ := Kd.S_slice hb; have HBB := Aside0.mk hb; have HA2 := Aside0.mk (Kd.S_below HA.out hb2); have HB4 := Aside0.mk (HB3.out.trans (hb2.mono HB3.out.size)); clear hb hb2)
              | (go_at_call 10; (with_reducible refine (lex_Lines.calls _ lc 0 _ FC.out).mono ?_); rintro e w3 ⟨vc, rfl, hc, hb3⟩; obtain ⟨Ac, cc, rfl⟩ := Kd.S_slice hc; have HC := Aside0.mk hc; have HA3 := Aside0.mk (Kd.S_below HA2.out hb3); have HBB3 := Aside0.mk (Kd.S_below HBB.out hb3); have HB5 := Aside0.mk (HB4.out.trans (hb3.mono HB4.out.size)); clear hc hb3)
              | (go_at_call 13; (with_reducible refine (comptrollerlaw05_Ours.calls k (fun _ => True) Aa ca la o _ (Kd.S_V HA3.out) FO.out).mono ?_); rintro e w4 ⟨vo, rfl, ho, hb4⟩; obtain ⟨Ao, co, rfl⟩ := Kd.N_slice ho; have HO1 := Aside0.mk ho; have HA4 := Aside0.mk (Kd.S_below HA3.out hb4); have HC4 := Aside0.mk (Kd.S_below HC.out hb4); have HBB4 := Aside0.mk (Kd.S_below HBB3.out hb4); have HB6 := Aside0.mk (HB5.out.trans (hb4.mono HB5.out.size)); clear ho hb4)
              | (go_at_call 13; (with_reducible refine (comptrollerlaw05_Ours.calls k (fun _ => True) Ab cb la o _ (Kd.S_V HBB4.out) FO.out).mono ?_); rintro e w5 ⟨vp, rfl, hp, hb5⟩; obtain ⟨Ap, cp, rfl⟩ := Kd.N_slice hp; have HO2 := Aside0.mk hp; have HO1' := Aside0.mk (Kd.N_below HO1.out hb5); have HA5 := Aside0.mk (Kd.S_below HA4.out hb5); have HC5 := Aside0.mk (Kd.S_below HC4.out hb5); have HB7 := Aside0.mk (HB6.out.trans (hb5.mono HB6.out.size)); clear hp hb5)
              | (go_at_call 12; (with_reducible refine (comptrollerref05_Same.calls k Ao co o Ap cp o true _ (Kd.N_reads' HO1'.out).2.2 (Kd.N_reads' HO1'.out).2.1 (Kd.N_reads' HO2.out).2.2 (Kd.N_reads' HO2.out).2.1 FS.out).mono ?_); rintro e w6 ⟨rfl, ⟨nd, rfl⟩⟩; obtain ⟨adc, Ac1, cc1, rfl, hc0, _, _, _⟩ := at_T42 (Kd.S_reads' (Kd.S_drewN HC5.out nd)).2.2 0 (by omega) (by omega); obtain ⟨ada, Aa1, ca1, rfl, ha0, _, _, _⟩ := at_T42 (Kd.S_reads' (Kd.S_drewN HA5.out nd)).2.2 0 (by omega) (by omega); rw [show (0 : Int).toNat * 2 = 0 from rfl, Addr.add_zero', FF1.out] at hc0; rw [show (0 : Int).toNat * 2 = 0 from rfl, Addr.add_zero', FF2.out] at ha0))
            go_ret
            exact ⟨rfl, HB7.out.trans (pw_below_drewN (Below.refl _ _) nd)⟩
end Go.Proofs.YtidojompkihboaaDoor.X
