/- LexNames, walked, where the text is a name: the line, the new byte, the new text. -/
import Derived.Test.YtidojompkihboaaDoorXx0
import Derived.Test.YtidojompkihboaaDoorXx2
import Derived.Test.YtidojompkihboaaDoorLines
import Derived.Test.YtidojompkihboaaDoorName
import Derived.Test.YtidojompkihboaaDoorNamesPure
namespace Go.Proofs.YtidojompkihboaaDoor.X
open Go.RowKit Go.Proofs.YtidojompkihboaaDoorW.PrintWords Go.Proofs.YtidojompkihboaaDoorW.PrintLast Go.Proofs.YtidojompkihboaaDoorW.PrintMore
attribute [local go_sem] max2_int min2_int max_two min_two max_three min_three max_four min_four   -- for this text's walks alone
set_option linter.unusedVariables false
set_option linter.unusedSimpArgs false

def comptrollerlaw05_LexNames.T9 : Bool × List (List Nat × List Nat) := (true, [([], []), ([], []), ([0, 1], [0, 1]), ([], []), ([3], [3]), ([4], [4]), ([2, 5], [2, 5]), ([], []), ([], []), ([7, 8], [7, 8]), ([6, 9], [6, 9]), ([10, 0, 1, 2, 3, 4, 5, 6, 7, 8, 9, 10], [10])])
def comptrollerlaw05_LexNames.B9 : List Nat := [0, 0, 3, 0, 8, 24, 63, 0, 0, 384, 1023, 2047]
theorem comptrollerlaw05_LexNames.tab9 : rtab .any (opsOf Tryd.f4 9) = comptrollerlaw05_LexNames.T9 := by kernel_rfl
theorem comptrollerlaw05_LexNames.bits9 : waitsOk comptrollerlaw05_LexNames.T9.2 comptrollerlaw05_LexNames.B9 = true := by kernel_rfl
set_option maxHeartbeats 8000000 in
set_option maxRecDepth 100000 in
theorem names_calls (k : Nat) (a0 : ByteArray) (a1 a2 : Int) (t199 : List S42) (ji23 : Int) (y206 : List Int) (t209 : Bool) (w : World)
    (hal : comptrollerlaw05_alive.f k = some true) (c8 : ¬ (a0.size : Int) > 3000) (hnm : lex_Name.f a0 = some true) (hln : lex_Lines.f a0 = some (t199, 0))
    (c14 : (t199.length : Int) = 1) (c15 : 0 < (t199.length : Int)) (c16 : (((rd_T42 t199 0).f1).length : Int) = 1) (c17 : 0 < (((rd_T42 t199 0).f1).length : Int)) (c18 : (rdOf ByteArray.empty ((rd_T42 t199 0).f1) 0).toList = a0.toList)
    (c19 : ¬ (a0.size : Int) > 12) (c22 : ¬ (wrap64 ((a0.size : Int) + 1)) = 0) (hji23 : (Int.tmod (wrap64 (a1)) (wrap64 ((a0.size : Int) + 1))) = ji23) (c24 : 0 ≤ (ji23)) (c25 : (ji23) ≤ (a0.size : Int)) (hy206 : y206 = (([a2] : List Int)))
    (c26 : (a0.extract 0 ((ji23) : Int).toNat).size + (strOfNums y206).size ≤ 9223372036854775807) (c29 : ((a0.extract 0 ((ji23) : Int).toNat) ++ (strOfNums y206)).size + (a0.extract ((ji23) : Int).toNat a0.size).size ≤ 9223372036854775807)
    (hnm2 : lex_Name.f (((a0.extract 0 ((ji23) : Int).toNat) ++ (strOfNums y206)) ++ (a0.extract ((ji23) : Int).toNat a0.size)) = some t209)
    (hfin : t209 = (rightB ji23 a2 && decide (((((a0.extract 0 ((ji23) : Int).toNat) ++ (strOfNums y206)) ++ (a0.extract ((ji23) : Int).toNat a0.size)).size : Int) ≤ 12))) :
    Calls Tryd.prog 4 #[.string a0, .int .u8 a1, .int .u8 a2] w fun e w' => e = .returned (.bool true) ∧ Below w.heap.size w w' := by
  have HB := Aside0.mk (Below.refl w.heap.size w)
  have A4 := Aside0.mk hal
  have A9 := Aside0.mk hnm
  have A12 := Aside0.mk hln
  have A32 := Aside0.mk hnm2
  have Ny206 := Aside0.mk hy206
  have HF := Aside0.mk hfin
  clear hal hnm hln hnm2 hy206 hfin
  have c8b0 : decide (3000 < (a0.size : Int)) = false := decide_eq_false c8
  have c8b1 : decide (3000 < a0.size) = false := decide_eq_false (by omega)
  have c14b0 : ((t199.length : Int) == 1) = true := beq_iff_eq.mpr c14
  have c14b1 : ((t199.length : Int) != 1) = false := bne_eq_false_iff_eq.mpr c14
  have c15b0 : decide (0 < (t199.length : Int)) = true := decide_eq_true c15
  have c15b1 : decide (0 < t199.length) = true := decide_eq_true (by omega)
  have c16b0 : ((((rd_T42 t199 0).f1).length : Int) == 1) = true := beq_iff_eq.mpr c16
  have c16b1 : ((((rd_T42 t199 0).f1).length : Int) != 1) = false := bne_eq_false_iff_eq.mpr c16
  have c17b0 : decide (0 < (((rd_T42 t199 0).f1).length : Int)) = true := decide_eq_true c17
  have c17b1 : decide (0 < ((rd_T42 t199 0).f1).length) = true := decide_eq_true (by omega)
  have c18b0 : ((rdOf ByteArray.empty ((rd_T42 t199 0).f1) 0).toList == a0.toList) = true := beq_iff_eq.mpr c18
  have c18b1 : ((rdOf ByteArray.empty ((rd_T42 t199 0).f1) 0).toList != a0.toList) = false := bne_eq_false_iff_eq.mpr c18
  have c19b0 : decide (12 < (a0.size : Int)) = false := decide_eq_false c19
  have c19b1 : decide (12 < a0.size) = false := decide_eq_false (by omega)
  have c22b0 : ((wrap64 ((a0.size : Int) + 1)) == 0) = false := beq_eq_false_iff_ne.mpr c22
  have c22b1 : ((wrap64 ((a0.size : Int) + 1)) != 0) = true := bne_iff_ne.mpr c22
  have c24b0 := eq_true c24
  have c24b1 : decide (0 ≤ (ji23)) = true := decide_eq_true c24
  have c25b0 := eq_true c25
  have c25b1 : decide ((ji23) ≤ (a0.size : Int)) = true := decide_eq_true c25
  have c26b0 := eq_true c26
  have c26b1 : decide ((a0.extract 0 ((ji23) : Int).toNat).size + (strOfNums y206).size ≤ 9223372036854775807) = true := decide_eq_true c26
  have c26b2 : (9223372036854775807 < (a0.extract 0 ((ji23) : Int).toNat).size + (strOfNums y206).size) = False := eq_false (Nat.not_lt.2 c26)
  have c29b0 := eq_true c29
  have c29b1 : decide (((a0.extract 0 ((ji23) : Int).toNat) ++ (strOfNums y206)).size + (a0.extract ((ji23) : Int).toNat a0.size).size ≤ 9223372036854775807) = true := decide_eq_true c29
  have c29b2 : (9223372036854775807 < ((a0.extract 0 ((ji23) : Int).toNat) ++ (strOfNums y206)).size + (a0.extract ((ji23) : Int).toNat a0.size).size) = False := eq_false (Nat.not_lt.2 c29)
  have hex_ : (a0.extract 0 (ji23 : Int).toNat).size = ji23.toNat := by rw [ByteArray.size_extract]; omega
  have hex2_ : (a0.extract (ji23 : Int).toNat a0.size).size = a0.size - ji23.toNat := by rw [ByteArray.size_extract]; omega
  have c26b3 : (9223372036854775807 < ji23.toNat + (strOfNums y206).size) = False := eq_false (Nat.not_lt.2 (by rw [hex_] at c26; exact c26))
  have c29b3 : (9223372036854775807 < ji23.toNat + (strOfNums y206).size + (a0.size - ji23.toNat)) = False := eq_false (Nat.not_lt.2 (by rw [ByteArray.size_append, hex_, hex2_] at c29; exact c29))
  have HSZ := Aside0.mk (show (((((a0.extract 0 ((ji23) : Int).toNat) ++ (strOfNums y206)) ++ (a0.extract ((ji23) : Int).toNat a0.size)).size : Nat) : Int) = max ji23 0 + ((strOfNums y206).size : Int) + ((a0.size - ji23.toNat : Nat) : Int) from by rw [ByteArray.size_append, ByteArray.size_append, hex_, hex2_]; omega)
  clear hex_ hex2_
  clear c8 c14 c15 c16 c17 c18 c19 c22 c24 c25 c26 c29
  go_enter Tryd.func4, Tryd.ntmps4
  go_upto_region 3 with (first | ((with_reducible refine gate_callee (f := 8) rfl ?_); refine goesL_ (some 12) rfl rfl Tryd.func8 (by kernel_rfl) rfl #[] rfl (by (try simp only [List.map_toArray, List.map_cons, List.map_nil]); first | done | rfl | (simp only [List.length_drop, List.length_take]; rfl)) ?_; (with_reducible refine (comptrollerlaw05_alive.calls k  true _ A4.out).mono ?_); rintro e w7 ⟨rfl, hb⟩; refine ⟨_, rfl, ?_⟩; have n0_ := Aside0.mk (below_step (by repeat (first | (with_reducible first | exact HB.out | apply below_alloc | apply pw_below_drewN | apply below_drew1) | exact HB.out)) hb); clear HB; have HB := n0_; clear n0_; (try clear hb); (try clear hb2); (try clear hk); (try clear hi)))
  (try simp only [Act.put, List.setIfInBounds_toArray, List.set_cons_zero, List.set_cons_succ])
  (first | rw [c8b0] | (simp only [i64_w, i32_w]; rw [c8b0]) | skip)
  go_wp2_with (first | (go_at_call 14; (with_reducible refine (lex_Name.calls a0 true _ A9.out).mono ?_); rintro e w10 ⟨rfl, hb⟩; have n0_ := Aside0.mk (below_step (by repeat (first | (with_reducible first | exact HB.out | apply below_alloc | apply pw_below_drewN | apply below_drew1) | exact HB.out)) hb); clear HB; have HB := n0_; clear n0_; (try clear hb); (try clear hb2); (try clear hk); (try clear hi)) | (go_at_call 10; (with_reducible refine (lex_Lines.calls a0 t199 0 _ A12.out).mono ?_); rintro e w33 ⟨v201, rfl, ho0, hb⟩; have n0_ := Aside0.mk (Kd.S_lower ho0 (below_size (by repeat (first | (with_reducible first | exact HB.out | apply below_alloc | apply pw_below_drewN | apply below_drew1) | exact HB.out)))); have n1_ := Aside0.mk (below_step (by repeat (first | (with_reducible first | exact HB.out | apply below_alloc | apply pw_below_drewN | apply below_drew1) | exact HB.out)) hb); clear HB; have HO202 := n0_; have HB := n1_; clear n0_ n1_; (try clear hb); (try clear hb2); (try clear hk); (try clear hi); (try clear ho0); obtain ⟨Ao34, co34, eo34⟩ := Kd.S_slice HO202.out; subst eo34; have p203 : 0 ≤ (0 : Int) := (by omega); have q203 : 0 < (t199.length : Int) := of_decide_eq_true (by first | (with_reducible assumption) | assumption); obtain ⟨ad203, A203_1, c203_1, e203, hx203_0, hx203_1, hl203_1, hi203_1⟩ := at_T42 (Kd.S_reads' HO202.out).2.2 0 p203 q203; cases e203; obtain ⟨ce203, hce203, hMe203, hcc203⟩ := Kd.S_get HO202.out z42 0 p203 (by first | exact q203 | exact of_decide_eq_true (by first | (with_reducible assumption) | assumption) | (have e_ := (Kd.S_reads' HO202.out).1; omega)); obtain ⟨ve203_1, rfl, ge203_1⟩ := k42_openM hMe203; have hv203_1 := hcc203 1 _ rfl; rw [add_field _ _ 1 (by omega)] at hv203_1; replace hv203_1 := Option.some.inj (hv203_1.symm.trans hx203_1); rw [hv203_1] at ge203_1; have HL203_1 := Aside0.mk (show Kd.R Kd.string 9 _ _ _ _ ((rd_T42 t199 0).f1) from ge203_1); clear hv203_1 ge203_1; clear hcc203 hce203; have qi203 : (0 < t199.length) = True := eq_true (by omega); (try rw [show ((0 : Int)).toNat = 0 from rfl] at hx203_0); (try rw [show 0 * 2 = 0 from rfl] at hx203_0); (try rw [Addr.add_zero'] at hx203_0); (try rw [show ((0 : Int)).toNat = 0 from rfl] at hx203_1); (try rw [show 0 * 2 = 0 from rfl] at hx203_1); (try rw [Addr.add_zero'] at hx203_1); have HR203_1 := Aside0.mk hi203_1; have HC203_1 := Aside0.mk hl203_1; clear hi203_1 hl203_1; replace p203 := eq_true p203; replace q203 := eq_true q203; have p204 : 0 ≤ (0 : Int) := (by omega); have q204 : 0 < (t199.length : Int) := of_decide_eq_true (by first | (with_reducible assumption) | assumption); obtain ⟨ad204, A204_1, c204_1, e204, hx204_0, hx204_1, hl204_1, hi204_1⟩ := at_T42 (Kd.S_reads' HO202.out).2.2 0 p204 q204; obtain rfl : ad203 = ad204 := (by injection e204); obtain ⟨ce204, hce204, hMe204, hcc204⟩ := Kd.S_get HO202.out z42 0 p204 (by first | exact q204 | exact of_decide_eq_true (by first | (with_reducible assumption) | assumption) | (have e_ := (Kd.S_reads' HO202.out).1; omega)); obtain ⟨ve204_1, rfl, ge204_1⟩ := k42_openM hMe204; have hv204_1 := hcc204 1 _ rfl; rw [add_field _ _ 1 (by omega)] at hv204_1; replace hv204_1 := Option.some.inj (hv204_1.symm.trans hx204_1); rw [hv204_1] at ge204_1; have HL204_1 := Aside0.mk (show Kd.R Kd.string 9 _ _ _ _ ((rd_T42 t199 0).f1) from ge204_1); clear hv204_1 ge204_1; clear hcc204 hce204; have qi204 : (0 < t199.length) = True := eq_true (by omega); (try rw [show ((0 : Int)).toNat = 0 from rfl] at hx204_0); (try rw [show 0 * 2 = 0 from rfl] at hx204_0); (try rw [Addr.add_zero'] at hx204_0); (try rw [show ((0 : Int)).toNat = 0 from rfl] at hx204_1); (try rw [show 0 * 2 = 0 from rfl] at hx204_1); (try rw [Addr.add_zero'] at hx204_1); have HR204_1 := Aside0.mk hi204_1; have HC204_1 := Aside0.mk hl204_1; clear hi204_1 hl204_1; replace p204 := eq_true p204; replace q204 := eq_true q204; have ea_ := Option.some.inj (hx203_1.symm.trans hx204_1); injection ea_ with ea_ en_ ec_; subst ea_; subst ec_; clear en_; have p205 : 0 ≤ (0 : Int) := (by omega); have q205 : 0 < (((rd_T42 t199 0).f1).length : Int) := of_decide_eq_true (by first | (with_reducible assumption) | assumption); obtain ⟨ad205, e205, hx205_0⟩ := Kd.at_string (by repeat (first | (with_reducible exact HR204_1.out) | (with_reducible refine Kd.C_alloc ?_ _) | (with_reducible refine Kd.C_drewN ?_ _) | (with_reducible refine Kd.C_drew ?_) | exact HR204_1.out)) 0 p205 q205; cases e205; have qi205 : (0 < ((rd_T42 t199 0).f1).length) = True := eq_true (by omega); (try rw [show ((0 : Int)).toNat = 0 from rfl] at hx205_0); (try rw [Addr.add_zero'] at hx205_0); replace p205 := eq_true p205; replace q205 := eq_true q205) | ((with_reducible refine gate_callee (f := 10) rfl ?_); refine goesL_ (some 24) rfl rfl Tryd.func10 (by kernel_rfl) rfl #[.string a0] rfl (by (try simp only [List.map_toArray, List.map_cons, List.map_nil]); first | done | rfl | (simp only [List.length_drop, List.length_take]; rfl)) ?_; (with_reducible refine (lex_Lines.calls a0 t199 0 _ A12.out).mono ?_); rintro e w33 ⟨v201, rfl, ho0, hb⟩; refine ⟨_, rfl, ?_⟩; have n0_ := Aside0.mk (Kd.S_lower ho0 (below_size (by repeat (first | (with_reducible first | exact HB.out | apply below_alloc | apply pw_below_drewN | apply below_drew1) | exact HB.out)))); have n1_ := Aside0.mk (below_step (by repeat (first | (with_reducible first | exact HB.out | apply below_alloc | apply pw_below_drewN | apply below_drew1) | exact HB.out)) hb); clear HB; have HO202 := n0_; have HB := n1_; clear n0_ n1_; (try clear hb); (try clear hb2); (try clear hk); (try clear hi); (try clear ho0); obtain ⟨Ao34, co34, eo34⟩ := Kd.S_slice HO202.out; subst eo34; have p203 : 0 ≤ (0 : Int) := (by omega); have q203 : 0 < (t199.length : Int) := of_decide_eq_true (by first | (with_reducible assumption) | assumption); obtain ⟨ad203, A203_1, c203_1, e203, hx203_0, hx203_1, hl203_1, hi203_1⟩ := at_T42 (Kd.S_reads' HO202.out).2.2 0 p203 q203; cases e203; obtain ⟨ce203, hce203, hMe203, hcc203⟩ := Kd.S_get HO202.out z42 0 p203 (by first | exact q203 | exact of_decide_eq_true (by first | (with_reducible assumption) | assumption) | (have e_ := (Kd.S_reads' HO202.out).1; omega)); obtain ⟨ve203_1, rfl, ge203_1⟩ := k42_openM hMe203; have hv203_1 := hcc203 1 _ rfl; rw [add_field _ _ 1 (by omega)] at hv203_1; replace hv203_1 := Option.some.inj (hv203_1.symm.trans hx203_1); rw [hv203_1] at ge203_1; have HL203_1 := Aside0.mk (show Kd.R Kd.string 9 _ _ _ _ ((rd_T42 t199 0).f1) from ge203_1); clear hv203_1 ge203_1; clear hcc203 hce203; have qi203 : (0 < t199.length) = True := eq_true (by omega); (try rw [show ((0 : Int)).toNat = 0 from rfl] at hx203_0); (try rw [show 0 * 2 = 0 from rfl] at hx203_0); (try rw [Addr.add_zero'] at hx203_0); (try rw [show ((0 : Int)).toNat = 0 from rfl] at hx203_1); (try rw [show 0 * 2 = 0 from rfl] at hx203_1); (try rw [Addr.add_zero'] at hx203_1); have HR203_1 := Aside0.mk hi203_1; have HC203_1 := Aside0.mk hl203_1; clear hi203_1 hl203_1; replace p203 := eq_true p203; replace q203 := eq_true q203; have p204 : 0 ≤ (0 : Int) := (by omega); have q204 : 0 < (t199.length : Int) := of_decide_eq_true (by first | (with_reducible assumption) | assumption); obtain ⟨ad204, A204_1, c204_1, e204, hx204_0, hx204_1, hl204_1, hi204_1⟩ := at_T42 (Kd.S_reads' HO202.out).2.2 0 p204 q204; obtain rfl : ad203 = ad204 := (by injection e204); obtain ⟨ce204, hce204, hMe204, hcc204⟩ := Kd.S_get HO202.out z42 0 p204 (by first | exact q204 | exact of_decide_eq_true (by first | (with_reducible assumption) | assumption) | (have e_ := (Kd.S_reads' HO202.out).1; omega)); obtain ⟨ve204_1, rfl, ge204_1⟩ := k42_openM hMe204; have hv204_1 := hcc204 1 _ rfl; rw [add_field _ _ 1 (by omega)] at hv204_1; replace hv204_1 := Option.some.inj (hv204_1.symm.trans hx204_1); rw [hv204_1] at ge204_1; have HL204_1 := Aside0.mk (show Kd.R Kd.string 9 _ _ _ _ ((rd_T42 t199 0).f1) from ge204_1); clear hv204_1 ge204_1; clear hcc204 hce204; have qi204 : (0 < t199.length) = True := eq_true (by omega); (try rw [show ((0 : Int)).toNat = 0 from rfl] at hx204_0); (try rw [show 0 * 2 = 0 from rfl] at hx204_0); (try rw [Addr.add_zero'] at hx204_0); (try rw [show ((0 : Int)).toNat = 0 from rfl] at hx204_1); (try rw [show 0 * 2 = 0 from rfl] at hx204_1); (try rw [Addr.add_zero'] at hx204_1); have HR204_1 := Aside0.mk hi204_1; have HC204_1 := Aside0.mk hl204_1; clear hi204_1 hl204_1; replace p204 := eq_true p204; replace q204 := eq_true q204; have ea_ := Option.some.inj (hx203_1.symm.trans hx204_1); injection ea_ with ea_ en_ ec_; subst ea_; subst ec_; clear en_; have p205 : 0 ≤ (0 : Int) := (by omega); have q205 : 0 < (((rd_T42 t199 0).f1).length : Int) := of_decide_eq_true (by first | (with_reducible assumption) | assumption); obtain ⟨ad205, e205, hx205_0⟩ := Kd.at_string (by repeat (first | (with_reducible exact HR204_1.out) | (with_reducible refine Kd.C_alloc ?_ _) | (with_reducible refine Kd.C_drewN ?_ _) | (with_reducible refine Kd.C_drew ?_) | exact HR204_1.out)) 0 p205 q205; cases e205; have qi205 : (0 < ((rd_T42 t199 0).f1).length) = True := eq_true (by omega); (try rw [show ((0 : Int)).toNat = 0 from rfl] at hx205_0); (try rw [Addr.add_zero'] at hx205_0); replace p205 := eq_true p205; replace q205 := eq_true q205))
  · rename_i h_; exact absurd h_ (bne_iff_ne.mp c22b1)
  have n0_ := Aside0.mk (Kd.S_drew HO202.out)
  have n1_ := Aside0.mk (Kd.R_drew HL203_1.out)
  have n2_ := Aside0.mk (Kd.R_drew HL204_1.out)
  have n3_ := Aside0.mk (Kd.C_drew HR203_1.out)
  have n4_ := Aside0.mk (Kd.C_drew HR204_1.out)
  have n5_ := Aside0.mk (below_drew1 HB.out)
  clear HO202
  clear HL203_1
  clear HL204_1
  clear HR203_1
  clear HR204_1
  clear HB
  have HO202 := n0_
  have HL203_1 := n1_
  have HL204_1 := n2_
  have HR203_1 := n3_
  have HR204_1 := n4_
  have HB := n5_
  clear n0_ n1_ n2_ n3_ n4_ n5_
  refine start_ (n := 12) (S := fun w' => True) (ds := []) #[false, false, false, false, false, false, false, false, false, false, false, false] (by kernel_rfl) rfl rfl trivial (fun hHeld => ?_); refine with_tabW comptrollerlaw05_LexNames.tab9 comptrollerlaw05_LexNames.bits9 (fun HT_ HW_ => ?_)
  generalize w33.drew = w35 at HO202 HL203_1 HL204_1 HR203_1 HR204_1 HB hHeld ⊢
  refine pure_ (i := 0) (N := some 63) (v := ?_) (a' := ?_) #[true, false, false, false, false, false, false, false, false, false, false, false] rfl rfl (any_of HT_.out (by kernel_rfl)) (fun _ _ _ h => h) (Or.inl ⟨by rfl, ?_⟩) ?_ ?_
  rotate_left
  · intro w'
    go_simp
    with_reducible rfl
  rotate_left
  · simp only [Act.put, List.setIfInBounds_toArray, List.set_cons_zero, List.set_cons_succ, i64_w, i32_w]
    rfl
  refine pure_ (i := 1) (N := some 64) (v := ?_) (a' := ?_) #[true, true, false, false, false, false, false, false, false, false, false, false] rfl rfl (any_of HT_.out (by kernel_rfl)) (fun _ _ _ h => h) (Or.inl ⟨by rfl, ?_⟩) ?_ ?_
  rotate_left
  · intro w'
    go_simp
    with_reducible rfl
  rotate_left
  · simp only [Act.put, List.setIfInBounds_toArray, List.set_cons_zero, List.set_cons_succ, i64_w, i32_w]
    rfl
  refine pure_ (i := 2) (N := some 65) (v := ?_) (a' := ?_) #[true, true, true, false, false, false, false, false, false, false, false, false] rfl rfl (any_of HT_.out (by kernel_rfl)) (fun _ _ _ h => h) (Or.inl ⟨by rfl, ?_⟩) ?_ ?_
  rotate_left
  · intro w'
    go_simp
    with_reducible rfl
  rotate_left
  · simp only [Act.put, List.setIfInBounds_toArray, List.set_cons_zero, List.set_cons_succ, i64_w, i32_w]
    rfl
  refine pure_ (i := 3) (N := some 66) (v := ?_) (a' := ?_) #[true, true, true, true, false, false, false, false, false, false, false, false] rfl rfl (any_of HT_.out (by kernel_rfl)) (fun _ _ _ h => h) (Or.inl ⟨by rfl, ?_⟩) ?_ ?_
  rotate_left
  · intro w'
    go_simp
    with_reducible rfl
  rotate_left
  · simp only [Act.put, List.setIfInBounds_toArray, List.set_cons_zero, List.set_cons_succ, i64_w, i32_w]
    rfl
  refine pure_ (i := 7) (N := some 70) (v := ?_) (a' := ?_) #[true, true, true, true, false, false, false, true, false, false, false, false] rfl rfl (any_of HT_.out (by kernel_rfl)) (fun _ _ _ h => h) (Or.inl ⟨by rfl, ?_⟩) ?_ ?_
  rotate_left
  · intro w'
    go_simp
    with_reducible rfl
  rotate_left
  · simp only [Act.put, List.setIfInBounds_toArray, List.set_cons_zero, List.set_cons_succ, i64_w, i32_w]
    rfl
  refine pure_ (i := 8) (N := some 71) (v := ?_) (a' := ?_) #[true, true, true, true, false, false, false, true, true, false, false, false] rfl rfl (any_of HT_.out (by kernel_rfl)) (fun _ _ _ h => h) (Or.inl ⟨by rfl, ?_⟩) ?_ ?_
  rotate_left
  · intro w'
    go_simp
    with_reducible rfl
  rotate_left
  · simp only [Act.put, List.setIfInBounds_toArray, List.set_cons_zero, List.set_cons_succ, i64_w, i32_w]
    rfl
  refine pure_ (i := 9) (N := some 72) (v := ?_) (a' := ?_) #[true, true, true, true, false, false, false, true, true, true, false, false] rfl rfl (any_of HT_.out (by kernel_rfl)) (fun _ _ _ h => h) (Or.inl ⟨by rfl, ?_⟩) ?_ ?_
  rotate_left
  · intro w'
    go_simp
    with_reducible rfl
  rotate_left
  · simp only [Act.put, List.setIfInBounds_toArray, List.set_cons_zero, List.set_cons_succ, i64_w, i32_w]
    rfl
  refine one_ (i := 4) (N := some 67) #[true, true, true, true, true, false, false, true, true, true, false, false] rfl rfl (one_of HT_.out (by kernel_rfl)) (by decide) (fun K hK => ?_)
  refine Kd.R_lit_step (Kd.int .u8) _ 5 ?hg (N := 67) ?hd (xs := ([a2] : List Int)) (inner := [.int .u8 a2]) (ok := fun _ => True) (okp := fun _ => True) ?hr ?hp (fun _ hk => hk) trivial (Below.refl _ _) (Nat.le_refl _) (by simp) ?_; (case hd => rfl); (case hg => rfl); (case hr => first | (go_simp; done) | (go_simp; rfl)); (case hp => exact (Reps.one (show Kd.M (Kd.int .u8) _ _ _ a2 [.int .u8 a2] from rfl) (Reps.none _ _)))
  intro v207 w36 ho37 hb hg_ hnew_
  clear hg_ hnew_
  (first | rw [← Ny206.out] at ho37 | (simp only [Int.reduceToNat] at ho37; rw [← Ny206.out] at ho37))
  have n0_ := Aside0.mk (Kd.S_below (by (with_reducible repeat (first | apply Kd.S_alloc | apply Kd.S_drewN | apply Kd.S_drew)); exact HO202.out) hb)
  have n1_ := Aside0.mk (Kd.R_below (by (with_reducible repeat (first | apply Kd.R_alloc | apply Kd.R_drewN | apply Kd.R_drew)); exact HL203_1.out) hb)
  have n2_ := Aside0.mk (Kd.R_below (by (with_reducible repeat (first | apply Kd.R_alloc | apply Kd.R_drewN | apply Kd.R_drew)); exact HL204_1.out) hb)
  have n3_ := Aside0.mk (Kd.R_lower ho37 (below_size (by repeat (first | (with_reducible first | exact HB.out | apply below_alloc | apply pw_below_drewN | apply below_drew1) | exact HB.out))))
  have n4_ := Aside0.mk (Kd.C_below (by repeat (first | (with_reducible exact HR203_1.out) | (with_reducible refine Kd.C_alloc ?_ _) | (with_reducible refine Kd.C_drewN ?_ _) | (with_reducible refine Kd.C_drew ?_) | exact HR203_1.out)) hb)
  have n5_ := Aside0.mk (Kd.C_below (by repeat (first | (with_reducible exact HR204_1.out) | (with_reducible refine Kd.C_alloc ?_ _) | (with_reducible refine Kd.C_drewN ?_ _) | (with_reducible refine Kd.C_drew ?_) | exact HR204_1.out)) hb)
  have n6_ := Aside0.mk (below_step (by repeat (first | (with_reducible first | exact HB.out | apply below_alloc | apply pw_below_drewN | apply below_drew1) | exact HB.out)) hb)
  clear HO202
  clear HL203_1
  clear HL204_1
  clear HR203_1
  clear HR204_1
  clear HB
  have HO202 := n0_
  have HL203_1 := n1_
  have HL204_1 := n2_
  have HO208 := n3_
  have HR203_1 := n4_
  have HR204_1 := n5_
  have HB := n6_
  clear n0_ n1_ n2_ n3_ n4_ n5_ n6_
  clear hb ho37
  refine hK.out _ _ trivial (fun hHeld => ?_)
  clear hK K
  refine norm_ (a' := ?_) ?_ ?_
  rotate_left
  · show Act.put _ (some 67) _ = _
    simp only [Act.put, List.setIfInBounds_toArray, List.set_cons_zero, List.set_cons_succ, i64_w, i32_w]
    rfl
  refine one_ (i := 5) (N := some 68) #[true, true, true, true, true, true, false, true, true, true, false, false] rfl rfl (one_of HT_.out (by kernel_rfl)) (by decide) (fun K hK => ?_)
  have hcv38 := own_string (P := Tryd.prog) Tryd.underlying43 Tryd.underlying5 Tryd.underlying9 (Kd.own_of_R HO208.out)
  refine value_ (w1 := ?_) (v := ?_) (by rfl) rfl ?_ ?_
  rotate_left 2
  · go_simp
    constructor
    · rfl
    · rfl
  clear hcv38
  refine hK.out _ _ trivial (fun hHeld => ?_)
  clear hK K
  refine norm_ (a' := ?_) ?_ ?_
  rotate_left
  · show Act.put _ (some 68) _ = _
    simp only [Act.put, List.setIfInBounds_toArray, List.set_cons_zero, List.set_cons_succ, i64_w, i32_w]
    rfl
  refine pure_ (i := 6) (N := some 69) (v := ?_) (a' := ?_) #[true, true, true, true, true, true, true, true, true, true, false, false] rfl rfl (any_of HT_.out (by kernel_rfl)) (fun _ _ _ h => h) (Or.inl ⟨by rfl, ?_⟩) ?_ ?_
  rotate_left
  · intro w'
    go_simp
    with_reducible rfl
  rotate_left
  · simp only [Act.put, List.setIfInBounds_toArray, List.set_cons_zero, List.set_cons_succ, i64_w, i32_w]
    rfl
  refine pure_ (i := 10) (N := some 73) (v := ?_) (a' := ?_) #[true, true, true, true, true, true, true, true, true, true, true, false] rfl rfl (any_of HT_.out (by kernel_rfl)) (fun _ _ _ h => h) (Or.inl ⟨by rfl, ?_⟩) ?_ ?_
  rotate_left
  · intro w'
    go_simp
    with_reducible rfl
  rotate_left
  · simp only [Act.put, List.setIfInBounds_toArray, List.set_cons_zero, List.set_cons_succ, i64_w, i32_w]
    rfl
  refine pure_ (i := 11) (N := some 10) (v := ?_) (a' := ?_) #[true, true, true, true, true, true, true, true, true, true, true, true] rfl rfl (any_of HT_.out (by kernel_rfl)) (fun _ _ _ h => h) (Or.inl ⟨by rfl, ?_⟩) ?_ ?_
  rotate_left
  · intro w'
    go_simp
    with_reducible rfl
  rotate_left
  · simp only [Act.put, List.setIfInBounds_toArray, List.set_cons_zero, List.set_cons_succ, i64_w, i32_w]
    rfl
  refine done_ (done_of HT_.out (by kernel_rfl)) ?_
  go_wp2_with (first | (go_at_call 14; refine (lex_Name.calls _ t209 _ A32.out).mono ?_; rintro e w39 ⟨rfl, hb⟩) | ((with_reducible refine gate_callee (f := 14) rfl ?_); refine goesL_ (some 113) rfl rfl Tryd.func14 (by kernel_rfl) rfl #[.string (((a0.extract 0 ((ji23) : Int).toNat) ++ (strOfNums y206)) ++ (a0.extract ((ji23) : Int).toNat a0.size))] rfl (by (try simp only [List.map_toArray, List.map_cons, List.map_nil]); first | done | rfl) ?_; refine (lex_Name.calls _ t209 _ A32.out).mono ?_; rintro e w39 ⟨rfl, hb⟩; refine ⟨_, rfl, ?_⟩))
  all_goals go_ret
  all_goals refine ⟨ret_bool ?_, HB.out.trans (hb.mono HB.out.size)⟩
  all_goals rw [HF.out]
  all_goals try rw [HSZ.out]
  all_goals first
    | (rw [show rightB ji23 a2 = true from decide_eq_true (by omega)]; simp; done)
    | (rw [show rightB ji23 a2 = false from decide_eq_false (by omega)]; simp; done)
    | (trace_state; exact (0 : Nat))
end Go.Proofs.YtidojompkihboaaDoor.X
