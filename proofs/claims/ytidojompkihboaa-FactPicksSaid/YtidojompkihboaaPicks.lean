/- FactPicks: the walk: what is picked of each mark, put together, is all. -/
import Derived.Test.YtidojompkihboaaAlive
import Derived.Test.YtidojompkihboaaPlain
import Derived.Maps.RangeWalk
import Derived.Maps.OwnOps
import Derived.Maps.Views
import Derived.WalkArith
namespace Go.Proofs.Ytidojompkihboaa.X
open Go.RowKit Go.Shelf Go.Sort Go.Maps Go.Proofs.YtidojompkihboaaW.PrintWords Go.Proofs.YtidojompkihboaaW.PrintLast Go.Proofs.YtidojompkihboaaW.PrintMore
set_option linter.unusedVariables false
set_option linter.unusedSimpArgs false
theorem law3 : Keyed Try.prog 3 := int_keyed Try.underlying3
theorem zero3 (w : World) : (zeroValue 3).run Try.prog w = .ok (.int .i64 0) w := by kernel_rfl
/-- The keys of the map are the marks of the facts. -/
def MarksOf (D : DataW Unit) (l : List S40) : Prop := IsMap D ∧ ∀ m : Int, has D (.int .i64 m) = true ↔ ∃ x ∈ l, x.f0.f4 = m
theorem MarksOf.nil : MarksOf (.map []) [] := ⟨isMap_empty, fun m => ⟨(fun h => by cases h), (fun ⟨x, hx, _⟩ => absurd hx (by simp))⟩⟩
theorem MarksOf.snoc {D : DataW Unit} {l : List S40} (h : MarksOf D l) (x : S40) (d : DataW Unit) : MarksOf (D.put (.int .i64 x.f0.f4) d) (l ++ [x]) := by
  refine ⟨h.1.put _ _, fun m => ?_⟩
  by_cases e : m = x.f0.f4
  · rw [e, has_put_same h.1 (show WideAt.IsKeyLit (Lit.int .i64 x.f0.f4) from trivial)]
    exact ⟨fun _ => ⟨x, by simp, rfl⟩, fun _ => rfl⟩
  · rw [has_put_other (fun h => e (by injection h)), h.2 m]
    constructor
    · rintro ⟨y, hy, e2⟩; exact ⟨y, by simp [hy], e2⟩
    · rintro ⟨y, hy, e2⟩
      rcases List.mem_append.1 hy with hy | hy
      · exact ⟨y, hy, e2⟩
      · rw [List.mem_singleton.1 hy] at e2; exact absurd e2.symm e
theorem wf_wrap (z : Int) : (Lit.int .i64 (wrap64 z)).wf = true := Go.WalkArith.wf_i64 (by unfold wrap64; omega)
theorem same_int (a b : Int) : (Lit.int .i64 a).sameKey (.int .i64 b) = (a == b) := by
  by_cases h : a = b
  · subst h; simp [Lit.sameKey]
  · rw [sameKey_ne (fun e => h (by injection e)), beq_eq_false_iff_ne.mpr h]
theorem ours_any (q : List S40) (A : Option Addr) (cq : Nat) (W : World) (hC : Kd.C k40 W A q.length q) (hc : q.length ≤ cq) (hl : q.length ≤ 1000) :
    Calls Try.prog 16 #[.slice A q.length cq] W fun e w' => ∃ A' c', e = .returned (.slice A' q.length c') ∧ q.length ≤ c' ∧ (∀ W', Below w'.heap.size w' W' → Kd.C k27 W' A' q.length (q.map to27)) ∧ Below W.heap.size W w' := by
  refine (comptrollerlaw09_Ours.calls _ A cq q _ W hC hc (ours_f q (by omega) (q.length + 1) (by omega))).mono ?_
  rintro e w' ⟨v, rfl, hr, hb⟩
  obtain ⟨A', c', rfl⟩ := Kd.R_slice hr
  have h1 := (Kd.R_reads' hr).2.1
  have h2 : ∀ W', Below w'.heap.size w' W' → Kd.C k27 W' A' (q.map to27).length (q.map to27) := fun W' hW => Kd.C_below (Kd.R_reads' hr).2.2 hW
  rw [List.length_map] at h1 h2 ⊢
  exact ⟨A', c', rfl, h1, h2, hb⟩
theorem pick_any (q : List S40) (s : ByteArray) (m : Int) (A : Option Addr) (cq : Nat) (W : World) (hC : Kd.C k40 W A q.length q) (hc : q.length ≤ cq) (hl : q.length ≤ 1000) (p : List S40) (hp : p = q.filter (pickP s m)) :
    Calls Try.prog 12 #[.slice A q.length cq, .string s, .int .i64 m] W fun e w' => ∃ A' c', e = .returned (.slice A' p.length c') ∧ p.length ≤ c' ∧ (∀ W', Below w'.heap.size w' W' → Kd.C k40 W' A' p.length p) ∧ Below W.heap.size W w' := by
  refine (fact_Pick.calls _ A cq q s m p W hC hc (by rw [hp]; exact pick_f s m q (by omega) (q.length + 1) (by omega))).mono ?_
  rintro e w' ⟨v, rfl, hr, hb⟩
  obtain ⟨A', c', rfl⟩ := Kd.R_slice hr
  exact ⟨A', c', rfl, (Kd.R_reads' hr).2.1, fun W' hW => Kd.C_below (Kd.R_reads' hr).2.2 hW, hb⟩
theorem right_any (q : List S40) (A : Option Addr) (cq : Nat) (W : World) (hC : Kd.C k40 W A q.length q) (hc : q.length ≤ cq) (hl : q.length ≤ 1000) (hq : Canon q) :
    Calls Try.prog 14 #[.slice A q.length cq] W fun e w' => e = .returned (.bool true) ∧ Below W.heap.size W w' :=
  fact_Right.calls _ A cq q true W hC hc (right_f q hq hl (q.length + 11) (by omega))
theorem same_any (q : List S27) (n : Nat) (hq : q.length = n) (A B : Option Addr) (ca cb : Nat) (W : World) (h1 : Kd.C k27 W A n q) (hc1 : n ≤ ca) (h2 : Kd.C k27 W B n q) (hc2 : n ≤ cb) (hl : n ≤ 1000) :
    Calls Try.prog 15 #[.slice A n ca, .slice B n cb] W fun e w' => e = .returned (.bool true) ∧ Below W.heap.size W w' := by
  subst hq
  refine (comptrollerref09_Same.calls (q.length + 1) A ca q B cb q true W h1 hc1 h2 hc2 (same_f q (by omega) _ (by omega))).mono ?_
  rintro e w' ⟨rfl, nd, rfl⟩
  exact ⟨rfl, pw_below_drewN (Below.refl _ _) nd⟩
theorem add_rowsR (l0 l1 r : List S40) (A0 A1 : Option Addr) (c0 c1 : Nat) (w : World) (h0 : Kd.C k40 w A0 l0.length l0) (hc0 : l0.length ≤ c0) (h1 : Kd.C k40 w A1 l1.length l1) (hc1 : l1.length ≤ c1) (hn : l0.length + l1.length ≤ 1000) (ha : absL l0 + absL l1 < 4611686018427387904) (hr : ofL (l0 ++ l1) = r) :
    Calls Try.prog 13 #[.slice A0 l0.length c0, .slice A1 l1.length c1] w fun e w' => ∃ A' c', e = .returned (.tuple #[.slice A' r.length c', .int .i64 0]) ∧ Kd.R k40 40 w' w.heap.size (fun _ => True) (.slice A' r.length c') r ∧ Below w.heap.size w w' := by
  refine (add_rows l0 l1 A0 A1 c0 c1 w h0 hc0 h1 hc1 hn ha).mono ?_
  rintro e w' ⟨v, rfl, hR, hb⟩
  rw [hr] at hR
  obtain ⟨A', c', rfl⟩ := Kd.R_slice hR
  exact ⟨A', c', rfl, hR, hb⟩
/-- What has been put together so far: the facts of the entity whose marks are no longer to come. -/
def doneP (s : ByteArray) (left : Lit → Bool) (x : S40) : Bool := anyB s x.f0.f0 && !left (.int .i64 x.f0.f4)
theorem done_start (s : ByteArray) (D : DataW Unit) (c : List S40) (h : MarksOf D c) : ([] : List S40) = c.filter (doneP s (has D)) := by
  symm
  rw [List.filter_eq_nil_iff]
  intro x hx
  have := (h.2 x.f0.f4).2 ⟨x, hx, rfl⟩
  unfold doneP
  rw [this]; simp
theorem done_step (s : ByteArray) (left : Lit → Bool) (c : List S40) (m : Int) (hm : ¬ m < 0) (hl : left (.int .i64 m) = true) (hc : Canon c) :
    ofL (c.filter (doneP s left) ++ c.filter (pickP s m)) = c.filter (doneP s fun z => left z && !z.sameKey (.int .i64 m)) ∧
    (c.filter (doneP s fun z => left z && !z.sameKey (.int .i64 m))).length = (c.filter (doneP s left)).length + (c.filter (pickP s m)).length := by
  have hd : ∀ x ∈ c, ¬ (doneP s left x = true ∧ pickP s m x = true) := by
    rintro x _ ⟨h1, h2⟩
    unfold doneP at h1
    unfold pickP at h2
    rw [decide_eq_false hm] at h2
    simp only [Bool.and_eq_true, Bool.false_or, beq_iff_eq] at h1 h2
    rw [h2.2, hl] at h1
    simp at h1
  have he : (c.filter fun x => doneP s left x || pickP s m x) = c.filter (doneP s fun z => left z && !z.sameKey (.int .i64 m)) := by
    congr 1
    funext x
    unfold doneP pickP
    rw [decide_eq_false hm]
    show _ = (anyB s x.f0.f0 && !(left (.int .i64 x.f0.f4) && !(Lit.int .i64 x.f0.f4).sameKey (.int .i64 m)))
    rw [same_int]
    cases anyB s x.f0.f0 <;> cases left (.int .i64 x.f0.f4) <;> cases (x.f0.f4 == m) <;> rfl
  rw [← he]
  exact ⟨of_parts c hc _ _ hd, (len_split _ _ c hd).symm⟩
theorem done_end (s : ByteArray) (left : Lit → Bool) (c : List S40) (h : ∀ z, left z = false) : c.filter (doneP s left) = c.filter (pickP s (-1)) := by
  congr 1
  funext x
  unfold doneP pickP
  rw [h, decide_eq_true (show (-1 : Int) < 0 by omega)]; simp
theorem pick_all (c : List S40) : c = c.filter (pickP ⟨#[]⟩ (-1)) := by
  symm
  rw [List.filter_eq_self]
  intro x _
  unfold pickP anyB
  rw [decide_eq_true (show (-1 : Int) < 0 by omega)]
  simp
set_option maxHeartbeats 8000000 in
set_option maxRecDepth 1000000 in
theorem picks_main (l : List S27) (A0 : Option Addr) (c0 : Nat) (s : ByteArray) (w : World) (hC : Kd.C k27 w A0 l.length l) (hc0 : l.length ≤ c0) (hwf : ∀ x ∈ l, (Lit.int .i64 x.f0.f4).wf = true)
    (kf ks : Nat) (hf : comptrollerlaw09_Few.f kf l = some true) (hsm : comptrollerlaw09_small.f ks l = some true) (hl : l.length ≤ 150) (hab : absL (l.map to40) ≤ 675539944105574400) (hs : s.size ≤ 40) :
    Calls Try.prog 4 #[.slice A0 l.length c0, .string s] w fun e w' => e = .returned (.bool true) ∧ Below w.heap.size w w' := by
  have hmm := @run_makeMap Try.prog
  have HC := Aside0.mk hC
  have hlong : decide (40 < (s.size : Int)) = false := decide_eq_false (by omega)
  obtain ⟨t, ht⟩ : ∃ t, t = l.map to40 := ⟨_, rfl⟩
  have htl : t.length = l.length := by rw [ht, List.length_map]
  have hth := Aside0.mk (show comptrollerlaw09_Theirs.f (l.length + 1) l = some t by rw [ht]; exact theirs_f l (by omega) _ (by omega))
  rw [← ht] at hab
  obtain ⟨c, hc⟩ : ∃ c, c = ofL t := ⟨_, rfl⟩
  have hof := Aside0.mk (show fact_Of.f t = some (c, 0) by rw [hc]; unfold fact_Of.f; rw [if_pos ⟨by omega, by omega⟩])
  have hcan := Aside0.mk (show Canon c by rw [hc]; exact (ofL_canon t).1)
  have hcl : c.length ≤ 150 := by rw [hc]; have := ofL_len t; omega
  have hca := Aside0.mk (show absL c ≤ 675539944105574400 by rw [hc]; exact Nat.le_trans (absL_of t) hab)
  have hcw := Aside0.mk (show ∀ x ∈ c, (Lit.int .i64 x.f0.f4).wf = true from fun x hx => by
    rw [hc] at hx
    obtain ⟨y, hy, e⟩ := ofL_keys t x hx
    rw [ht] at hy
    obtain ⟨z, hz, rfl⟩ := List.mem_map.1 hy
    rw [e]; exact hwf z hz)
  have HF := Aside0.mk hf
  have HSM := Aside0.mk hsm
  have HT := Aside0.mk htl
  clear hC hwf hf hsm hab ht htl hc
  go_enter Try.func4, Try.ntmps4
  go_wp2_with (first
    | (go_at_call 6; refine (comptrollerlaw09_alive.calls true _ rfl).mono ?_; rintro e w1 ⟨rfl, hb⟩; have HB1 := Aside0.mk hb; clear hb)
    | (go_at_call 7; refine (comptrollerlaw09_Few.calls kf A0 c0 l true _ (Kd.C_below HC.out HB1.out) hc0 HF.out).mono ?_; rintro e w2 ⟨rfl, hb⟩; have HB2 := Aside0.mk (HB1.out.trans (hb.mono HB1.out.size)); clear hb)
    | (go_at_call 9; refine (comptrollerlaw09_small.calls ks A0 c0 l true _ (Kd.C_below HC.out HB2.out) hc0 HSM.out).mono ?_; rintro e w3 ⟨rfl, hb⟩; have HB3 := Aside0.mk (HB2.out.trans (hb.mono HB2.out.size)); clear hb)
    | (go_at_call 11; refine (comptrollerlaw09_Theirs.calls _ A0 c0 l t _ (Kd.C_below HC.out HB3.out) hc0 hth.out).mono ?_; rintro e w4 ⟨v4, rfl, hr, hb⟩; obtain ⟨At, ct, rfl⟩ := Kd.R_slice hr; have HRt := Aside0.mk (Kd.R_reads' hr); have HB4 := Aside0.mk (HB3.out.trans (hb.mono HB3.out.size)); clear hb hr)
    | (go_at_call 10; refine (fact_Of.calls At ct t c 0 _ HRt.out.2.2 HRt.out.2.1 hof.out).mono ?_; rintro e w5 ⟨v5, rfl, hr, hb⟩; obtain ⟨Ac, cc, rfl⟩ := Kd.R_slice hr; have HRc := Aside0.mk hr; have HB5 := Aside0.mk (HB4.out.trans (hb.mono HB4.out.size)); clear hb hr))
  have HN := Aside0.mk (show w5.heap.size = w5.heap.size from rfl)
  have FC := Aside0.mk (fun W' (hb : Below w5.heap.size w5 W') => (Kd.R_F HRc.out) W' (fun k _ hk => hb.block k hk))
  have hM0 := Aside0.mk (World.ownsMap_made (H := Unit) w5 Try.prog 3 (plainElem Try.prog 3))
  have hB0 := Aside0.mk ((Below.refl w5.heap.size w5).alloc (Nat.le_refl _) (.map #[] 0))
  have hcc := Aside0.mk (Kd.R_reads' HRc.out).2.1
  clear HRt HRc hth hof HF HSM HT HB1 HB2 HB3 HB4 hmm hlong
  go_loopw [42] (fun v42 wr => ∃ (i : Nat) (D : DataW Unit), v42 = .int .i64 i ∧ i ≤ c.length ∧ Aside0 (wr.ownsMap Try.prog 3 (plainElem Try.prog 3) w5.heap.size i D) ∧ Aside0 (MarksOf D (c.take i)) ∧ Aside0 (Below w5.heap.size w5 wr)) (fun v42 _ => c.length - (intOf v42).toNat)
  case atStart => exact ⟨0, _, rfl, Nat.zero_le _, hM0, ⟨MarksOf.nil⟩, hB0⟩
  case round =>
    clear hM0 hB0
    obtain ⟨i, D, rfl, hi, hown, hmk, hBr⟩ := hrel
    by_cases hlt : i < c.length
    · have hltb : decide ((i : Int) < (c.length : Int)) = true := decide_eq_true (by omega)
      obtain ⟨ad, rfl, z0, z1, z2, z3, z4, z5⟩ := at_T40 (FC.out wr hBr.out) (i : Int) (by omega) (by omega)
      obtain ⟨x, hx⟩ : ∃ x, x = rd_T40 c (i : Int) := ⟨_, rfl⟩
      rw [← hx] at z0 z1 z2 z3 z4 z5
      simp only [Int.toNat_natCast] at z0 z1 z2 z3 z4 z5
      have hxi : x = c[i] := hx.trans (rdF hlt)
      have hwx := Aside0.mk (show (Lit.int .i64 x.f0.f4).wf = true by rw [hxi]; exact hcw.out _ (List.getElem_mem hlt))
      have hmk2 := Aside0.mk (show ∀ d, MarksOf (D.put (.int .i64 x.f0.f4) d) (c.take (i + 1)) from fun d => by rw [take_next c i hlt, ← hxi]; exact hmk.out.snoc x d)
      have p1 : (0 : Int) ≤ (i : Int) := by omega
      have p2 : (i : Int) < (c.length : Int) := by omega
      clear hx hxi hmk
      go_wp2_with (first
        | (at_lookup; refine wpList_lookup_own_int (H := Unit) _ rfl _ _ 38 rfl 3 3 .i64 law3 Try.underlying38 Try.underlying3 (zero3 _) w5.heap.size i D rfl (hown.out.alloc _) _ _ rfl (keyOf_int_mk Try.underlying3 hwx.out) ?_; intro cv hat hwc; clear hat hwc)
        | (at_mapUpdate; refine wpList_mapUpdate_own (H := Unit) _ rfl _ _ _ 38 rfl 3 3 law3 Try.underlying38 _ w5.heap.size i D rfl (hown.out.alloc _) (by unfold maxLen; omega) _ _ _ rfl rfl (keyOf_int_mk Try.underlying3 hwx.out) _ [] (plainElem_int Try.underlying3 (wf_wrap _)) ?_; intro w2 hown2 hg2; have HO2 := Aside0.mk hown2; have HG2 := Aside0.mk hg2; clear hown2 hg2))
      go_roundw
      case rel => exact ⟨i + 1, _, by go_num, hlt, HO2, ⟨hmk2.out _⟩, ⟨(hBr.out.alloc hBr.out.size _).grown HG2.out (by have := hBr.out.size; simp; omega) (fun k e => by injection e with e; omega)⟩⟩
      case measure => simp [intOf]; omega
    · have hltb : decide ((i : Int) < (c.length : Int)) = false := decide_eq_false (by omega)
      have hmk2 := Aside0.mk (show MarksOf D c by have := hmk.out; rwa [List.take_of_length_le (by omega)] at this)
      clear hmk
      go_wp2_with (first
        | (at_range; refine wpList_range_own (H := Unit) _ rfl _ 38 rfl 3 3 law3 Try.underlying38 _ w5.heap.size i D rfl hown.out ?_; intro w0 hrg0 hg0 hs0; have HRG := Aside0.mk hrg0; have HG0 := Aside0.mk hg0; clear hrg0 hg0 hs0))
      have hB2 := Aside0.mk (hBr.out.grown HG0.out hBr.out.size (fun k e => by cases e))
      have hrN := hBr.out.size
      clear HG0 hBr hown
      generalize wr.heap.size = r at HRG hrN ⊢
      go_loopw [7, 11] (fun v7 v11 wr => ∃ (left : Lit → Bool) (cnt : Nat) (A7 : Option Addr) (c7 : Nat) (b : List S40), v7 = .slice A7 b.length c7 ∧ v11 = .int .i64 b.length ∧ Aside0 (wr.ranges Try.prog 3 (plainElem Try.prog 3) w5.heap.size r i D left cnt) ∧
          Aside0 (Kd.R k40 40 wr (r + 1) (fun k => r < k) (.slice A7 b.length c7) b) ∧ Aside0 (b = c.filter (doneP s left)) ∧ Aside0 (Below w5.heap.size w5 wr)) (fun _ _ wr => wr.rangeLeft w5.heap.size r)
      case atStart => exact ⟨_, _, none, 0, [], rfl, rfl, HRG, ⟨Kd.R_nil _ _ _ _ _⟩, ⟨done_start s D c hmk2.out⟩, hB2⟩
      case round =>
        clear HRG hB2
        obtain ⟨left, cnt, A7, c7, b, rfl, rfl, hrg, hR, hb, hBr⟩ := hrel
        have hbl : b.length ≤ 150 := by rw [hb.out]; exact Nat.le_trans (List.length_filter_le _ _) hcl
        go_wp2_with (at_next; refine wpList_next_ranges_ii (H := Unit) _ rfl _ rfl 3 3 .i64 .i64 law3 Try.underlying3 Try.underlying3 w5.heap.size r i D left cnt rfl hrg.out ?_ ?_)
        · intro _ hl0
          have hbe := Aside0.mk (hb.out.trans (done_end s left c hl0))
          have hRC := Aside0.mk (fun W' (hW : Below wr.heap.size wr W') => Kd.C_below (Kd.R_reads' hR.out).2.2 hW)
          have hbc := Aside0.mk (Kd.R_reads' hR.out).2.1
          have hBf := Aside0.mk (fun W' (hW : Below wr.heap.size wr W') => FC.out W' (hBr.out.trans (hW.mono hBr.out.size)))
          clear hb hl0 hR hrg hmk2
          go_wp2_with fail
          go_at_call 16
          refine (ours_any b A7 c7 _ (hRC.out _ (Below.refl _ _)) hbc.out (by omega)).mono ?_
          rintro e w1 ⟨A1, k1, rfl, h1, h2, h3⟩
          have O1 := Aside0.mk h1
          have O1c := Aside0.mk h2
          have B1 := Aside0.mk h3
          clear h1 h2 h3
          go_wp2_with fail
          go_at_call 12
          refine (pick_any c s (-1) Ac cc _ (hBf.out _ B1.out) hcc.out (by omega) b hbe.out).mono ?_
          rintro e w2 ⟨A2, k2, rfl, h1, h2, h3⟩
          have O2 := Aside0.mk h1
          have O2c := Aside0.mk h2
          have B12 := Aside0.mk h3
          have B2 := Aside0.mk (B1.out.trans (h3.mono B1.out.size))
          clear h1 h2 h3
          go_wp2_with fail
          go_at_call 16
          refine (ours_any b A2 k2 _ (O2c.out _ (Below.refl _ _)) O2.out (by omega)).mono ?_
          rintro e w3 ⟨A3, k3, rfl, h1, h2, h3⟩
          have O3 := Aside0.mk h1
          have O3c := Aside0.mk h2
          have B13 := Aside0.mk (B12.out.trans (h3.mono B12.out.size))
          have B3 := Aside0.mk (B2.out.trans (h3.mono B2.out.size))
          clear h1 h2 h3
          go_wp2_with fail
          go_at_call 15
          refine (same_any (b.map to27) b.length (List.length_map _) A1 A3 k1 k3 _ (O1c.out _ B13.out) O1.out (O3c.out _ (Below.refl _ _)) O3.out (by omega)).mono ?_
          rintro e w4 ⟨rfl, h3⟩
          have B4 := Aside0.mk (B3.out.trans (h3.mono B3.out.size))
          clear h3
          go_wp2_with fail
          go_at_call 12
          refine (pick_any c ⟨#[]⟩ (-1) Ac cc _ (hBf.out _ B4.out) hcc.out (by omega) c (pick_all c)).mono ?_
          rintro e w5' ⟨A5, k5, rfl, h1, h2, h3⟩
          have O5 := Aside0.mk h1
          have O5c := Aside0.mk h2
          have B5 := Aside0.mk (B4.out.trans (h3.mono B4.out.size))
          clear h1 h2 h3
          go_wp2_with fail
          go_at_call 16
          refine (ours_any c A5 k5 _ (O5c.out _ (Below.refl _ _)) O5.out (by omega)).mono ?_
          rintro e w6 ⟨A6, k6, rfl, h1, h2, h3⟩
          have O6 := Aside0.mk h1
          have O6c := Aside0.mk h2
          have B6 := Aside0.mk (B5.out.trans (h3.mono B5.out.size))
          clear h1 h2 h3
          go_wp2_with fail
          go_at_call 16
          refine (ours_any c Ac cc _ (hBf.out _ B6.out) hcc.out (by omega)).mono ?_
          rintro e w7 ⟨A7', k7, rfl, h1, h2, h3⟩
          have O7 := Aside0.mk h1
          have O7c := Aside0.mk h2
          have B67 := Aside0.mk h3
          have B7 := Aside0.mk (B6.out.trans (h3.mono B6.out.size))
          clear h1 h2 h3
          go_wp2_with fail
          go_at_call 15
          refine (same_any (c.map to27) c.length (List.length_map _) A6 A7' k6 k7 _ (O6c.out _ B67.out) O6.out (O7c.out _ (Below.refl _ _)) O7.out (by omega)).mono ?_
          rintro e w8 ⟨rfl, h3⟩
          have B8 := Aside0.mk (B7.out.trans (h3.mono B7.out.size))
          clear h3
          go_wp2
          go_ret
          exact ⟨rfl, HB5.out.trans ((hBr.out.trans (B8.out.mono hBr.out.size)).mono HB5.out.size)⟩
        · intro x cv w1 cnt1 hwx hwc hlx hat hrg1 hlt1 hg1 hs1 hen
          have hRG1 := Aside0.mk hrg1
          have hLT := Aside0.mk hlt1
          have hHL := Aside0.mk hlx
          have hHS := Aside0.mk hs1
          have hR1 := Aside0.mk (Kd.R_grown hR.out hg1 (fun k hk e => by injection e with e; omega))
          have hB1 := Aside0.mk (hBr.out.grown hg1 hBr.out.size (fun k e => by injection e with e; omega))
          clear hrg1 hlt1 hlx hat hg1 hs1 hwx hwc hR hmk2
          by_cases hneg : x < 0
          · have hnb : decide (x < 0) = true := decide_eq_true hneg
            go_wp2
            go_ret
            exact ⟨rfl, HB5.out.trans (hB1.out.mono HB5.out.size)⟩
          · have hnb : decide (x < 0) = false := decide_eq_false hneg
            obtain ⟨hof1, hof2⟩ := done_step s left c x hneg hHL.out hcan.out
            rw [← hb.out] at hof1 hof2
            obtain ⟨p, hp⟩ : ∃ p, p = c.filter (pickP s x) := ⟨_, rfl⟩
            obtain ⟨b2, hb2⟩ : ∃ b2, b2 = c.filter (doneP s fun z => left z && !z.sameKey (.int .i64 x)) := ⟨_, rfl⟩
            rw [← hp, ← hb2] at hof1 hof2
            have hpl : p.length ≤ 150 := by rw [hp]; exact Nat.le_trans (List.length_filter_le _ _) hcl
            have hpa := Aside0.mk (show absL b + absL p < 4611686018427387904 by
              have h1 := absL_filter (doneP s left) c
              have h2 := absL_filter (pickP s x) c
              have h3 := hca.out
              rw [hb.out, hp]; omega)
            have hpc := Aside0.mk (show Canon p by rw [hp]; exact canon_filter _ hcan.out)
            have HP := Aside0.mk hp
            have HB2 := Aside0.mk hb2
            have HO1 := Aside0.mk hof1
            have HO2 := Aside0.mk (show ((b.length : Int) + (p.length : Int)) = (b2.length : Int) by omega)
            clear hp hb2 hof1 hof2 hb
            go_wp2_with fail
            go_at_call 12
            refine (pick_any c s x Ac cc _ (FC.out _ hB1.out) hcc.out (by omega) p HP.out).mono ?_
            rintro e w2 ⟨A2, k2, rfl, h1, h2, h3⟩
            have O2 := Aside0.mk h1
            have O2c := Aside0.mk h2
            have B2 := Aside0.mk h3
            have hR2 := Aside0.mk (Kd.R_below hR1.out h3)
            have hB2 := Aside0.mk (hB1.out.trans (h3.mono hB1.out.size))
            clear h1 h2 h3
            go_wp2_with fail
            go_at_call 13
            refine (add_rowsR b p b2 A7 A2 c7 k2 _ (Kd.R_reads' hR2.out).2.2 (Kd.R_reads' hR2.out).2.1 (O2c.out _ (Below.refl _ _)) O2.out (by omega) hpa.out HO1.out).mono ?_
            rintro e w3 ⟨A3, k3, rfl, h1, h3⟩
            have B23 := Aside0.mk h3
            have hR3 := Aside0.mk h1
            have B3 := Aside0.mk (B2.out.trans (h3.mono B2.out.size))
            have hB3 := Aside0.mk (hB2.out.trans (h3.mono hB2.out.size))
            clear h1 h3
            go_wp2_with fail
            go_at_call 14
            refine (right_any p A2 k2 _ (O2c.out _ B23.out) O2.out (by omega) hpc.out).mono ?_
            rintro e w4 ⟨rfl, h3⟩
            have hR4 := Aside0.mk (Kd.R_below hR3.out h3)
            have B4 := Aside0.mk (B3.out.trans (h3.mono B3.out.size))
            have hB4 := Aside0.mk (hB3.out.trans (h3.mono hB3.out.size))
            clear h3
            have hrlt := Aside0.mk hRG1.out.lt
            have hrg4 := Aside0.mk (hRG1.out.kept (row := none) ⟨B4.out.os, B4.out.tape, B4.out.output, B4.out.size, fun k hk _ => B4.out.block k hk⟩ (by simp) (by simp))
            go_wp2
            go_roundw
            case rel => exact ⟨_, cnt1, A3, k3, b2, rfl, by rw [HO2.out], hrg4, ⟨Kd.R_lower (Kd.R_mono (Kd.R_bound hR4.out) (fun k hk => by have := hk.2.1; have := B2.out.size; have := hrlt.out; omega)) (by have := B2.out.size; have := hrlt.out; omega)⟩, HB2, hB4⟩
            case measure => rw [hrg4.out.left_eq, hrg.out.left_eq]; exact hLT.out
end Go.Proofs.Ytidojompkihboaa.X
