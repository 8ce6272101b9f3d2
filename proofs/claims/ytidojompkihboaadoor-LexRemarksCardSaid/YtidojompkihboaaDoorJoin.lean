import Derived.Test.YtidojompkihboaaDoorXx0
import Derived.Test.YtidojompkihboaaDoorShelf
import Derived.Lib.Join
namespace Go.Proofs.YtidojompkihboaaDoor.X
open Go.RowKit Go.Shelf Go.Proofs.YtidojompkihboaaDoorW.PrintWords Go.Proofs.YtidojompkihboaaDoorW.PrintLast Go.Proofs.YtidojompkihboaaDoorW.PrintMore

def joinWords (ws : List ByteArray) : List UInt8 := Lib.join (ws.map (·.data.toList)) [32]
def joinLines (l : List S42) : List UInt8 := l.flatMap fun x => joinWords x.f1 ++ [10]
def lex_Join.f (l0 : List S42) : Option ByteArray := if (joinLines l0).length ≤ 1000000000 then some ⟨(joinLines l0).toArray⟩ else none

theorem joinWords_len (ws : List ByteArray) : ws.length ≤ (joinWords ws).length + 1 := by
  cases ws with
  | nil => simp
  | cons x r =>
    unfold joinWords
    rw [List.map_cons, Lib.join_length]
    simp
theorem addr_plain {w : World} {ad : Addr} {v : Value} (h : w.cell? ad = some v) : ad.spot = none := by
  cases hs : ad.spot with
  | none => rfl
  | some x =>
    unfold World.cell? at h
    rw [hs] at h
    split at h <;> simp at h

theorem join_any (A : Option Addr) (c : Nat) (ws : List ByteArray) (w : World) (hr : Kd.string.C w A ws.length ws) (hc : ws.length ≤ c) (hl : (joinWords ws).length ≤ 1000000000) :
    Calls Tryd.prog 32 #[.slice A ws.length c, .string ⟨#[32]⟩] w fun e w' => e = .returned (.string ⟨(joinWords ws).toArray⟩) ∧ Below w.heap.size w w' := by
  by_cases h0 : ws.length = 0
  · obtain rfl : ws = [] := List.eq_nil_of_length_eq_zero h0
    exact (Tryd.strings_Join_none A c ⟨#[32]⟩ w).mono (fun e w' ⟨h1, h2⟩ => ⟨h1, h2 ▸ Below.refl _ _⟩)
  · obtain ⟨ad, cs, rfl, hcl, hK, hcell⟩ := Kd.C_get hr ByteArray.empty 0 (by omega) (by omega)
    have hget : ∀ (j : Nat) x, ws[j]? = some x → w.cell? (ad.add j) = some (.string x) := by
      intro j x hj
      have hlt : j < ws.length := (List.getElem?_eq_some_iff.1 hj).1
      obtain ⟨ad', cs', e, hcl', hK', hcell'⟩ := Kd.C_get hr ByteArray.empty j (by omega) (by omega)
      obtain rfl : ad = ad' := Option.some.inj e
      have hcs : cs' = [.string (ws.getD (j : Int).toNat ByteArray.empty)] := hK'
      have := hcell' 0 _ (by rw [hcs]; rfl)
      have hg : ws[j]?.getD ByteArray.empty = x := by rw [hj]; rfl
      simpa [Kd.string, Kd.scalar, hg] using this
    have hsp : ad.spot = none := by
      have h1 := hget 0 (ws[0]'(by omega)) (List.getElem?_eq_getElem (by omega))
      have h2 := addr_plain h1
      simpa [Addr.add] using h2
    obtain ⟨bk, o, sp⟩ := ad
    obtain rfl : sp = none := hsp
    have hcells : ∀ (j : Nat) x, ws[j]? = some x → w.cell? ⟨bk, o + j, none⟩ = some (.string x) := by
      intro j x hj
      have := hget j x hj
      have ha : (⟨bk, o, none⟩ : Addr).add j = ⟨bk, o + j, none⟩ := by unfold Addr.add; split <;> simp_all
      rwa [ha] at this
    have hbk : bk < w.heap.size := World.block_lt_of_cell? w _ (hcells 0 (ws[0]'(by omega)) (List.getElem?_eq_getElem (by omega)))
    exact Tryd.strings_Join bk o c ws ⟨#[32]⟩ w hcells hbk (by have := joinWords_len ws; omega) hc (by unfold joinWords at hl; exact Nat.le_trans hl (by decide))

theorem joinLines_take (l : List S42) (i : Nat) (h : i < l.length) : joinLines (l.take (i + 1)) = joinLines (l.take i) ++ (joinWords (l[i]).f1 ++ [10]) := by
  rw [List.take_succ_eq_append_getElem h]; unfold joinLines; rw [List.flatMap_append, List.flatMap_singleton]
theorem joinLines_le (l : List S42) (i : Nat) : (joinLines (l.take i)).length ≤ (joinLines l).length := by
  conv => rhs; rw [← List.take_append_drop i l]
  unfold joinLines
  rw [List.flatMap_append, List.length_append]; omega
theorem byteCells_app (a b : List UInt8) : Lib.byteCells (a ++ b) = Lib.byteCells a ++ Lib.byteCells b := by simp [Lib.byteCells]
theorem below_alloc_ {B : Nat} {w W : World} (h : Below B w W) (hB : B ≤ W.heap.size) (o : Obj) : Below B w (W.alloc o) := h.alloc hB o
theorem builder_below {T e B b : Nat} {bs : List Value} {w w' : World} (h : Lib.IsBuilder T e B b bs w) (hb : Below w.heap.size w w') : Lib.IsBuilder T e B b bs w' := by
  have step : ∀ p, Lib.BuilderAt T e B b p bs w → Lib.BuilderAt T e B b p bs w' := by
    rintro p ⟨h0, v, h1, h2, h3⟩
    exact ⟨h0, v, (hb.block b (blk_lt h1)).trans h1, pw_own_below h2 hb, h3⟩
  exact h.imp (step _) (step _)
theorem builder_ws (B b : Nat) (a l : List UInt8) (w : World) (h : Lib.IsBuilder 62 5 B b (Lib.byteCells a) w) (hlen : a.length + l.length ≤ 140737488355328) (hBw : B ≤ w.heap.size) :
    Calls Tryd.prog 31 #[.pointer (some ⟨b, 0, none⟩), .string ⟨l.toArray⟩] w fun e w' => (∃ n : Int, e = .returned (.tuple #[.int .i64 n, .nilIface])) ∧ Lib.BuilderAt 62 5 B b (.pointer (some ⟨b, 0, none⟩)) (Lib.byteCells (a ++ l)) w' ∧ Below B w w' := by
  have hs : (⟨l.toArray⟩ : ByteArray).size = l.length := by simp [ByteArray.size]
  refine (Tryd.Builder_WriteString B b (Lib.byteCells a) ⟨l.toArray⟩ w h (by rw [hs]; simpa [Lib.byteCells] using hlen) hBw).mono fun e w' ⟨h1, h2, h3⟩ => ⟨⟨_, h1⟩, ?_, h3⟩
  have e : Lib.byteCells (a ++ l) = Lib.byteCells a ++ Lib.strCells ⟨l.toArray⟩ := by simp [Lib.byteCells, Lib.strCells]
  rw [e]; exact h2
theorem builder_wb (B b : Nat) (a : List UInt8) (w : World) (h : Lib.IsBuilder 62 5 B b (Lib.byteCells a) w) (hlen : a.length + 1 ≤ 140737488355328) (hBw : B ≤ w.heap.size) :
    Calls Tryd.prog 33 #[.pointer (some ⟨b, 0, none⟩), .int .u8 10] w fun e w' => e = .returned .nilIface ∧ Lib.BuilderAt 62 5 B b (.pointer (some ⟨b, 0, none⟩)) (Lib.byteCells (a ++ [10])) w' ∧ Below B w w' := by
  refine (Tryd.Builder_WriteByte B b (Lib.byteCells a) 10 w h (by simpa [Lib.byteCells] using hlen) hBw).mono fun e w' ⟨h1, h2, h3⟩ => ⟨h1, ?_, h3⟩
  have e : Lib.byteCells (a ++ [10]) = Lib.byteCells a ++ [.int .u8 10] := by simp [Lib.byteCells]
  rw [e]; exact h2
set_option maxHeartbeats 2000000 in
set_option maxRecDepth 100000 in
theorem lex_Join.calls (A0 : Option Addr) (c0 : Nat) (l0 : List (S42)) (r : ByteArray) (w : World) (hr0 : Kd.C k42 w A0 l0.length l0) (hc0 : l0.length ≤ c0) (h : lex_Join.f l0 = some r) :
    Calls Tryd.prog 16 #[.slice A0 l0.length c0] w fun e w' => e = .returned (.string r) ∧ Below w.heap.size w w' := by
  unfold lex_Join.f at h
  split at h
  case isFalse => cases h
  case isTrue hl =>
  obtain rfl := Option.some.inj h
  clear h
  have hmax := Kd.C_max hr0
  have HR := Aside0.mk hr0
  have HL := Aside0.mk hl
  have hu42 := Tryd.underlying42
  clear hr0 hl
  go_enter Tryd.func16, Tryd.ntmps16
  go_wp2
  go_loopw [8] (fun k wr => ∃ i : Int, 0 ≤ i ∧ i ≤ l0.length ∧ k = .int .i64 i ∧ Aside0 (Lib.IsBuilder 62 5 w.heap.size w.heap.size (Lib.byteCells (joinLines (l0.take i.toNat))) wr) ∧ Aside0 (Below w.heap.size w wr)) (fun k _ => l0.length - (intOf k).toNat)
  case atStart => exact ⟨0, by omega, by omega, rfl, ⟨by simpa [joinLines, Lib.byteCells] using Lib.fresh_isBuilder 62 5 w⟩, ⟨(Below.refl _ _).alloc (Nat.le_refl _) _⟩⟩
  case round =>
    obtain ⟨i, h0, h1, rfl, HI, HB⟩ := hrel
    by_cases hlt : i < (l0.length : Int)
    · obtain ⟨ad, A1, c1, rfl, hc1, hc2, hl1, hw1⟩ := at_T42 (Kd.C_below HR.out HB.out) i h0 hlt
      have hn : i.toNat < l0.length := by omega
      have hrd : rd_T42 l0 i = l0[i.toNat] := by simp [rd_T42, List.getD_eq_getElem?_getD, List.getElem?_eq_getElem hn]
      have hstep : joinLines (l0.take (i + 1).toNat) = joinLines (l0.take i.toNat) ++ (joinWords (rd_T42 l0 i).f1 ++ [10]) := by
        rw [show (i + 1).toNat = i.toNat + 1 from by omega, joinLines_take l0 i.toNat hn, hrd]
      have hle := joinLines_le l0 (i + 1).toNat
      have HL2 := Aside0.mk (show (joinLines (l0.take i.toNat)).length + ((joinWords (rd_T42 l0 i).f1).length + 1) ≤ 1000000000 by rw [hstep] at hle; simp at hle; have := HL.out; omega)
      have HS := Aside0.mk hstep
      have HW := Aside0.mk hw1
      clear hstep hle hrd hw1
      go_wp2_with (first
        | (go_at_call 32; refine (join_any A1 c1 _ _ (Kd.C_alloc HW.out _) hl1 (by have := HL2.out; omega)).mono ?_; rintro e w2 ⟨rfl, hb⟩
           have HB2 := Aside0.mk (below_then (below_alloc_ HB.out HB.out.size _) (by have := HB.out.size; simp; omega) hb : Below w.heap.size w w2)
           have HI2 := Aside0.mk (builder_below HI.out (below_then (Below.alloc (Below.refl _ _) (Nat.le_refl _) _) (by simp) hb))
           clear hb)
        | (go_at_call 31; refine (builder_ws w.heap.size w.heap.size _ _ _ HI2.out (by have := HL2.out; omega) HB2.out.size).mono ?_; rintro e w3 ⟨⟨n3, rfl⟩, hI3, hb3⟩
           have HI3 := Aside0.mk hI3; have HB3 := Aside0.mk hb3; clear hI3 hb3)
        | (go_at_call 33; refine (builder_wb w.heap.size w.heap.size _ _ (.inr HI3.out) (by have := HL2.out; simp; omega) (Nat.le_trans HB2.out.size HB3.out.size)).mono ?_; rintro e w4 ⟨rfl, hI4, hb4⟩
           have HI4 := Aside0.mk hI4; have HB4 := Aside0.mk hb4; clear hI4 hb4))
      go_roundw
      case rel =>
        refine ⟨i + 1, by omega, by omega, rfl, ⟨?_⟩, ⟨(HB2.out.trans HB3.out).trans HB4.out⟩⟩
        have := HI4.out
        rw [HS.out]
        rw [List.append_assoc] at this
        exact .inr this
      case measure => simp [intOf]; omega
    · have hi : i.toNat = l0.length := by omega
      have HI' := Aside0.mk (show Lib.IsBuilder 62 5 w.heap.size w.heap.size (Lib.byteCells (joinLines l0)) wr by have := HI.out; rwa [List.take_of_length_le (by omega)] at this)
      clear hi
      go_wp2_with (go_at_call 34; refine (Tryd.Builder_String_any w.heap.size w.heap.size (joinLines l0) _ HI'.out HB.out.size).mono ?_; rintro e w2 ⟨rfl, hb⟩; have HB2 := Aside0.mk hb; clear hb)
      go_ret
      exact ⟨rfl, HB.out.trans HB2.out⟩
end Go.Proofs.YtidojompkihboaaDoor.X
