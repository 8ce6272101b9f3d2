/- Keys and facts that came in: their cells, and as a list. -/
import Derived.Test.YtidojompkihboaaXx0
import Derived.OpenShut
import Derived.ShutString
import Derived.ChangeOld
import Derived.ProofKit
import Derived.Below
import Derived.SizedLaws
import Derived.Deep.Slices
namespace Go.Proofs.Ytidojompkihboaa.X
section
open Go.ChangeShapes Go.WideShapes Go.ChangeAt Go.RowKit
set_option linter.unusedVariables false
set_option linter.unusedSimpArgs false
section
variable {H : Type} {enc : TypeId × Value → H} {w : World} {base : Nat} {spare : Nat → Bool} {held : Bool}
/-- A part of a struct, by its place. -/
theorem part_of {fs : Array Field} {n : Nat} {cs : List Value} {xs : List (DataW H × List MemPlace)} (hlen : xs.length = fs.size)
    (hat : ∀ (i : Nat) (f : Field), fs[i]? = some f → DataW.trod enc Try.prog w base spare held n f.type ((cs.drop f.offset).take (Try.prog.cellsOf f.type)) = xs[i]?)
    (i : Nat) (t o k : Nat) (hk : Try.prog.cellsOf t = k) (hf : ∃ f, fs[i]? = some f ∧ f.type = t ∧ f.offset = o) : ∃ y, DataW.trod enc Try.prog w base spare held n t ((cs.drop o).take k) = some y := by
  obtain ⟨f, hi, rfl, rfl⟩ := hf
  have h := hat i f hi
  have hl : i < xs.length := by rw [hlen]; exact (Array.getElem?_eq_some_iff.1 hi).1
  rw [List.getElem?_eq_getElem hl, hk] at h
  exact ⟨_, h⟩
theorem key_cells {fuel : Nat} {cs : List Value} {x : DataW H × List MemPlace} (h : DataW.trod enc Try.prog w base spare held fuel 23 cs = some x) :
    ∃ k : S30, cs = [.string k.f0, .string k.f1, .string k.f2, .string k.f3, .int .i64 k.f4] ∧ (Lit.int .i64 k.f4).wf = true := by
  obtain ⟨xs, n, _, _, hl, hlen, hat⟩ := DataW.trod_struct Try.underlying23 h
  have hl5 : cs.length = 5 := hl.trans (by kernel_rfl)
  obtain ⟨c0, c1, c2, c3, c4, rfl⟩ : ∃ c0 c1 c2 c3 c4, cs = [c0, c1, c2, c3, c4] := by
    match cs, hl5 with
    | [c0, c1, c2, c3, c4], _ => exact ⟨c0, c1, c2, c3, c4, rfl⟩
  obtain ⟨y0, h0⟩ := part_of hlen hat 0 9 0 1 (by kernel_rfl) ⟨_, rfl, rfl, rfl⟩
  obtain ⟨y1, h1⟩ := part_of hlen hat 1 9 1 1 (by kernel_rfl) ⟨_, rfl, rfl, rfl⟩
  obtain ⟨y2, h2⟩ := part_of hlen hat 2 9 2 1 (by kernel_rfl) ⟨_, rfl, rfl, rfl⟩
  obtain ⟨y3, h3⟩ := part_of hlen hat 3 9 3 1 (by kernel_rfl) ⟨_, rfl, rfl, rfl⟩
  obtain ⟨y4, h4⟩ := part_of hlen hat 4 3 4 1 (by kernel_rfl) ⟨_, rfl, rfl, rfl⟩
  obtain ⟨s0, e0, _⟩ := DataW.trod_string Try.underlying9 h0
  obtain ⟨s1, e1, _⟩ := DataW.trod_string Try.underlying9 h1
  obtain ⟨s2, e2, _⟩ := DataW.trod_string Try.underlying9 h2
  obtain ⟨s3, e3, _⟩ := DataW.trod_string Try.underlying9 h3
  obtain ⟨s4, e4, _, hw4⟩ := DataW.trod_int Try.underlying3 h4
  injection e0 with e0; injection e1 with e1; injection e2 with e2; injection e3 with e3; injection e4 with e4
  exact ⟨⟨s0, s1, s2, s3, s4⟩, by rw [e0, e1, e2, e3, e4], hw4⟩
theorem open_key {b0 : Nat} {r : Reach} {v : Value} {d : DataW H} {p : List MemPlace} (hv : Value.okWide Try.prog w r b0 23 v) (h : DataW.Trod enc Try.prog w base spare held 23 v d p) :
    ∃ x : S30, v = .agg #[.string x.f0, .string x.f1, .string x.f2, .string x.f3, .int .i64 x.f4] := by
  obtain ⟨cs, rfl, _⟩ := okWide_struct Try.underlying23 hv
  obtain ⟨fuel, hf⟩ := h
  obtain ⟨k, hk, _⟩ := key_cells hf
  refine ⟨k, ?_⟩
  have : cs.toList = [.string k.f0, .string k.f1, .string k.f2, .string k.f3, .int .i64 k.f4] := hk
  rw [← Array.toArray_toList (xs := cs), this]
theorem fact_cells {fuel : Nat} {cs : List Value} {x : DataW H × List MemPlace} (h : DataW.trod enc Try.prog w base spare held fuel 27 cs = some x) :
    ∃ f : S27, cs = [.string f.f0.f0, .string f.f0.f1, .string f.f0.f2, .string f.f0.f3, .int .i64 f.f0.f4, .int .i64 f.f1] ∧ (Lit.int .i64 f.f0.f4).wf = true := by
  obtain ⟨xs, n, _, _, hl, hlen, hat⟩ := DataW.trod_struct Try.underlying27 h
  have hl6 : cs.length = 6 := hl.trans (by kernel_rfl)
  obtain ⟨y0, h0⟩ := part_of hlen hat 0 23 0 5 (by kernel_rfl) ⟨_, rfl, rfl, rfl⟩
  obtain ⟨y1, h1⟩ := part_of hlen hat 1 2 5 1 (by kernel_rfl) ⟨_, rfl, rfl, rfl⟩
  obtain ⟨k, hk, hkw⟩ := key_cells h0
  obtain ⟨m, e1, _, _⟩ := DataW.trod_int Try.underlying2 h1
  obtain ⟨c0, c1, c2, c3, c4, c5, rfl⟩ : ∃ c0 c1 c2 c3 c4 c5, cs = [c0, c1, c2, c3, c4, c5] := by
    match cs, hl6 with
    | [c0, c1, c2, c3, c4, c5], _ => exact ⟨c0, c1, c2, c3, c4, c5, rfl⟩
  have hk' : [c0, c1, c2, c3, c4] = [.string k.f0, .string k.f1, .string k.f2, .string k.f3, .int .i64 k.f4] := hk
  have e1' : [c5] = [Value.int .i64 m] := e1
  injection e1' with e5
  injection hk' with a0 hk'; injection hk' with a1 hk'; injection hk' with a2 hk'; injection hk' with a3 hk'; injection hk' with a4 hk'
  exact ⟨⟨⟨k.f0, k.f1, k.f2, k.f3, k.f4⟩, m⟩, by rw [a0, a1, a2, a3, a4, e5], hkw⟩
end
end
section
open Go.ChangeShapes Go.WideShapes Go.ChangeAt Go.RowKit Go.Proofs.YtidojompkihboaaW.PrintWords
set_option linter.unusedVariables false
set_option linter.unusedSimpArgs false
theorem open_facts {H : Type} {enc : TypeId × Value → H} {w : World} {base : Nat} {held : Bool} {a : Option Addr} {len cap : Nat} {d : DataW H} {p : List MemPlace} (h : DataW.Trod enc Try.prog w base (fun _ => true) held 28 (.slice a len cap) d p) :
    ∃ l : List S27, l.length = len ∧ l.length ≤ cap ∧ Kd.C k27 w a l.length l ∧ ∀ x ∈ l, (Lit.int .i64 x.f0.f4).wf = true := by
  obtain ⟨fuel, hf⟩ := h
  rcases Go.Deep.open_slice Try.underlying28 hf with ⟨hcs, _⟩ | ⟨a', len', cap', m, n, D, Pl, hcs, _, hl, hm, hmm, _, hi⟩
  · simp [Value.cells] at hcs
    obtain ⟨rfl, rfl, rfl⟩ := hcs
    exact ⟨[], rfl, Nat.le_refl _, Kd.C_nil _ _, fun x hx => absurd hx (by simp)⟩
  · simp [Value.cells] at hcs
    obtain ⟨rfl, rfl, rfl⟩ := hcs
    have hcm : m = cap := by simpa using hmm
    have c27 : Try.prog.cellsOf 27 = 6 := by kernel_rfl
    have hall : ∀ i, ∃ f : S27, i < m → (Lit.int .i64 f.f0.f4).wf = true ∧ ∀ (j : Nat) u, ([.string f.f0.f0, .string f.f0.f1, .string f.f0.f2, .string f.f0.f3, .int .i64 f.f0.f4, .int .i64 f.f1] : List Value)[j]? = some u → w.cell? (a'.add (i * 6 + j)) = some u := by
      intro i
      by_cases him : i < m
      · obtain ⟨cs', hc, ht⟩ := hi i him
        obtain ⟨f, rfl, hw⟩ := fact_cells ht
        rw [c27] at hc
        obtain ⟨_, _, hat⟩ := World.cells?_some hc
        refine ⟨f, fun _ => ⟨hw, fun j u hu => ?_⟩⟩
        have hj : j < 6 := (List.getElem?_eq_some_iff.1 hu).1
        have := hat j hj
        rw [Go.Deep.add_add] at this
        rw [this, hu]
      · exact ⟨⟨⟨ByteArray.empty, ByteArray.empty, ByteArray.empty, ByteArray.empty, 0⟩, 0⟩, fun h => absurd h him⟩
    obtain ⟨g, hg⟩ := Classical.axiomOfChoice hall
    have hlen : ((List.range len).map g).length = len := by simp
    refine ⟨(List.range len).map g, hlen, by rw [hlen]; exact hl, ⟨rfl, by rw [hlen]; unfold maxLen at hm; omega, fun _ => ⟨a', rfl, fun j x hx => ⟨_, rfl, k27_mk w x, fun i u hu => ?_⟩⟩⟩, fun x hx => ?_⟩
    rotate_left
    · obtain ⟨i, hi', rfl⟩ := List.mem_map.1 hx
      exact (hg i (by have := List.mem_range.1 hi'; omega)).1
    obtain ⟨hj, hx'⟩ := List.getElem?_eq_some_iff.1 hx
    rw [List.length_map, List.length_range] at hj
    simp only [List.getElem_map, List.getElem_range] at hx'
    subst hx'
    exact (hg j (by omega)).2 i u hu
end
end Go.Proofs.Ytidojompkihboaa.X
