/- slices.SortStableFunc of facts at whatever length: the same facts, rising. -/
import Derived.Test.YtidojompkihboaaSymC
import Derived.Test.YtidojompkihboaaOrd
namespace Go.Proofs.Ytidojompkihboaa.X
open Go.RowKit Go.Shelf Go.Lib Go.Sort Go.Proofs.YtidojompkihboaaW.PrintWords Go.Proofs.YtidojompkihboaaW.PrintLast Go.Proofs.YtidojompkihboaaW.PrintMore
section
variable {P : Program} {k : Nat} {α : Type} [Inhabited α] {enc : α → List Value}
theorem sym_any (L : LaySort P k) (cf : α → α → Int) (hS : SWO (ltOf cf)) (g : Nat) (cb : Array Value) (blk off cap : Nat) (d0 : Array α) (w0 : World) (eg : ∀ args w, (callFunc g args).run P w = .ok (.enter g args) w)
    (hcmp : CmpLays P g cb enc k cf blk off d0.size w0) (R : RowK enc k w0 blk off d0) : ∀ (N a m b : Nat) (d : Array α) (w : World), b - a ≤ N → a < m → m < b → b ≤ d.size → d0.size = d.size → d.size < 1000000 → SWK enc k w0 blk off d w → SortedIn (ltOf cf) a m d → SortedIn (ltOf cf) m b d →
    Calls P 38 #[.slice (some ⟨blk, off, none⟩) d.size cap, .int .i64 a, .int .i64 m, .int .i64 b, .func (.func g) #[] cb] w (Merged cf a b d enc k w0 blk off)
  | 0, _, _, _, _, _, h, h1, h2, _, _, _, _, _, _ => absurd h (by omega)
  | N + 1, a, m, b, d, w, h, h1, h2, hb, hs, hsz, S, s1, s2 => by
    by_cases c1 : m = a + 1
    · exact sym_one L cf hS g cb blk off cap a m b d0 d w0 w eg hcmp R hs S c1 h2 hb hsz s2
    · by_cases c2 : b = m + 1
      · exact sym_last L cf hS g cb blk off cap a m b d0 d w0 w eg hcmp R hs S h1 c1 c2 hb hsz s1
      · exact sym_gen L cf hS g cb blk off cap a m b d0 d w0 w eg hcmp R hs S h1 c1 h2 c2 hb hsz s1 s2 (fun a' m' b' d' w' h3 h4 h5 h6 h7 h8 h9 h10 =>
          sym_any L cf hS g cb blk off cap d0 w0 eg hcmp R N a' m' b' d' w' (by omega) h4 h5 h6 (by omega) (by omega) h8 h9 h10)
variable {lt : α → α → Bool}
/-- The first q blocks of 20 are sorted. -/
def Ini (lt : α → α → Bool) (q : Nat) (d : Array α) : Prop := ∀ i, i < q → SortedIn lt (20 * i) (20 * i + 20) d
theorem Ini.step {q : Nat} {d d' : Array α} (h : Ini lt q d) (hp : PermIn (20 * q) (20 * q + 20) d d') (hs : SortedIn lt (20 * q) (20 * q + 20) d') : Ini lt (q + 1) d' := by
  intro i hi
  by_cases e : i = q
  · rw [e]; exact hs
  · exact sorted_out hp (h i (by omega)) (.inl (by omega))
/-- Each block of bs is sorted. -/
def Blk (lt : α → α → Bool) (bs n : Nat) (d : Array α) : Prop := ∀ i, SortedIn lt (bs * i) (min (bs * i + bs) n) d
theorem Ini.done {q n : Nat} {d d' : Array α} (h : Ini lt q d) (hq : 20 * q ≤ n) (hq2 : n < 20 * q + 20) (hp : PermIn (20 * q) n d d') (hs : SortedIn lt (20 * q) n d') : Blk lt 20 n d' := by
  intro i
  by_cases h1 : i < q
  · have := sorted_out hp (h i h1) (.inl (by omega))
    rwa [show min (20 * i + 20) n = 20 * i + 20 by omega]
  · by_cases h2 : i = q
    · rw [h2, show min (20 * q + 20) n = n by omega]; exact hs
    · intro x y a b c; omega
structure Mid (lt : α → α → Bool) (bs n q : Nat) (d : Array α) : Prop where
  lo : ∀ i, i < q → SortedIn lt (2 * bs * i) (2 * bs * i + 2 * bs) d
  hi : ∀ i, 2 * q ≤ i → SortedIn lt (bs * i) (min (bs * i + bs) n) d
theorem Mid.start {bs n : Nat} {d : Array α} (h : Blk lt bs n d) : Mid lt bs n 0 d := ⟨fun i hi => absurd hi (Nat.not_lt_zero _), fun i _ => h i⟩
theorem mul_step {b i q : Nat} (h : i < q) : b * i + b ≤ b * q := by
  have := Nat.mul_le_mul_left b (show i + 1 ≤ q from h)
  rwa [Nat.mul_add, Nat.mul_one] at this
theorem mul_two (b q : Nat) : b * (2 * q) = 2 * b * q := by rw [← Nat.mul_assoc, Nat.mul_comm b 2]
theorem Mid.step {bs n q : Nat} {d d' : Array α} (h : Mid lt bs n q d) (hp : PermIn (2 * bs * q) (2 * bs * q + 2 * bs) d d') (hs : SortedIn lt (2 * bs * q) (2 * bs * q + 2 * bs) d') : Mid lt bs n (q + 1) d' := by
  refine ⟨fun i hi => ?_, fun i hi => ?_⟩
  · by_cases e : i = q
    · rw [e]; exact hs
    · exact sorted_out hp (h.lo i (by omega)) (.inl (mul_step (by omega)))
  · refine sorted_out hp (h.hi i (by omega)) (.inr ?_)
    have := Nat.mul_le_mul_left bs (show 2 * q + 2 ≤ i by omega)
    rw [Nat.mul_add, mul_two] at this
    omega
theorem Mid.left {bs n q : Nat} {d : Array α} (h : Mid lt bs n q d) (hn : 2 * bs * q + bs ≤ n) : SortedIn lt (2 * bs * q) (2 * bs * q + bs) d := by
  have := h.hi (2 * q) (Nat.le_refl _)
  rwa [mul_two, show min (2 * bs * q + bs) n = 2 * bs * q + bs by omega] at this
theorem Mid.right {bs n q e : Nat} {d : Array α} (h : Mid lt bs n q d) (he : e = min (2 * bs * q + 2 * bs) n) : SortedIn lt (2 * bs * q + bs) e d := by
  have := h.hi (2 * q + 1) (by omega)
  rwa [Nat.mul_add, mul_two, Nat.mul_one, show 2 * bs * q + bs + bs = 2 * bs * q + 2 * bs by omega, ← he] at this
theorem Mid.rest {bs n q : Nat} {d : Array α} (h : Mid lt bs n q d) (hn : n ≤ 2 * bs * q + bs) : SortedIn lt (2 * bs * q) n d := by
  have := h.hi (2 * q) (Nat.le_refl _)
  rwa [mul_two, show min (2 * bs * q + bs) n = n by omega] at this
theorem Mid.done {bs n q : Nat} {d d' : Array α} (h : Mid lt bs n q d) (hq : 2 * bs * q ≤ n) (hq2 : n < 2 * bs * q + 2 * bs) (hp : PermIn (2 * bs * q) n d d') (hs : SortedIn lt (2 * bs * q) n d') : Blk lt (2 * bs) n d' := by
  intro i
  by_cases h1 : i < q
  · have h2 := mul_step (b := 2 * bs) h1
    have := sorted_out hp (h.lo i h1) (.inl h2)
    rwa [show min (2 * bs * i + 2 * bs) n = 2 * bs * i + 2 * bs by omega]
  · by_cases h2 : i = q
    · rw [h2, show min (2 * bs * q + 2 * bs) n = n by omega]; exact hs
    · have h3 := mul_step (b := 2 * bs) (show q < i by omega)
      intro x y a b c; omega
theorem Blk.all {bs n : Nat} {d : Array α} (h : Blk lt bs n d) (hn : n ≤ bs) : SortedIn lt 0 n d := by
  have := h 0
  rwa [Nat.mul_zero, Nat.zero_add, show min bs n = n by omega] at this
end
/-- What sorting a part comes to. -/
def Sorts (blk off a b : Nat) (d : Array S40) (w0 : World) (e : Ending) (w' : World) : Prop :=
  e = .returned (.tuple #[]) ∧ ∃ d', (PermIn a b d d' ∧ SortedIn (ltOf cfF) a b d') ∧ SWK enc40 6 w0 blk off d' w'
theorem ins_swk (blk off cap a b : Nat) (d0 d : Array S40) (w0 w : World) (R : RowK enc40 6 w0 blk off d0) (hs : d0.size = d.size) (S : SWK enc40 6 w0 blk off d w) (hab : a ≤ b) (hb : b ≤ d.size) (hsz : d.size < 1000000) :
    Calls Try.prog 37 #[.slice (some ⟨blk, off, none⟩) d.size cap, .int .i64 a, .int .i64 b, .func (.func 24) #[] #[]] w (Sorts blk off a b d w0) := by
  refine (ins_any blk off cap a b d w (S.holds R.hblk R.hH (by omega)) (S.lt R.hblk) hab hb (by omega)).mono ?_
  rintro e w' ⟨rfl, n, os, rfl⟩
  obtain ⟨h1, h2⟩ := insertionSort_holds ord_facts d a b hab hb
  exact ⟨rfl, _, ⟨h1, h2⟩, S.on R.hblk n _ os h1.1⟩
theorem sym_swk (blk off cap a m b : Nat) (d0 d : Array S40) (w0 w : World) (R : RowK enc40 6 w0 blk off d0) (hs : d0.size = d.size) (S : SWK enc40 6 w0 blk off d w) (ham : a < m) (hmb : m < b) (hb : b ≤ d.size) (hsz : d.size < 1000000) (h1 : SortedIn (ltOf cfF) a m d) (h2 : SortedIn (ltOf cfF) m b d) :
    Calls Try.prog 38 #[.slice (some ⟨blk, off, none⟩) d.size cap, .int .i64 a, .int .i64 m, .int .i64 b, .func (.func 24) #[] #[]] w (Sorts blk off a b d w0) :=
  sym_any laySort cfF ord_facts 24 #[] blk off cap d0 w0 enters24 (cmpLays24 blk off d0.size w0) R _ a m b d w (Nat.le_refl _) ham hmb hb hs hsz S h1 h2
set_option maxHeartbeats 4000000 in
set_option maxRecDepth 100000 in
theorem stable_full (blk off cap : Nat) (d0 d : Array S40) (w0 w : World) (R : RowK enc40 6 w0 blk off d0) (hs : d0.size = d.size) (S : SWK enc40 6 w0 blk off d w) (hsz : d.size < 1000000) :
    Calls Try.prog 33 #[.slice (some ⟨blk, off, none⟩) d.size cap, .int .i64 d.size, .func (.func 24) #[] #[]] w (Sorts blk off 0 d.size d w0) := by
  have S0 := Aside0.mk S
  have hins := Aside0.mk (fun (a b : Nat) (dk : Array S40) (W : World) (h1 : dk.size = d.size) (h2 : SWK enc40 6 w0 blk off dk W) (h3 : a ≤ b) (h4 : b ≤ d.size) =>
    (by have := ins_swk blk off cap a b d0 dk w0 W R (by omega) h2 h3 (by omega) (by omega); rwa [h1] at this : Calls Try.prog 37 #[.slice (some ⟨blk, off, none⟩) d.size cap, .int .i64 a, .int .i64 b, .func (.func 24) #[] #[]] W (Sorts blk off a b dk w0)))
  have hsym := Aside0.mk (fun (a m b : Nat) (dk : Array S40) (W : World) (h1 : dk.size = d.size) (h2 : SWK enc40 6 w0 blk off dk W) (h3 : a < m) (h4 : m < b) (h5 : b ≤ d.size) (h6 : SortedIn (ltOf cfF) a m dk) (h7 : SortedIn (ltOf cfF) m b dk) =>
    (by have := sym_swk blk off cap a m b d0 dk w0 W R (by omega) h2 h3 h4 (by omega) (by omega) h6 h7; rwa [h1] at this : Calls Try.prog 38 #[.slice (some ⟨blk, off, none⟩) d.size cap, .int .i64 a, .int .i64 m, .int .i64 b, .func (.func 24) #[] #[]] W (Sorts blk off a b dk w0)))
  obtain ⟨n, hn⟩ : ∃ n, n = d.size := ⟨_, rfl⟩
  rw [← hn] at hins hsym hsz ⊢
  have HN := Aside0.mk hn
  clear hn S hs R
  go_enter Try.func33, Try.ntmps33
  go_wp2
  go_loopg [7, 8] (n + 20) (fun kx s7 s8 wr => ∃ (a q : Nat) (dk : Array S40), s7 = .int .i64 a ∧ s8 = .int .i64 ((a + 20 : Nat) : Int) ∧ a ≤ n ∧ n + 20 - a ≤ kx ∧ Aside0 (a = 20 * q ∧ PermIn 0 n d dk ∧ Ini (ltOf cfF) q dk ∧ SWK enc40 6 w0 blk off dk wr))
  case atStart => exact ⟨0, 0, d, rfl, rfl, Nat.zero_le _, by omega, ⟨rfl, permIn_refl _ _ _, fun i hi => absurd hi (Nat.not_lt_zero _), S0.out⟩⟩
  case round =>
    obtain ⟨a, q, dk, rfl, rfl, han, hkx, H⟩ := hrel
    by_cases hlt : a + 20 ≤ n
    · have c1 : decide (((a + 20 : Nat) : Int) ≤ (n : Int)) = true := decide_eq_true (by omega)
      have hcall := Aside0.mk (hins.out a (a + 20) dk wr (by rw [H.out.2.1.1, HN.out]) H.out.2.2.2 (by omega) hlt)
      have r1 : IntKind.i64.wrap (((a + 20 : Nat) : Int) + 20) = ((a + 20 + 20 : Nat) : Int) := by rw [IntKind.wrap_i64]; omega
      go_wp2_with (go_at_call 37; refine Calls.mono hcall.out ?_; rintro e w' ⟨rfl, dn, hp, hS⟩; have HP := Aside0.mk hp; have HS := Aside0.mk hS; clear hp hS)
      go_roundg (n + 20 - (a + 20))
      case measure => omega
      case rel => exact ⟨a + 20, q + 1, dn, rfl, by first | rfl | (congr 1 <;> omega), hlt, Nat.le_refl _, ⟨by have := H.out.1; omega,
        permIn_trans _ _ _ _ _ H.out.2.1 (permIn_wide HP.out.1 (Nat.zero_le _) hlt (by rw [H.out.2.1.1, ← HN.out]; exact Nat.le_refl _) (by omega)),
        Ini.step H.out.2.2.1 (by have := HP.out.1; rwa [H.out.1] at this) (by have := HP.out.2; rwa [H.out.1] at this), HS.out⟩⟩
    · have c1 : decide (((a + 20 : Nat) : Int) ≤ (n : Int)) = false := decide_eq_false (by omega)
      have hcall := Aside0.mk (hins.out a n dk wr (by rw [H.out.2.1.1, HN.out]) H.out.2.2.2 han (by rw [HN.out]; exact Nat.le_refl _))
      go_wp2_with (go_at_call 37; refine Calls.mono hcall.out ?_; rintro e w' ⟨rfl, dn, hp, hS⟩; have HP := Aside0.mk hp; have HS := Aside0.mk hS; clear hp hS)
      have HB := Aside0.mk (show PermIn 0 n d dn ∧ Blk (ltOf cfF) 20 n dn from ⟨permIn_trans _ _ _ _ _ H.out.2.1 (permIn_wide HP.out.1 (Nat.zero_le _) (Nat.le_refl _) (by rw [H.out.2.1.1, ← HN.out]; exact Nat.le_refl _) han),
        Ini.done H.out.2.2.1 (by have := H.out.1; omega) (by have := H.out.1; omega) (by have := HP.out.1; rwa [H.out.1] at this) (by have := HP.out.2; rwa [H.out.1] at this)⟩)
      clear hcall H HP
      go_loopg [6] (2 * n + 40) (fun kx s6 wr2 => ∃ (bs : Nat) (dk : Array S40), s6 = .int .i64 bs ∧ 20 ≤ bs ∧ bs ≤ 2 * n + 20 ∧ 2 * n + 40 - bs ≤ kx ∧ Aside0 ((PermIn 0 n d dk ∧ Blk (ltOf cfF) bs n dk) ∧ SWK enc40 6 w0 blk off dk wr2))
      case atStart => exact ⟨20, dn, rfl, Nat.le_refl _, by omega, by omega, ⟨HB.out, HS.out⟩⟩
      case round =>
        clear HB HS
        obtain ⟨bs, dk, rfl, hb20, hbn, hkx2, H⟩ := hrel
        by_cases hlt2 : bs < n
        · have c2 : decide ((bs : Int) < (n : Int)) = true := decide_eq_true (by omega)
          have r1 : IntKind.i64.wrap (2 * (bs : Int)) = ((2 * bs : Nat) : Int) := by rw [IntKind.wrap_i64]; omega
          have r2 : IntKind.i64.wrap ((bs : Int) * 2) = ((2 * bs : Nat) : Int) := by rw [IntKind.wrap_i64]; omega
          go_wp2
          go_loopg [7, 8] (n + 2 * bs) (fun kx s7 s8 wr3 => ∃ (a q : Nat) (dj : Array S40), s7 = .int .i64 a ∧ s8 = .int .i64 ((a + 2 * bs : Nat) : Int) ∧ a ≤ n ∧ n + 2 * bs - a ≤ kx ∧ Aside0 (a = 2 * bs * q ∧ PermIn 0 n d dj ∧ Mid (ltOf cfF) bs n q dj ∧ SWK enc40 6 w0 blk off dj wr3))
          case atStart => exact ⟨0, 0, dk, rfl, by first | rfl | (congr 1 <;> omega), Nat.zero_le _, by omega, ⟨rfl, H.out.1.1, Mid.start H.out.1.2, H.out.2⟩⟩
          case round =>
            clear H
            obtain ⟨a, q, dj, rfl, rfl, han, hkx3, J⟩ := hrel
            have hsz3 := Aside0.mk (show dj.size = n from J.out.2.1.1.trans HN.out.symm)
            have r3 : IntKind.i64.wrap ((a : Int) + (bs : Int)) = ((a + bs : Nat) : Int) := by rw [IntKind.wrap_i64]; omega
            by_cases hlt3 : a + 2 * bs ≤ n
            · have c3 : decide (((a + 2 * bs : Nat) : Int) ≤ (n : Int)) = true := decide_eq_true (by omega)
              have hcall := Aside0.mk (hsym.out a (a + bs) (a + 2 * bs) dj wr hsz3.out J.out.2.2.2 (by omega) (by omega) hlt3
                (by have := J.out.2.2.1.left (by have := J.out.1; omega); rwa [← J.out.1] at this) (by have := J.out.2.2.1.right (e := a + 2 * bs) (by have := J.out.1; omega); rwa [← J.out.1] at this))
              have r4 : IntKind.i64.wrap (((a + 2 * bs : Nat) : Int) + ((2 * bs : Nat) : Int)) = ((a + 2 * bs + 2 * bs : Nat) : Int) := by rw [IntKind.wrap_i64]; omega
              go_wp2_with (go_at_call 38; refine Calls.mono hcall.out ?_; rintro e w' ⟨rfl, de, hp, hS⟩; have HP := Aside0.mk hp; have HS := Aside0.mk hS; clear hp hS)
              go_roundg (n + 2 * bs - (a + 2 * bs))
              case measure => omega
              case rel => exact ⟨a + 2 * bs, q + 1, de, rfl, by first | rfl | (congr 1 <;> omega), hlt3, Nat.le_refl _, ⟨by rw [Nat.mul_add, Nat.mul_one, ← J.out.1],
                permIn_trans _ _ _ _ _ J.out.2.1 (permIn_wide HP.out.1 (Nat.zero_le _) hlt3 (by rw [hsz3.out]; exact Nat.le_refl _) (by omega)),
                Mid.step J.out.2.2.1 (by have := HP.out.1; rwa [J.out.1] at this) (by have := HP.out.2; rwa [J.out.1] at this), HS.out⟩⟩
            · have c3 : decide (((a + 2 * bs : Nat) : Int) ≤ (n : Int)) = false := decide_eq_false (by omega)
              by_cases hm : a + bs < n
              · have c4 : decide (((a + bs : Nat) : Int) < (n : Int)) = true := decide_eq_true (by omega)
                have hcall := Aside0.mk (hsym.out a (a + bs) n dj wr hsz3.out J.out.2.2.2 (by omega) (by omega) (Nat.le_refl _)
                  (by have := J.out.2.2.1.left (by have := J.out.1; omega); rwa [← J.out.1] at this) (by have := J.out.2.2.1.right (e := n) (by have := J.out.1; omega); rwa [← J.out.1] at this))
                go_wp2_with (go_at_call 38; refine Calls.mono hcall.out ?_; rintro e w' ⟨rfl, de, hp, hS⟩; have HP := Aside0.mk hp; have HS := Aside0.mk hS; clear hp hS)
                go_roundg (2 * n + 40 - 2 * bs)
                case measure => omega
                case rel => exact ⟨2 * bs, de, by first | rfl | (congr 1 <;> omega), by omega, by omega, by omega, ⟨⟨permIn_trans _ _ _ _ _ J.out.2.1 (permIn_wide HP.out.1 (Nat.zero_le _) (Nat.le_refl _) (by rw [hsz3.out]; exact Nat.le_refl _) (by omega)),
                  Mid.done J.out.2.2.1 (by have := J.out.1; omega) (by have := J.out.1; omega) (by have := HP.out.1; rwa [J.out.1] at this) (by have := HP.out.2; rwa [J.out.1] at this)⟩, HS.out⟩⟩
              · have c4 : decide (((a + bs : Nat) : Int) < (n : Int)) = false := decide_eq_false (by omega)
                go_wp2
                go_roundg (2 * n + 40 - 2 * bs)
                case measure => omega
                case rel => exact ⟨2 * bs, dj, by first | rfl | (congr 1 <;> omega), by omega, by omega, by omega, ⟨⟨J.out.2.1, Mid.done J.out.2.2.1 (by have := J.out.1; omega) (by have := J.out.1; omega) (permIn_refl _ _ _) (Mid.rest J.out.2.2.1 (by have := J.out.1; omega))⟩, J.out.2.2.2⟩⟩
        · have c2 : decide ((bs : Int) < (n : Int)) = false := decide_eq_false (by omega)
          go_wp2
          go_end0
          exact ⟨rfl, dk, ⟨H.out.1.1, Blk.all H.out.1.2 (by omega)⟩, H.out.2⟩
end Go.Proofs.Ytidojompkihboaa.X
