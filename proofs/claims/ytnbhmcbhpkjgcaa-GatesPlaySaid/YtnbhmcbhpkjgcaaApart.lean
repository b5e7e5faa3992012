/- gates: what the laws of layer 23 share; awake. -/
import Derived.Test.YtnbhmcbhpkjgcaaFree
import Derived.Test.YtnbhmcbhpkjgcaaBits
set_option linter.unusedSimpArgs false
set_option linter.unusedVariables false
namespace Go.Proofs.Ytnbhmcbhpkjgcaa
open Go.RowKit

/-- Numbers of threads that the call made. -/
structure SlotsIn (w0 w : World) (fs : Nat → Prop) (sp : Nat) (N : Int → Nat → Int) : Prop where
  st : SlotsAt w fs sp N
  up : Below w0.heap.size w0 w
  lo : ∀ g, fs g → w0.heap.size ≤ g
  hi : ∀ g, fs g → g < w.heap.size

theorem SlotsIn.next {w0 w w' : World} {fs fs' : Nat → Prop} {sp : Nat} {N N' : Int → Nat → Int} (h : SlotsIn w0 w fs sp N) (hn : SlotsNext w w' fs sp N' fs') : SlotsIn w0 w' fs' sp N' :=
  ⟨hn.st, hn.only.below h.up h.up.size h.lo, fun g hg => by
    have h1 := h.up.size
    rcases hn.fresh g hg with h2 | h2
    · exact h.lo g h2
    · omega, fun g hg => by
    have h1 := hn.only.size
    rcases hn.fresh g hg with h2 | h2
    · have := h.hi g h2; omega
    · omega⟩

theorem SlotsIn.below {w0 w w' : World} {fs : Nat → Prop} {sp : Nat} {N : Int → Nat → Int} (h : SlotsIn w0 w fs sp N) (hb : Below w.heap.size w w') : SlotsIn w0 w' fs sp N :=
  ⟨h.st.of_only (gs := fun g => w.heap.size ≤ g) ⟨hb.os, hb.tape, hb.output, hb.size, fun g hg _ => hb.block g hg⟩ (fun g hg hh => by have := h.hi g hg; omega), up_trans h.up hb, h.lo, fun g hg => Nat.lt_of_lt_of_le (h.hi g hg) hb.size⟩

/-- A row of numbers beside them. -/
structure AllAt (w : World) (fs : Nat → Prop) (A : Option Addr) (l : List Int) : Prop where
  row : Row w A (l.map (Value.int .i64))
  sep : ∀ ad, A = some ad → ¬ fs ad.block ∧ ad.block < w.heap.size

theorem add_block (a : Addr) (n : Nat) : (a.add n).block = a.block := by
  unfold Addr.add
  split <;> rfl

theorem cell_same {w w' : World} {a : Addr} (h : w'.heap[a.block]? = w.heap[a.block]?) : w'.cell? a = w.cell? a := by
  simp [World.cell?, h]

theorem AllAt.next {w w' : World} {fs fs' : Nat → Prop} {sp : Nat} {N' : Int → Nat → Int} {A : Option Addr} {l : List Int} (h : AllAt w fs A l) (hn : SlotsNext w w' fs sp N' fs') : AllAt w' fs' A l := by
  refine ⟨?_, fun ad e => ?_⟩
  · rcases h.row with h0 | ⟨ad, rfl, hc⟩
    · exact .inl h0
    · obtain ⟨s1, s2⟩ := h.sep ad rfl
      refine .inr ⟨ad, rfl, fun j hj => ?_⟩
      rw [cell_same (hn.only.same _ (by rw [add_block]; exact s2) (by rw [add_block]; exact s1))]
      exact hc j hj
  · obtain ⟨s1, s2⟩ := h.sep ad e
    refine ⟨fun hf => ?_, Nat.lt_of_lt_of_le s2 hn.only.size⟩
    rcases hn.fresh _ hf with h2 | h2
    · exact s1 h2
    · omega

theorem AllAt.int {w : World} {fs : Nat → Prop} {A : Option Addr} {l : List Int} (h : AllAt w fs A l) {k : Nat} (hk : k < l.length) : ∃ ad, A = some ad ∧ w.cell? (ad.add k) = some (.int .i64 l[k]) := by
  obtain ⟨ad, e, hc⟩ := h.row.cell (j := k) (by simpa using hk)
  exact ⟨ad, e, by rw [hc]; simp⟩

theorem own_all {w : World} {base : Nat} {v : Value} {n : Nat} {l : List Int} {fs : Nat → Prop} (h : w.ownsRow base 3 1 v n (l.map (Value.int .i64))) (hf : ∀ g, fs g → g < base) :
    ∃ A c, v = .slice A n c ∧ n ≤ c ∧ AllAt w fs A l := by
  obtain ⟨A, c, rfl, hc, hr⟩ := own_row h
  refine ⟨A, c, rfl, hc, hr, fun ad e => ?_⟩
  subst e
  obtain ⟨hl, ⟨e, _⟩ | ⟨g, cap, cur, e, hg, hh, _⟩⟩ := h
  · cases e
  · simp at e
    obtain ⟨rfl, rfl⟩ := e
    refine ⟨fun h1 => by have := hf _ h1; simp at this; omega, ?_⟩
    rcases Nat.lt_or_ge g w.heap.size with h' | h'
    · exact h'
    · simp [Array.getElem?_eq_none h'] at hh

theorem upd_same (N : Int → Nat → Int) (t v : Int) (i : Nat) : updN N t i v t i = v := by simp [updN]
theorem upd_other (N : Int → Nat → Int) (t v : Int) (i : Nat) (k : Int) (j : Nat) (h : k ≠ t ∨ j ≠ i) : updN N t i v k j = N k j := by
  unfold updN
  rw [if_neg]
  rintro ⟨h1, h2⟩
  rcases h with h | h
  · exact h h1
  · exact h (by omega)

theorem may_yes (t : Int) (i : Nat) (ht : 1 ≤ t) (hi : i < 32) : mayB t i = true := by
  simp only [mayB, decide_eq_true_eq]
  omega
theorem getN_yes (N : Int → Nat → Int) (t : Int) (i : Nat) (ht : 1 ≤ t) (hi : i < 32) : getN N t i = N t i := by
  rw [getN, may_yes t i ht hi, if_pos rfl, Int.toNat_natCast]

theorem slots_SetYes (w : World) (fs : Nat → Prop) (sp : Nat) (N : Int → Nat → Int) (h : SlotsAt w fs sp N) (t x v : Int) (hm : mayB t x = true) :
    Calls Try.prog 7 #[.pointer (some ⟨sp, 0, none⟩), .int .i64 t, .int .i64 x, .int .u64 v] w fun e w' => e = .returned (.bool true) ∧ ∃ fs', SlotsNext w w' fs sp (updN N t x v) fs' := by
  refine (slots_Set w fs sp N h t x v).mono ?_
  rw [hm]
  rintro e w' ⟨rfl, fs', hn⟩
  exact ⟨rfl, fs', hn⟩
theorem slots_SetNo (w : World) (fs : Nat → Prop) (sp : Nat) (N : Int → Nat → Int) (h : SlotsAt w fs sp N) (t x v : Int) (hm : mayB t x = false) :
    Calls Try.prog 7 #[.pointer (some ⟨sp, 0, none⟩), .int .i64 t, .int .i64 x, .int .u64 v] w fun e w' => e = .returned (.bool false) ∧ ∃ fs', SlotsNext w w' fs sp N fs' := by
  refine (slots_Set w fs sp N h t x v).mono ?_
  rw [hm]
  rintro e w' ⟨rfl, fs', hn⟩
  exact ⟨rfl, fs', hn⟩

set_option maxRecDepth 100000 in
set_option maxHeartbeats 2000000 in
theorem gates_awake (w : World) : Calls Try.prog 9 #[] w fun e w' => e = .returned (.bool true) ∧ Below w.heap.size w w' := by
  go_enter Try.func9, Try.ntmps9
  go_wp2_with fail
  refine (slots_New w).mono ?_
  rintro e w1 ⟨sp, fs, rfl, h1, hb1, hf1⟩
  have S1 := hid (⟨h1, hb1, fun g hg => (hf1 g hg).1, fun g hg => (hf1 g hg).2⟩ : SlotsIn w w1 fs sp (fun _ _ => 0))
  clear h1 hb1 hf1
  go_wp2_with fail
  refine (slots_SetYes w1 fs sp _ S1.out.st 1 31 9 (by decide)).mono ?_
  rintro e w2 ⟨rfl, fs2, hn2⟩
  have S2 := hid (S1.out.next hn2)
  clear hn2 S1
  go_wp2_with fail
  refine (slots_SetNo w2 fs2 sp _ S2.out.st 1 32 9 (by decide)).mono ?_
  rintro e w3 ⟨rfl, fs3, hn3⟩
  have S3 := hid (S2.out.next hn3)
  clear hn3 S2
  go_wp2_with fail
  refine (slots_SetNo w3 fs3 sp _ S3.out.st 0 1 9 (by decide)).mono ?_
  rintro e w4 ⟨rfl, fs4, hn4⟩
  have S4 := hid (S3.out.next hn4)
  clear hn4 S3
  go_wp2_with fail
  refine (slots_Get w4 fs4 sp _ S4.out.st 1 31).mono ?_
  rintro e w' ⟨rfl, rfl⟩
  rw [show getN (updN (fun _ _ => 0) 1 31 9) 1 31 = 9 by rfl]
  go_wp2_with fail
  refine (slots_Get w4 fs4 sp _ S4.out.st 2 31).mono ?_
  rintro e w' ⟨rfl, rfl⟩
  rw [show getN (updN (fun _ _ => 0) 1 31 9) 2 31 = 0 by rfl]
  go_wp2_with fail
  go_ret
  exact ⟨rfl, S4.out.up⟩
end Go.Proofs.Ytnbhmcbhpkjgcaa
