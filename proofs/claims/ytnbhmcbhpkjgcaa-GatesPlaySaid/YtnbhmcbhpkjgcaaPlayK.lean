/- GatesPlay: what each call does to the state. -/
import Derived.Test.YtnbhmcbhpkjgcaaOps
set_option linter.unusedSimpArgs false
set_option linter.unusedVariables false
namespace Go.Proofs.Ytnbhmcbhpkjgcaa
open Go.RowKit

variable {w0 w : World} {fs : Nat → Prop} {sp gc gw : Nat} {N : Int → Nat → Int} {W : Nat → Nat → Int} {a b : Value} {r0 r1 r2 : Int}

theorem play_Set0 (h : Play w0 w fs sp gc gw N W a b r0 r1 r2) (v : Int) : Calls Try.prog 19 #[.pointer (some ⟨gc, 0, none⟩), .int .i64 0, .int .u64 v] w fun e w' => e = .returned (.tuple #[]) ∧ Play w0 w' fs sp gc gw N W a b v r1 r2 ∧ Only w w' (· = gc) :=
  (cpu_Set w gc a b r0 r1 r2 h.cpu 0 (by omega) v).mono fun e w' ⟨he, h1, h2⟩ => ⟨he, h.regs (by simpa [setI] using h1) h2, h2⟩
theorem play_Set1 (h : Play w0 w fs sp gc gw N W a b r0 r1 r2) (v : Int) : Calls Try.prog 19 #[.pointer (some ⟨gc, 0, none⟩), .int .i64 1, .int .u64 v] w fun e w' => e = .returned (.tuple #[]) ∧ Play w0 w' fs sp gc gw N W a b r0 v r2 ∧ Only w w' (· = gc) :=
  (cpu_Set w gc a b r0 r1 r2 h.cpu 1 (by omega) v).mono fun e w' ⟨he, h1, h2⟩ => ⟨he, h.regs (by simpa [setI] using h1) h2, h2⟩
theorem play_Set2 (h : Play w0 w fs sp gc gw N W a b r0 r1 r2) (v : Int) : Calls Try.prog 19 #[.pointer (some ⟨gc, 0, none⟩), .int .i64 2, .int .u64 v] w fun e w' => e = .returned (.tuple #[]) ∧ Play w0 w' fs sp gc gw N W a b r0 r1 v ∧ Only w w' (· = gc) :=
  (cpu_Set w gc a b r0 r1 r2 h.cpu 2 (by omega) v).mono fun e w' ⟨he, h1, h2⟩ => ⟨he, h.regs (by simpa [setI] using h1) h2, h2⟩
theorem play_Reg0 (h : Play w0 w fs sp gc gw N W a b r0 r1 r2) (n : Nat) : Calls Try.prog 22 #[.pointer (some ⟨gc, 0, none⟩), .int .i64 0] (w.drewN n) fun e w' => e = .returned (.int .u64 r0) ∧ w.drewN n = w' :=
  cpu_Reg (w.drewN n) gc a b r0 r1 r2 (h.below (up_drewN (up_refl w) n)).cpu 0 (by omega)
theorem play_Reg1 (h : Play w0 w fs sp gc gw N W a b r0 r1 r2) (n : Nat) : Calls Try.prog 22 #[.pointer (some ⟨gc, 0, none⟩), .int .i64 1] (w.drewN n) fun e w' => e = .returned (.int .u64 r1) ∧ w.drewN n = w' :=
  cpu_Reg (w.drewN n) gc a b r0 r1 r2 (h.below (up_drewN (up_refl w) n)).cpu 1 (by omega)
theorem play_Reg2 (h : Play w0 w fs sp gc gw N W a b r0 r1 r2) (n : Nat) : Calls Try.prog 22 #[.pointer (some ⟨gc, 0, none⟩), .int .i64 2] (w.drewN n) fun e w' => e = .returned (.int .u64 r2) ∧ w.drewN n = w' :=
  cpu_Reg (w.drewN n) gc a b r0 r1 r2 (h.below (up_drewN (up_refl w) n)).cpu 2 (by omega)

theorem play_say (h : Play w0 w fs sp gc gw N W a b r0 r1 r2) (t : Int) (sb : Nat) (hs : Blk w sb #[.slice none 0 0] 52) (h0 : w0.heap.size ≤ sb) (hf : ¬ fs sb) (h1 : sb ≠ gc) (h2 : sb ≠ gw) :
    Calls Try.prog 20 #[.int .i64 32, .pointer (some ⟨gc, 0, none⟩), .pointer (some ⟨sp, 0, none⟩), .int .i64 t, tellV sb] w fun e w' => e = .returned (.bool true) ∧ ∃ A c, Blk w' sb #[.slice (some A) 1 c] 52 ∧ w'.cell? A = some (.int .u64 r1) ∧ Play w0 w' fs sp gc gw N W a b r0 r1 r2 ∧ Only w w' (· = sb) :=
  (do_say w gc a b r0 r1 r2 h.cpu _ t sb hs).mono fun e w' ⟨he, A, c, g1, g2, g3, g4⟩ => ⟨he, A, c, g1, g3, h.other sb g4 h0 hf h1 h2, g4⟩

theorem play_get (h : Play w0 w fs sp gc gw N W a b r0 r1 r2) (hr : 0 ≤ r1) (x : Int) (hx : idxI r1 = x) (t : Int) (f : Value) :
    Calls Try.prog 20 #[.int .i64 33, .pointer (some ⟨gc, 0, none⟩), .pointer (some ⟨sp, 0, none⟩), .int .i64 t, f] w fun e w' => e = .returned (.bool true) ∧ Play w0 w' fs sp gc gw N W a b (getN N t x) r1 r2 ∧ Only w w' (· = gc) :=
  (do_get w gc a b r0 r1 r2 h.cpu hr x hx fs sp N h.st.st t f).mono fun e w' ⟨he, h1, h2⟩ => ⟨he, h.regs h1 h2, h2⟩

/-- By the gate: a number that may not be set. -/
theorem play_setNo (h : Play w0 w fs sp gc gw N W a b r0 r1 r2) (hr : 0 ≤ r1) (x : Int) (hx : idxI r1 = x) (t : Int) (f : Value) (hm : mayB t x = false) (sb g8 : Nat) (n1 : sb ≠ gc) (n2 : g8 ≠ gc) (m1 : ¬ fs sb) (m2 : ¬ fs g8) :
    Calls Try.prog 20 #[.int .i64 34, .pointer (some ⟨gc, 0, none⟩), .pointer (some ⟨sp, 0, none⟩), .int .i64 t, f] w fun e w' => e = .returned (.bool true) ∧ ∃ fs', Play w0 w' fs' sp gc gw N W a b 0 r1 r2 ∧ Only w w' (fun g => g ≠ sb ∧ g ≠ g8) :=
  (do_set w gc a b r0 r1 r2 h.cpu hr x hx fs sp N h.st.st h.nc t f).mono fun e w' ⟨he, fs', w1, hn, hc, ho⟩ => by
    rw [hm] at hn hc
    have hn' : SlotsNext w w1 fs sp N fs' := by simpa [updM] using hn
    have hc' : Blk w' gc (cpuL a b 0 r1 r2) 97 := by simpa [bitI] using hc
    exact ⟨he, fs', (h.next hn' h.eq (fun x => x)).regs hc' ho, (hn'.only.mono (fun g _ hg => ⟨fun e => m1 (e ▸ hg), fun e => m2 (e ▸ hg)⟩)).trans (ho.mono (fun g _ hg => ⟨fun e => n1 (e ▸ hg), fun e => n2 (e ▸ hg)⟩))⟩

/-- What a gate that sets leaves, ahead of what is wanted. -/
structure Half (w0 w : World) (fs : Nat → Prop) (sp gc gw : Nat) (N : Int → Nat → Int) (W : Nat → Nat → Int) (a b : Value) (r0 r1 r2 : Int) : Prop where
  st : SlotsIn w0 w fs sp N
  cpu : Blk w gc (cpuL a b r0 r1 r2) 97
  want : Blk w gw (cells128 W) 48
  nc : ¬ fs gc
  nw : ¬ fs gw
  ne : gc ≠ gw
  c0 : w0.heap.size ≤ gc
  g0 : w0.heap.size ≤ gw

theorem Half.wants {w' : World} {W' : Nat → Nat → Int} (h : Half w0 w fs sp gc gw N W a b r0 r1 r2) (hW : Blk w' gw (cells128 W') 48) (ho : Only w w' (· = gw)) (he : ∀ (t x : Nat), 1 ≤ t → t < 4 → x < 32 → N t x = W' t x) : Play w0 w' fs sp gc gw N W' a b r0 r1 r2 :=
  ⟨⟨h.st.st.of_only ho (fun g hg e => h.nw (e ▸ hg)), ho.below h.st.up h.st.up.size (fun g e => e ▸ h.g0), h.st.lo, fun g hg => Nat.lt_of_lt_of_le (h.st.hi g hg) ho.size⟩, h.cpu.only ho h.ne, hW, h.nc, h.nw, h.ne, h.c0, h.g0, he⟩

theorem play_setYes (h : Play w0 w fs sp gc gw N W a b r0 r1 r2) (hr : 0 ≤ r1) (p q : Nat) (p1 : 1 ≤ p) (p4 : p < 4) (q32 : q < 32) (hx : idxI r1 = q) (f : Value) (sb g8 : Nat) (n1 : sb ≠ gc) (n2 : g8 ≠ gc) (m1 : ¬ fs sb) (m2 : ¬ fs g8) :
    Calls Try.prog 20 #[.int .i64 34, .pointer (some ⟨gc, 0, none⟩), .pointer (some ⟨sp, 0, none⟩), .int .i64 p, f] w fun e w' => e = .returned (.bool true) ∧ ∃ fs', Half w0 w' fs' sp gc gw (updN N p q r2) W a b 1 r1 r2 ∧ Only w w' (fun g => g ≠ sb ∧ g ≠ g8) :=
  (do_set w gc a b r0 r1 r2 h.cpu hr q hx fs sp N h.st.st h.nc p f).mono fun e w' ⟨he, fs', w1, hn, hc, ho⟩ => by
    rw [may_yes p q (by omega) q32] at hn hc
    have hn' : SlotsNext w w1 fs sp (updN N p q r2) fs' := by simpa [updM] using hn
    have hc' : Blk w' gc (cpuL a b 1 r1 r2) 97 := by simpa [bitI] using hc
    have hs := h.st.next hn'
    have hnf : ¬ fs' gw := fun hf => by
      rcases hn'.fresh _ hf with h2 | h2
      · exact h.nw h2
      · have := h.want.lt; omega
    have hnc : ¬ fs' gc := fun hf => by
      rcases hn'.fresh _ hf with h2 | h2
      · exact h.nc h2
      · have := h.cpu.lt; omega
    exact ⟨he, fs', ⟨⟨hs.st.of_only ho (fun g hg e => hnc (e ▸ hg)), ho.below hs.up hs.up.size (fun g e => e ▸ h.c0), hs.lo, fun g hg => Nat.lt_of_lt_of_le (hs.hi g hg) ho.size⟩, hc', (h.want.only hn'.only h.nw).only ho (fun e => h.ne e.symm), hnc, hnf, h.ne, h.c0, h.g0⟩,
      (hn'.only.mono (fun g _ hg => ⟨fun e => m1 (e ▸ hg), fun e => m2 (e ▸ hg)⟩)).trans (ho.mono (fun g _ hg => ⟨fun e => n1 (e ▸ hg), fun e => n2 (e ▸ hg)⟩))⟩


theorem idx_cases (x : Int) (lo : -9223372036854775808 ≤ x) (hi : x < 9223372036854775808) : (0 ≤ x ∧ x < 32 ∧ IntKind.u64.wrap x = x ∧ idxI x = x) ∨ (¬ (0 ≤ x ∧ x < 32) ∧ idxI (IntKind.u64.wrap x) = -1) := by
  have hw : IntKind.u64.wrap x = x % 18446744073709551616 := by simp [IntKind.wrap, IntKind.bits, IntKind.signed]
  rw [hw]
  unfold idxI
  by_cases h : 0 ≤ x ∧ x < 32
  · left
    refine ⟨h.1, h.2, by omega, by rw [if_neg (by omega)]⟩
  · right
    refine ⟨h, by rw [if_pos (by omega)]⟩
theorem wrap_pos (x : Int) : 0 ≤ IntKind.u64.wrap x := by
  have hw : IntKind.u64.wrap x = x % 18446744073709551616 := by simp [IntKind.wrap, IntKind.bits, IntKind.signed]
  omega
theorem zeros_one : (Array.replicate 32 (Value.int .u64 0)).all (·.oneCell') = true := by decide +kernel
theorem may_neg (t : Int) : mayB t (-1) = false := by simp [mayB]
theorem may_idx (t x : Int) (lo : -9223372036854775808 ≤ x) (hi : x < 9223372036854775808) : mayB t (idxI (IntKind.u64.wrap x)) = mayB t x := by
  rcases idx_cases x lo hi with ⟨_, _, h3, h4⟩ | ⟨h1, h2⟩
  · rw [h3, h4]
  · rw [h2, may_neg]
    symm
    simp only [mayB, decide_eq_false_iff_not]
    omega
theorem get_idx (N : Int → Nat → Int) (t x : Int) (lo : -9223372036854775808 ≤ x) (hi : x < 9223372036854775808) : getN N t (idxI (IntKind.u64.wrap x)) = getN N t x := by
  rcases idx_cases x lo hi with ⟨_, _, h3, h4⟩ | ⟨h1, h2⟩
  · rw [h3, h4]
  · rw [h2, getN_no _ _ _ (may_neg t), getN_no]
    simp only [mayB, decide_eq_false_iff_not]
    omega
theorem xF_bounds (n : Int) (lo : -9223372036854775808 ≤ n) (hi : n < 9223372036854775808) : -9223372036854775808 ≤ xF n ∧ xF n < 9223372036854775808 := by
  unfold xF
  split
  · exact ⟨lo, hi⟩
  · have : 0 ≤ bits .and .i64 n 31 ∧ bits .and .i64 n 31 ≤ 31 := and_le_i64 n 31 (by omega)
    omega
end Go.Proofs.Ytnbhmcbhpkjgcaa
