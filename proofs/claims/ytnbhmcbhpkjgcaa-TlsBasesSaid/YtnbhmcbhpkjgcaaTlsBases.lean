/- TlsBases, walked: whatever index, calls and bases, it returns true. -/
import Derived.Test.YtnbhmcbhpkjgcaaTlsPure
import Derived.Test.YtnbhmcbhpkjgcaaBlk
namespace Go.Proofs.Ytnbhmcbhpkjgcaa
open Go.RowKit

set_option maxRecDepth 100000 in
set_option maxHeartbeats 2000000 in
theorem law_Made (base idx : Int) (A : Option Addr) (c : Nat) (l : List Int) (w : World) (hr : Row w A (ints l)) (hb0 : 0 ≤ base) (hb1 : base ≤ 4611686018427387904)
    (hi0 : 0 ≤ idx) (hi1 : idx ≤ 4611686018427387904) (hl : ∀ x ∈ l, 0 ≤ x ∧ x ≤ 4611686018427387904) (hm : l.length ≤ 140737488355328) :
    Calls Try.prog 13 #[.int .u64 base, .int .i64 idx, .slice A l.length c] w fun e w' =>
      ∃ Av cv, e = .returned (.slice Av (atL 16 base idx l).length cv) ∧ Bs w' Av cv (atL 16 base idx l) ∧ Below w.heap.size w w' := by
  have HL := hid hl
  clear hl
  go_enter Try.func13, Try.ntmps13
  go_wp2_with fail
  refine (law_At _ _ _ A c l _ hr (by omega) (by omega) hb0 hb1 hi0 hi1 HL hm).mono ?_
  rintro e w' ⟨Av, cv, rfl, hbs, hb⟩
  have HB := hid hbs
  clear hbs hr
  go_wp2
  go_ret
  exact ⟨Av, cv, rfl, HB, hb⟩

set_option maxRecDepth 100000 in
set_option maxHeartbeats 2000000 in
theorem ref_SameTls (i : Int) (A B : Option Addr) (c d : Nat) (l : List Int) (w : World) (ha : Row w A (ints l)) (hb : Row w B (ints l)) (hm : l.length ≤ 140737488355328) :
    Calls Try.prog 14 #[.agg #[.bool true, .int .i64 i, .slice A l.length c], .agg #[.bool true, .int .i64 i, .slice B l.length d]] w fun e w' => e = .returned (.bool true) ∧ Below w.heap.size w w' := by
  go_enter Try.func14, Try.ntmps14
  go_wp2_with fail
  have hbel : Below w.heap.size w ((w.alloc (.cells #[.bool true, .int .i64 i, .slice A l.length c] 32)).alloc (.cells #[.bool true, .int .i64 i, .slice B l.length d] 32)) := ((Below.refl _ _).alloc (Nat.le_refl _) _).alloc (by simp) _
  refine (ref_SameInts A B c d l _ (ha.below hbel) (hb.below hbel) hm).mono ?_
  rintro e w' ⟨rfl, n, rfl⟩
  go_wp2
  go_ret
  exact ⟨rfl, below_drewN' hbel⟩

/-- A made image's directory, parsed: what it was made of. -/
theorem parse_made (base idx size : Int) (A : Option Addr) (c : Nat) (l : List Int) (w : World) (hr : Bs w A c (atL 16 base idx l)) (hb1 : 1 ≤ base) (hb2 : base ≤ 1000000000000000) (hi0 : 0 ≤ idx) (hi1 : idx ≤ 63) (hl : l.length ≤ 8)
    (hx : ∀ x ∈ l, 0 ≤ x ∧ x ≤ 63) :
    Calls Try.prog 12 #[.slice A (atL 16 base idx l).length c, .agg #[.int .i64 16, .int .i64 size], .int .u64 base] w fun e w' =>
      ∃ B d, e = .returned (.tuple #[.agg #[.bool true, .int .i64 idx, .slice B l.length d], .int .i64 0]) ∧ Row w' B (ints l) ∧ Below w.heap.size w w' := by
  refine (tls_Parse A c _ 16 size base w hr).mono ?_
  rw [tlsF_made base idx l hb1 hb2 hi0 hi1 hl hx]
  rintro e w' ⟨v, rfl, hown, hb⟩
  obtain ⟨B, d, rfl, _, hrow⟩ := own_row hown
  exact ⟨B, d, rfl, hrow, hb⟩

/-- .. at a base far away: it is none. -/
theorem parse_far (base idx size other : Int) (A : Option Addr) (c : Nat) (l : List Int) (w : World) (hr : Bs w A c (atL 16 base idx l)) (hf : tlsF (atL 16 base idx l) 16 other = ((false, 0, []), 12)) :
    Calls Try.prog 12 #[.slice A (atL 16 base idx l).length c, .agg #[.int .i64 16, .int .i64 size], .int .u64 other] w fun e w' =>
      ∃ B d, e = .returned (.tuple #[.agg #[.bool false, .int .i64 0, .slice B 0 d], .int .i64 12]) ∧ Below w.heap.size w w' := by
  refine (tls_Parse A c _ 16 size other w hr).mono ?_
  rw [hf]
  rintro e w' ⟨v, rfl, hown, hb⟩
  obtain ⟨B, d, rfl, _, hrow⟩ := own_row hown
  exact ⟨B, d, rfl, hb⟩

set_option maxRecDepth 100000 in
set_option maxHeartbeats 4000000 in
theorem tls_awake (w : World) : Calls Try.prog 15 #[] w fun e w' => e = .returned (.bool true) ∧ Below w.heap.size w w' := by
  have hfar : tlsF (atL 16 65536 8 [1, 2]) 16 0 = ((false, 0, []), 12) := by decide +kernel
  have Hfar := hid hfar
  clear hfar
  go_enter Try.func15, Try.ntmps15
  go_wp2_with fail
  have h1 : Below w.heap.size w (w.alloc (.cells #[.int .i64 1, .int .i64 2] 3)) := (Below.refl _ _).alloc (Nat.le_refl _) _
  refine (law_Made 65536 8 (some ⟨w.heap.size, 0, none⟩) 2 [1, 2] _ (Row.new w #[.int .i64 1, .int .i64 2] 3) (by omega) (by omega) (by omega) (by omega) (by simp) (by simp)).mono ?_
  rintro e w1 ⟨Av, cv, rfl, hbs1, hb1⟩
  have hB1 := h1.trans (hb1.mono h1.size)
  clear h1 hb1
  have Hbs1 := hid hbs1
  clear hbs1
  go_wp2_with fail
  refine (parse_made 65536 8 0 Av cv [1, 2] w1 Hbs1 (by omega) (by omega) (by omega) (by omega) (by simp) (by simp)).mono ?_
  rintro e w2 ⟨B, d, rfl, hrow2, hb2⟩
  have hB2 := hB1.trans (hb2.mono hB1.size)
  have Hbs2 := hid (Hbs1.out.below hb2)
  have Hrow2 := hid hrow2
  clear hB1 hb2 Hbs1 hrow2
  go_wp2_with fail
  obtain ⟨W2, hW2⟩ : ∃ W, W = w2.alloc (.cells #[.bool true, .int .i64 8, .slice B 2 d] 32) := ⟨_, rfl⟩
  have hk2 : Blk W2 w2.heap.size #[.bool true, .int .i64 8, .slice B 2 d] 32 := by rw [hW2]; exact Blk.new _ _ _
  have ha2 : Below w2.heap.size w2 W2 := by rw [hW2]; exact (Below.refl _ _).alloc (Nat.le_refl _) _
  have hB2' := hB2.trans (ha2.mono hB2.size)
  have hrow2 : Row W2 B (ints [1, 2]) := Row.below Hrow2 ha2
  refine (parse_far 65536 8 0 0 Av cv [1, 2] _ (by rw [← hW2]; exact Bs.below Hbs2 ha2) Hfar).mono ?_
  rw [← hW2]
  rintro e w3 ⟨B3, d3, rfl, hb3⟩
  have hk3 := hk2.below hb3
  have hB3 := hB2'.trans (hb3.mono hB2'.size)
  have hrow3 := hrow2.below hb3
  have Hk3 := hid hk3
  have Hrow3 := hid hrow3
  clear hW2 hk2 ha2 hB2 hB2' hrow2 hb3 hk3 hrow3 Hbs2 Hrow2 Hfar
  go_wp2_with fail
  obtain ⟨W3, hW3⟩ : ∃ W, W = w3.alloc (.cells #[.bool false, .int .i64 0, .slice B3 0 d3] 32) := ⟨_, rfl⟩
  have ha3 : Below w3.heap.size w3 W3 := by rw [hW3]; exact (Below.refl _ _).alloc (Nat.le_refl _) _
  have hk4 := (Hk3.out.below ha3)
  have hrow4 := (Hrow3.out.below ha3)
  have hB3' := hB3.trans (ha3.mono hB3.size)
  refine (tls_Parse none 0 [] 0 0 5 _ ⟨.inl rfl, by simp, by simp⟩).mono ?_
  rw [← hW3, show tlsF [] 0 5 = ((false, 0, []), 0) from rfl]
  rintro e w4 ⟨v4, rfl, hown4, hb4⟩
  obtain ⟨B4, d4, rfl, _, _⟩ := own_row hown4
  have hk5 := hk4.below hb4
  have hrow5 := hrow4.below hb4
  have hB4 := hB3'.trans (hb4.mono hB3'.size)
  obtain ⟨hc, hf, hz⟩ := hk5.facts
  obtain ⟨ad, rfl, hcell⟩ := hrow5.int (k := 1) (by simp)
  have hcell' : w4.cell? ⟨ad.block, ad.off + 1, none⟩ = some (.int .i64 2) := hcell
  have hlt : ad.block < w4.heap.size := hrow5.lt (j := 1) (by simp [ints])
  clear hW3 ha3 hk4 hrow4 hB3 hB3' Hk3 Hrow3 hown4 hb4 hk5 hrow5 hcell hf
  go_wp2
  go_ret
  exact ⟨rfl, hB4.alloc hB4.size _⟩
end Go.Proofs.Ytnbhmcbhpkjgcaa
