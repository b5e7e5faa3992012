/- TlsBases: the law walked, whatever comes in. -/
import Derived.Test.YtnbhmcbhpkjgcaaTlsBases
import Derived.Test.YtnbhmcbhpkjgcaaBits
namespace Go.Proofs.Ytnbhmcbhpkjgcaa
open Go.RowKit

theorem wf_u64' {n : Int} (h : (Lit.int .u64 n).wf = true) : 0 ≤ n ∧ n < 18446744073709551616 := by
  simp [Lit.wf, IntKind.min, IntKind.max, IntKind.bits, IntKind.signed] at h
  omega
theorem base_bounds (a : Int) : 1 ≤ bits .or .u64 (bits .and .u64 a 281474976645120) 1048576 ∧ bits .or .u64 (bits .and .u64 a 281474976645120) 1048576 ≤ 1000000000000000 := by
  have h := and_le_u64 a 281474976645120 (by omega)
  obtain ⟨x, hx⟩ := Int.eq_ofNat_of_zero_le h.1
  have e1 : ((281474976645120 : Nat) : Int) = 281474976645120 := rfl
  rw [e1] at h hx
  rw [hx] at h ⊢
  have h2 := or_bounds_u64 x 1048576 48 (by omega) (by omega) (by omega)
  have e2 : ((1048576 : Nat) : Int) = 1048576 := rfl
  rw [e2] at h2
  have e3 : ((2 ^ 48 : Nat) : Int) = 281474976710656 := by decide
  omega

/-- What the loop masks. -/
def maskAll (l : List Int) : List Int := l.map fun x => bits .and .i64 x 63

set_option maxRecDepth 100000 in
set_option maxHeartbeats 8000000 in
theorem walk_TlsBases (W : World) (a0 : Int) (w0 : (Lit.int .i64 a0).wf = true) (A : Option Addr) (c : Nat) (l : List Int) (lc : l.length ≤ c) (lb : l.length * 8 ≤ 140737488351232) (lr : Row W A (l.map (Value.int .i64)))
    (lw : ∀ n ∈ l, (Lit.int .i64 n).wf = true) (a2 : Int) (w2 : (Lit.int .u64 a2).wf = true) (a3 : Int) (w3 : (Lit.int .u64 a3).wf = true) :
    Calls Try.prog 4 #[.int .i64 a0, .slice A l.length c, .int .u64 a2, .int .u64 a3] W fun e w' => e = .returned (.bool true) ∧ Below W.heap.size W w' := by
  have hw2 := (wf_u64' w2).1
  clear w0 w2 w3 lw
  obtain ⟨m, hm⟩ : ∃ m, m = bits .and .i64 a0 63 := ⟨_, rfl⟩
  have hm0 : 0 ≤ m ∧ m ≤ 63 := by rw [hm]; exact and_le_i64 a0 63 (by omega)
  have hm' : bits .and .i64 a0 63 = m := hm.symm
  obtain ⟨b, hb⟩ : ∃ b, b = bits .or .u64 (bits .and .u64 a2 281474976645120) 1048576 := ⟨_, rfl⟩
  have hb0 : 1 ≤ b ∧ b ≤ 1000000000000000 := by rw [hb]; exact base_bounds a2
  obtain ⟨d, hd⟩ : ∃ d, d = bits .or .u64 (bits .and .u64 a3 281474976645120) 1048576 := ⟨_, rfl⟩
  have hd0 : 1 ≤ d ∧ d ≤ 1000000000000000 := by rw [hd]; exact base_bounds a3
  have hb' : bits .or .u64 (bits .and .u64 a2 281474976645120) 1048576 = b := hb.symm
  have hd' : bits .or .u64 (bits .and .u64 a3 281474976645120) 1048576 = d := hd.symm
  obtain ⟨hm1, hm2⟩ := hm0
  obtain ⟨hb1, hb2⟩ := hb0
  obtain ⟨hd1, hd2⟩ := hd0
  clear hm hb hd hw2
  go_enter Try.func4, Try.ntmps4
  go_wp2
  go_loopw [9, 10] (fun v i wr => ∃ j : Nat, j ≤ l.length ∧ j ≤ 8 ∧ i = .int .i64 j ∧ wr.ownsRow W.heap.size 3 1 v j (ints (maskAll (l.take j))) ∧ Below W.heap.size W wr) (fun _ i _ => 8 - (intOf i).toNat)
  case atStart => exact ⟨0, Nat.zero_le _, Nat.zero_le _, rfl, World.ownsRow_nil _ _ _ _, Below.refl _ _⟩
  case round =>
    obtain ⟨j, hj, hj8, rfl, hown, hbw⟩ := hrel
    by_cases hlt : j < l.length ∧ j < 8
    · obtain ⟨hlt, hlt8⟩ := hlt
      have lr' : Row wr A (ints l) := Row.below (show Row W A (ints l) from lr) hbw
      obtain ⟨ad, rfl, hcell⟩ := lr'.int hlt
      obtain ⟨x, hx⟩ : ∃ x, x = l[j] := ⟨_, rfl⟩
      rw [← hx] at hcell
      have Hx := hid hx
      obtain ⟨Av, cv, rfl, hcv, hrow⟩ := own_row hown
      clear hrow hx
      go_wp2_with (at_builtin; refine wp_app wr rfl _ _ 22 rfl W.heap.size 3 (.int .i64 0) 1 8 Try.underlying22 ty_int rfl (by decide) (.slice Av j cv) j (ints (maskAll (l.take j))) (by rfl) hown [.int .i64 (bits .and .i64 x 63)] rfl (by simp [Value.oneCell']) (by rfl) (by omega) (by omega) hbw.size ?_; intro v' w1 hown' hbel hgr; clear hgr)
      go_roundw
      case rel => exact ⟨j + 1, by omega, by omega, by go_num, by rw [take_snoc l j hlt, ← Hx.out]; simpa [ints, maskAll] using hown', hbel _ hbw⟩
      case measure => simp [intOf]; omega
    · obtain ⟨L, hL⟩ : ∃ L, L = maskAll (l.take j) := ⟨_, rfl⟩
      have hLl : L.length = j := by rw [hL]; simp [maskAll]; omega
      have hLx : ∀ x ∈ L, 0 ≤ x ∧ x ≤ 63 := by
        rw [hL]
        intro x hx
        obtain ⟨y, _, rfl⟩ := List.mem_map.1 hx
        exact and_le_i64 y 63 (by omega)
      rw [← hL] at hown
      clear hL
      subst hLl
      obtain ⟨Av, cv, rfl, hcv, hrow⟩ := own_row hown
      have HLx := hid hLx
      have Hrow := hid hrow
      have HB := hid hbw
      clear hown hLx hrow hbw
      have hexit : (L.length < l.length ∧ ¬ L.length < 8) ∨ ¬ L.length < l.length := by omega
      clear hlt
      rcases hexit with ⟨h1, h2⟩ | h1
      all_goals
        go_wp2_with fail
        refine (law_Made b m Av cv L wr Hrow (by omega) (by omega) (by omega) (by omega) (fun x hx => by have := HLx.out x hx; omega) (by omega)).mono ?_
        rintro e w1 ⟨A1, c1, rfl, hbs1, hbe1⟩
        have HB1 := hid (HB.out.trans (hbe1.mono HB.out.size))
        have Hrow1 := hid (Hrow.out.below hbe1)
        have Hbs1 := hid hbs1
        clear hbs1 hbe1
        go_wp2_with fail
        refine (parse_made b m 0 A1 c1 L w1 Hbs1 hb1 hb2 hm1 hm2 hj8 HLx).mono ?_
        rintro e w2 ⟨B1, d1, rfl, hrow2, hbe2⟩
        have HB2 := hid (HB1.out.trans (hbe2.mono HB1.out.size))
        have Hr2 := hid (Hrow1.out.below hbe2)
        have Hx2 := hid hrow2
        clear hrow2 hbe2 Hbs1 Hrow1 HB1
        go_wp2_with fail
        obtain ⟨W2, hW2⟩ : ∃ W', W' = w2.alloc (.cells #[.bool true, .int .i64 m, .slice B1 L.length d1] 32) := ⟨_, rfl⟩
        have ha2 : Below w2.heap.size w2 W2 := by rw [hW2]; exact (Below.refl _ _).alloc (Nat.le_refl _) _
        have hk2 : Blk W2 w2.heap.size #[.bool true, .int .i64 m, .slice B1 L.length d1] 32 := by rw [hW2]; exact Blk.new _ _ _
        have hB2' := HB2.out.trans (ha2.mono HB2.out.size)
        have hr2' := Hr2.out.below ha2
        have hx2' := Hx2.out.below ha2
        refine (law_Made d m Av cv L _ (by rw [← hW2]; exact hr2') (by omega) (by omega) (by omega) (by omega) (fun x hx => by have := HLx.out x hx; omega) (by omega)).mono ?_
        rw [← hW2]
        rintro e w3 ⟨A3, c3, rfl, hbs3, hbe3⟩
        have HB3 := hid (hB2'.trans (hbe3.mono hB2'.size))
        have Hr3 := hid (hr2'.below hbe3)
        have Hx3 := hid (hx2'.below hbe3)
        have Hk3 := hid (hk2.below hbe3)
        have Hbs3 := hid hbs3
        clear hW2 ha2 hk2 hB2' hr2' hx2' hbs3 hbe3 Hr2 Hx2 HB2
        go_wp2_with fail
        refine (parse_made d m 0 A3 c3 L w3 Hbs3 hd1 hd2 hm1 hm2 hj8 HLx).mono ?_
        rintro e w4 ⟨B3, d3, rfl, hrow4, hbe4⟩
        have HB4 := hid (HB3.out.trans (hbe4.mono HB3.out.size))
        have Hr4 := hid (Hr3.out.below hbe4)
        have Hx4 := hid (Hx3.out.below hbe4)
        have Hk4 := hid (Hk3.out.below hbe4)
        have Hy4 := hid hrow4
        clear hrow4 hbe4 Hbs3 Hr3 Hx3 Hk3 HB3
        go_wp2_with fail
        obtain ⟨W4, hW4⟩ : ∃ W', W' = w4.alloc (.cells #[.bool true, .int .i64 m, .slice B3 L.length d3] 32) := ⟨_, rfl⟩
        have ha4 : Below w4.heap.size w4 W4 := by rw [hW4]; exact (Below.refl _ _).alloc (Nat.le_refl _) _
        have hk4' : Blk W4 w4.heap.size #[.bool true, .int .i64 m, .slice B3 L.length d3] 32 := by rw [hW4]; exact Blk.new _ _ _
        have hB4' := HB4.out.trans (ha4.mono HB4.out.size)
        have hk4 := Hk4.out.below ha4
        have hx4 := Hx4.out.below ha4
        have hy4 := Hy4.out.below ha4
        have hr4 := Hr4.out.below ha4
        refine (law_Made b m Av cv L _ (by rw [← hW4]; exact hr4) (by omega) (by omega) (by omega) (by omega) (fun x hx => by have := HLx.out x hx; omega) (by omega)).mono ?_
        rw [← hW4]
        rintro e w5 ⟨A5, c5, rfl, hbs5, hbe5⟩
        have HB5 := hid (hB4'.trans (hbe5.mono hB4'.size))
        have Hx5 := hid (hx4.below hbe5)
        have Hy5 := hid (hy4.below hbe5)
        have Hk5 := hid (hk4.below hbe5)
        have Hk5' := hid (hk4'.below hbe5)
        have Hbs5 := hid hbs5
        clear hW4 ha4 hk4 hk4' hB4' hx4 hy4 hr4 hbs5 hbe5 Hr4 Hx4 Hy4 Hk4 HB4
        go_wp2_with fail
        refine (parse_far b m 0 _ A5 c5 L w5 Hbs5 (tlsF_far b m L hb1 hb2 hm1 hm2 hj8 _ rfl)).mono ?_
        rintro e w6 ⟨B5, d5, rfl, hbe6⟩
        have hB6 := HB5.out.trans (hbe6.mono HB5.out.size)
        have hx6 := Hx5.out.below hbe6
        have hy6 := Hy5.out.below hbe6
        have hk6 := Hk5.out.below hbe6
        have hk6' := Hk5'.out.below hbe6
        have e6 : Below w6.heap.size w6 (w6.alloc (.cells #[.bool false, .int .i64 0, .slice B5 0 d5] 32)) := (Below.refl _ _).alloc (Nat.le_refl _) _
        have Hx7 := hid (hx6.below e6)
        have Hy7 := hid (hy6.below e6)
        have HB7 := hid (hB6.trans (e6.mono hB6.size))
        obtain ⟨hc1, hf1, hz1⟩ := hk6.facts
        obtain ⟨hc2, hf2, hz2⟩ := hk6'.facts
        clear hbe6 hx6 hy6 hk6 hk6' hf1 hf2 e6 hB6 Hx5 Hy5 Hk5 Hk5' Hbs5 HB5
        go_wp2_with (first | (go_at_call 14; refine (ref_SameTls m B1 B3 d1 d3 L _ Hx7 Hy7 (by omega)).mono ?_; rintro e w8 ⟨rfl, hbe8⟩; have HB8 := hid (HB7.out.trans (hbe8.mono HB7.out.size)); have k1 := hbe8.cell (p := ⟨w2.heap.size, 0, none⟩) (by simp <;> omega); rw [World.cell?_alloc_lt _ _ _ (by exact hz1), hc1] at k1; clear hbe8) | (go_at_call 15; refine (tls_awake _).mono ?_; rintro e w9 ⟨rfl, hbe9⟩; have HB9 := hid (HB8.out.trans (hbe9.mono HB8.out.size)); clear hbe9))
        go_ret
        exact ⟨rfl, HB9⟩
end Go.Proofs.Ytnbhmcbhpkjgcaa
