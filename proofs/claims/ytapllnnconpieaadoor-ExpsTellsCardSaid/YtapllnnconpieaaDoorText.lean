/- le.Text. -/
import Derived.Test.YtapllnnconpieaaDoorLe
import Derived.Test.YtapllnnconpieaaDoorTextF
import Derived.Test.YtapllnnconpieaaDoorShelf
set_option linter.unusedVariables false
namespace Go.Proofs.YtapllnnconpieaaDoor
open Go.RowKit

theorem bytesOf_map (l : List UInt8) : Lib.bytesOf (l.map fun b => (b.toNat : Int)) = l := by
  unfold Lib.bytesOf
  rw [List.map_map]
  conv => rhs; rw [← List.map_id l]
  apply List.map_congr_left
  intro b _
  simp

theorem bytesIndex_S (A : Option Addr) (c : Nat) (l : List UInt8) (w : World) (hr : Row w A (bcells l)) (hl : l ≠ []) :
    Calls Tryd.prog 72 #[.slice A l.length c, .int .u8 0] w fun e w' => e = .returned (.int .i64 (Lib.indexByte l 0)) ∧ w = w' := by
  have h0 : 0 < l.length := List.length_pos_iff.2 hl
  obtain ⟨ad, rfl, hc0⟩ := hr.byte (k := 0) h0
  obtain ⟨b, o, s⟩ := ad
  have hs : s = none := by
    have e0 : (⟨b, o, s⟩ : Addr).add 0 = ⟨b, o, s⟩ := by simp [Addr.add]
    rw [e0] at hc0
    unfold World.cell? at hc0
    cases s with
    | none => rfl
    | some x =>
      simp only [Option.isSome_some, if_true] at hc0
      split at hc0 <;> cases hc0
  subst hs
  have h := Tryd.bytes_IndexByte b o l.length c (l.map fun b => (b.toNat : Int)) 0 w (by simp) (fun i hi => by
    obtain ⟨ad', e, hc⟩ := hr.byte hi
    obtain rfl := Option.some.inj e
    have e1 : (⟨b, o, none⟩ : Addr).add i = ⟨b, o + i, none⟩ := by
      unfold Addr.add
      split <;> simp_all
    rw [← e1, hc]
    simp [List.getD_eq_getElem?_getD, hi])
  rw [bytesOf_map] at h
  exact h.mono fun e w' ⟨he, hw⟩ => ⟨he, hw.symm⟩

set_option maxRecDepth 100000 in
set_option maxHeartbeats 2000000 in
theorem le_Text (A : Option Addr) (c : Nat) (l : List UInt8) (at' most : Int) (w : World) (hr : Bs w A c l) (h0 : 0 ≤ most) :
    Calls Tryd.prog 59 #[.slice A l.length c, .int .i64 at', .int .i64 most] w fun e w' => e = .returned (textV (textF l at' most)) ∧ w = w' := by
  have hm := hr.mx
  have hle := hr.le
  by_cases h1 : 0 ≤ at'
  · by_cases h2 : at' < l.length
    · obtain ⟨a, rfl⟩ := Int.eq_ofNat_of_zero_le h1
      have ha : a < l.length := by omega
      have hT : textF l a most = if 0 ≤ Lib.indexByte (l.drop a) 0 ∧ Lib.indexByte (l.drop a) 0 ≤ most then some ((l.drop a).take (Lib.indexByte (l.drop a) 0).toNat) else none := by
        unfold textF
        rw [if_pos ⟨h1, h2⟩]
        rfl
      rw [hT]
      obtain ⟨A1, hcut1, hrow1⟩ := slice_l (P := Tryd.prog) 22 5 1 Tryd.underlying22 info_u8 A l.length c .i64 a a rfl (by omega) hle
      have hr1 := hrow1 w (bcells l) (by rw [bcells_length]; omega) hr.row
      rw [Nat.mul_one, bcells, ← List.map_drop] at hr1
      have hIx := bytesIndex_S A1 (c - a) (l.drop a) w hr1 (by rw [ne_eq, List.drop_eq_nil_iff]; omega)
      rw [List.length_drop] at hIx
      have hlt := indexByte_len (l.drop a) 0
      have hge := Lib.indexByte_ge (l.drop a) 0
      obtain ⟨x, hx⟩ : ∃ x, Lib.indexByte (l.drop a) 0 = x := ⟨_, rfl⟩
      rw [hx] at hIx hlt hge ⊢
      rw [List.length_drop] at hlt
      have hx63 : x < 9223372036854775807 := by omega
      have HIX := hid hIx
      have hmax : max most 0 = most := by omega
      clear hT hrow1 hIx hx
      by_cases h3 : 0 ≤ x
      · by_cases h4 : x ≤ most
        · obtain ⟨i, rfl⟩ := Int.eq_ofNat_of_zero_le h3
          have hi : a + i < l.length := by omega
          rw [if_pos ⟨h3, h4⟩]
          obtain ⟨A2, hcut2, hrow2⟩ := slice_lh (P := Tryd.prog) 22 5 1 Tryd.underlying22 info_u8 A l.length c .i64 .i64 a (a + i) a i rfl rfl (by omega) hle
          have hr2 := hrow2 w (bcells l) (by rw [bcells_length]; omega) hr.row
          rw [Nat.mul_one, Nat.mul_one, bcells, ← List.map_drop, ← List.map_take] at hr2
          have hcv := run_str (P := Tryd.prog) w 22 9 5 Tryd.underlying22 Tryd.underlying5 Tryd.underlying9 A2 i (c - a) ((l.drop a).take i) (by simp; omega) hr2
          rw [Int.toNat_natCast]
          obtain ⟨X, hX⟩ : ∃ X, (l.drop a).take i = X := ⟨_, rfl⟩
          rw [hX] at hcv ⊢
          clear hrow2 hr2 hX hr1 h1 h2 hx63 hlt hge
          go_enter Tryd.func59, Tryd.ntmps59
          go_wp2_with fail
          refine HIX.out.mono ?_
          rintro e w' ⟨rfl, rfl⟩
          go_wp2_with fail
          go_ret2
          exact ⟨rfl, rfl⟩
        · rw [if_neg (fun h => h4 h.2)]
          clear h1 h2 hr1
          go_enter Tryd.func59, Tryd.ntmps59
          go_wp2_with fail
          refine HIX.out.mono ?_
          rintro e w' ⟨rfl, rfl⟩
          go_wp2_with fail
          go_ret2
          exact ⟨rfl, rfl⟩
      · rw [if_neg (fun h => h3 h.1)]
        clear h1 h2 hr1
        go_enter Tryd.func59, Tryd.ntmps59
        go_wp2_with fail
        refine HIX.out.mono ?_
        rintro e w' ⟨rfl, rfl⟩
        go_wp2_with fail
        go_ret2
        exact ⟨rfl, rfl⟩
    · have hT : textF l at' most = none := by unfold textF; rw [if_neg (fun h => h2 h.2)]
      rw [hT]
      clear hT
      go_enter Tryd.func59, Tryd.ntmps59
      go_wp2
      go_ret2
      exact ⟨rfl, rfl⟩
  · have hT : textF l at' most = none := by unfold textF; rw [if_neg (fun h => h1 h.1)]
    rw [hT]
    clear hT
    go_enter Tryd.func59, Tryd.ntmps59
    go_wp2
    go_ret2
    exact ⟨rfl, rfl⟩
end Go.Proofs.YtapllnnconpieaaDoor
