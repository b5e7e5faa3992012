/- The document's words on bytes (slipwayref1): Num, Int, Text. -/
import Derived.Test.YtajcihcbgmpdjaaRef
import Derived.Test.YtajcihcbgmpdjaaTextF
set_option linter.unusedVariables false
namespace Go.Proofs.Ytajcihcbgmpdjaa
open Go.RowKit

set_option maxRecDepth 100000 in
set_option maxHeartbeats 2000000 in
theorem ref_Num (l : List UInt8) (at' n : Int) (w : World) (hm : l.length ≤ 140737488355328) (hn8 : n ≤ 8) :
    Calls Try.prog 32 #[.string (S l), .int .i64 at', .int .i64 n] w fun e w' => e = .returned (.tuple #[.int .u64 (numAt l at' n), .bool (inB l.length at' n)]) ∧ w = w' := by
  have hs := S_size l
  cases hin : inB l.length at' n with
  | false =>
    have hn : numAt l at' n = 0 := by simp [numAt, hin]
    rw [hn]
    have HI := hid hin
    clear hin hn
    go_enter Try.func32, Try.ntmps32
    go_wp2_with fail
    refine (ref_In _ _ _ _ (by omega) (by omega)).mono ?_
    rintro e w' ⟨rfl, rfl⟩
    rw [HI.out]
    go_wp2_with fail
    go_ret2
    exact ⟨rfl, rfl⟩
  | true =>
    have hb : 0 ≤ at' ∧ 0 ≤ n ∧ at' ≤ l.length ∧ n ≤ (l.length : Int) - at' := by simpa [inB] using hin
    have hnum : numAt l at' n = lnum ((l.drop at'.toNat).take n.toNat) := by simp [numAt, hin]
    obtain ⟨a, rfl⟩ := Int.eq_ofNat_of_zero_le hb.1
    obtain ⟨n, rfl⟩ := Int.eq_ofNat_of_zero_le hb.2.1
    simp only [Int.toNat_natCast] at hnum
    rw [hnum]
    have hal : a + n ≤ l.length := by omega
    obtain ⟨s, hsd⟩ : ∃ s, (l.drop a).take n = s := ⟨_, rfl⟩
    have hget : ∀ j (h : j < n), ∃ (h1 : a + j < l.length) (h2 : j < s.length), l[a + j] = s[j] := fun j h => ⟨by omega, by rw [← hsd]; simp; omega, by subst hsd; simp⟩
    have hsl : s.length = n := by rw [← hsd]; simp; omega
    rw [hsd]
    have HI := hid hin
    have HSL := hid hsl
    have HG := hid hget
    clear hin hnum hb hsd hsl hget
    go_enter Try.func32, Try.ntmps32
    go_wp2_with fail
    refine (ref_In _ _ _ _ (by omega) (by omega)).mono ?_
    rintro e w' ⟨rfl, rfl⟩
    rw [HI.out]
    go_wp2_with fail
    go_loop [8, 9] (fun v k => ∃ j : Nat, j ≤ n ∧ k = .int .i64 j ∧ v = .int .u64 (lnum (s.take j))) (fun _ k => n - (intOf k).toNat)
    case atStart => exact ⟨0, Nat.zero_le _, rfl, by simp [lnum]⟩
    case round =>
      obtain ⟨j, hj, rfl, rfl⟩ := hrel
      by_cases hlt : j < n
      · obtain ⟨h1, h2, hg⟩ := HG.out j hlt
        have hx : (S l)[a + j]'(by rw [hs]; omega) = s[j] := hg
        have hst := lnum_step s j h2 (by omega)
        obtain ⟨b, hb⟩ : ∃ b, s[j] = b := ⟨_, rfl⟩
        rw [hb] at hx hst
        clear hg
        have HST := hid hst
        clear hb hst
        go_wp2
        go_round
        case rel => exact ⟨j + 1, by omega, by go_num, by rw [HST.out]⟩
        case measure => simp [intOf]; omega
      · go_wp2
        go_ret2
        have : j = n := by omega
        subst this
        rw [List.take_of_length_le (by rw [HSL.out]; exact Nat.le_refl _)]
        exact ⟨rfl, rfl⟩

theorem numAt_lt4 (l : List UInt8) (at' n : Int) (hn : n ≤ 4) : numAt l at' n < 4294967296 := by
  by_cases h : 0 ≤ n
  · obtain ⟨m, rfl⟩ := Int.eq_ofNat_of_zero_le h
    refine Nat.lt_of_lt_of_le (numAt_lt l at' m) ?_
    have : (256 : Nat) ^ m ≤ 256 ^ 4 := Nat.pow_le_pow_right (by decide) (by omega)
    omega
  · have : inB l.length at' n = false := by simp [inB]; omega
    simp [numAt, this]

set_option maxRecDepth 100000 in
set_option maxHeartbeats 2000000 in
theorem ref_Int (l : List UInt8) (at' n : Int) (w : World) (hm : l.length ≤ 140737488355328) (hn : n ≤ 4) :
    Calls Try.prog 30 #[.string (S l), .int .i64 at', .int .i64 n] w fun e w' => e = .returned (.int .i64 (numAt l at' n)) ∧ w = w' := by
  have hb := numAt_lt4 l at' n hn
  go_enter Try.func30, Try.ntmps30
  go_wp2_with fail
  refine (ref_Num l at' n _ hm (by omega)).mono ?_
  rintro e w' ⟨rfl, rfl⟩
  go_wp2
  go_ret
  exact ⟨rfl, rfl⟩

theorem nul_index : ∀ (l : List UInt8) (x : Nat), Lib.indexByte l 0 = x → ∃ h : x < l.length, l[x] = 0 ∧ ∀ j (hj : j < l.length), j < x → l[j] ≠ 0
  | [], x, h => by simp [Lib.indexByte] at h
  | b :: l, x, h => by
    unfold Lib.indexByte at h
    by_cases hb : (b == 0) = true
    · rw [if_pos hb] at h
      obtain rfl : x = 0 := by omega
      exact ⟨by simp, by simpa using hb, fun j _ hj => by omega⟩
    · rw [if_neg hb] at h
      have hg := Lib.indexByte_ge l 0
      by_cases h1 : (Lib.indexByte l 0 == -1) = true
      · rw [if_pos h1] at h
        omega
      · rw [if_neg h1] at h
        have h1' : Lib.indexByte l 0 ≠ -1 := by simpa using h1
        obtain ⟨y, hy⟩ := Int.eq_ofNat_of_zero_le (a := Lib.indexByte l 0) (by omega)
        obtain ⟨h1, h2, h3⟩ := nul_index l y hy
        obtain rfl : x = y + 1 := by omega
        refine ⟨by simp; omega, by simpa using h2, fun j hj hlt => ?_⟩
        rcases j with _ | j
        · simpa using hb
        · simpa using h3 j (by simpa using hj) (by omega)
theorem nul_none : ∀ (l : List UInt8), Lib.indexByte l 0 = -1 → ∀ j (hj : j < l.length), l[j] ≠ 0
  | [], _, j, hj => by simp at hj
  | b :: l, h, j, hj => by
    unfold Lib.indexByte at h
    by_cases hb : (b == 0) = true
    · rw [if_pos hb] at h
      omega
    · rw [if_neg hb] at h
      have hg := Lib.indexByte_ge l 0
      by_cases h1 : (Lib.indexByte l 0 == -1) = true
      · rcases j with _ | j
        · simpa using hb
        · simpa using nul_none l (by simpa using h1) j (by simpa using hj)
      · rw [if_neg h1] at h
        have h1' : Lib.indexByte l 0 ≠ -1 := by simpa using h1
        omega
/-- Where a text ends, or all bytes do. -/
theorem text_end (l : List UInt8) (a : Nat) (most : Int) (ha : a < l.length) : ∃ X, X ≤ l.length - a ∧ (∀ j (h : a + j < l.length), j < X → l[a + j] ≠ 0) ∧ (∀ h : a + X < l.length, l[a + X] = 0) ∧
    textF l a most = if X < l.length - a ∧ (X : Int) ≤ most then some ((l.drop a).take X) else none := by
  have hT : textF l a most = if 0 ≤ Lib.indexByte (l.drop a) 0 ∧ Lib.indexByte (l.drop a) 0 ≤ most then some ((l.drop a).take (Lib.indexByte (l.drop a) 0).toNat) else none := by
    unfold textF
    rw [if_pos ⟨by omega, by omega⟩]
    rfl
  have hg := Lib.indexByte_ge (l.drop a) 0
  by_cases h : 0 ≤ Lib.indexByte (l.drop a) 0
  · obtain ⟨x, hx⟩ := Int.eq_ofNat_of_zero_le h
    obtain ⟨h1, h2, h3⟩ := nul_index _ _ hx
    rw [List.length_drop] at h1
    refine ⟨x, by omega, fun j hj hlt => ?_, fun _ => ?_, ?_⟩
    · have := h3 j (by rw [List.length_drop]; omega) hlt
      rwa [List.getElem_drop] at this
    · rwa [List.getElem_drop] at h2
    · rw [hT, hx, Int.toNat_natCast]
      by_cases hm : (x : Int) ≤ most
      · rw [if_pos ⟨by omega, hm⟩, if_pos ⟨h1, hm⟩]
      · rw [if_neg (fun h => hm h.2), if_neg (fun h => hm h.2)]
  · refine ⟨l.length - a, Nat.le_refl _, fun j hj hlt => ?_, fun h => by omega, ?_⟩
    · have := nul_none (l.drop a) (by omega) j (by rw [List.length_drop]; omega)
      rwa [List.getElem_drop] at this
    · rw [hT, if_neg (fun hh => h hh.1), if_neg (fun hh => by omega)]

set_option maxRecDepth 100000 in
set_option maxHeartbeats 4000000 in
theorem ref_Text (l : List UInt8) (at' most : Int) (w : World) (hm : l.length ≤ 140737488351232) (h0 : 0 ≤ most) (h1 : most ≤ 1000) :
    Calls Try.prog 33 #[.string (S l), .int .i64 at', .int .i64 most] w fun e w' => e = .returned (textV (textF l at' most)) ∧ w = w' := by
  have hs := S_size l
  obtain ⟨most, rfl⟩ := Int.eq_ofNat_of_zero_le h0
  by_cases h2 : at' < 0
  · have hT : textF l at' most = none := by unfold textF; rw [if_neg (fun h => by omega)]
    rw [hT]
    clear hT
    go_enter Try.func33, Try.ntmps33
    go_wp2
    go_ret2
    exact ⟨rfl, rfl⟩
  · by_cases h3 : (l.length : Int) ≤ at'
    · have hT : textF l at' most = none := by unfold textF; rw [if_neg (fun h => by omega)]
      rw [hT]
      clear hT
      go_enter Try.func33, Try.ntmps33
      go_wp2
      go_ret2
      exact ⟨rfl, rfl⟩
    · obtain ⟨a, rfl⟩ := Int.eq_ofNat_of_zero_le (show 0 ≤ at' by omega)
      have ha : a < l.length := by omega
      obtain ⟨X, hX, hbef, hat, hT⟩ := text_end l a most ha
      obtain ⟨R, hR⟩ : ∃ R, textF l a most = R := ⟨_, rfl⟩
      rw [hR] at hT ⊢
      have HT := hid hT
      have HB := hid hbef
      have HA := hid hat
      have hmax : max (most : Int) 0 = most := by omega
      have hd1 : decide (l.length ≤ a) = false := decide_eq_false (by omega)
      have hd2 : decide ((a : Int) < 0) = false := decide_eq_false (by omega)
      clear hR hT hbef hat h0 h1 h2 h3
      go_enter Try.func33, Try.ntmps33
      go_wp2_with fail
      go_loopg [8] (X + 1) (fun g i wr => ∃ j : Nat, i = .int .i64 j ∧ j + g = X + 1 ∧ 1 ≤ g ∧ j ≤ most + 1 ∧ w = wr)
      case atStart => exact ⟨0, rfl, by omega, by omega, by omega, rfl⟩
      case round =>
        obtain ⟨j, rfl, hj, hg, hjm, rfl⟩ := hrel
        rcases gk with _ | m
        · omega
        · by_cases hm1 : j ≤ most
          · have hc1 : ((j : Int) ≤ (most : Int)) = True := by simp; omega
            by_cases hl : a + j < l.length
            · have hc2 : ((j : Int) < (l.length : Int) - (a : Int)) = True := by simp; omega
              have hx : (S l)[a + j]'(by rw [hs]; omega) = l[a + j] := rfl
              rcases m with _ | m
              · obtain rfl : j = X := by omega
                have hz : l[a + j] = 0 := HA.out hl
                rw [hz] at hx
                have hR2 := HT.out
                rw [if_pos ⟨by omega, by omega⟩] at hR2
                have hex : (S l).extract a (a + j) = S ((l.drop a).take j) := by
                  apply ByteArray.ext
                  simp [S, ByteArray.data_extract]
                obtain ⟨Y, hY⟩ : ∃ Y, (l.drop a).take j = Y := ⟨_, rfl⟩
                rw [hY] at hR2 hex
                subst hR2
                have HEX := hid hex
                clear hz hY hex
                go_wp2_with fail
                go_ret2
                refine ⟨?_, rfl⟩
                show Ending.returned (.tuple #[.string ((S l).extract a (a + j)), .bool true]) = _
                rw [HEX.out]
                rfl
              · have hz : l[a + j] ≠ 0 := HB.out j hl (by omega)
                obtain ⟨b, hb⟩ : ∃ b, l[a + j] = b := ⟨_, rfl⟩
                rw [hb] at hx hz
                have hz2 : ((b.toNat : Int) == 0) = false := by
                  simp only [beq_eq_false_iff_ne, ne_eq]
                  intro h
                  exact hz (UInt8.toNat_inj.1 (by simpa using h))
                clear hb hz
                go_wp2_with fail
                go_roundg (m + 1)
                case measure => omega
                case rel => exact ⟨j + 1, by go_num, by omega, by omega, by omega, rfl⟩
            · have hc2 : ((j : Int) < (l.length : Int) - (a : Int)) = False := by simp; omega
              have hR2 := HT.out
              rw [if_neg (fun h => by omega)] at hR2
              subst hR2
              go_wp2_with fail
              go_ret2
              exact ⟨rfl, rfl⟩
          · have hc1 : ((j : Int) ≤ (most : Int)) = False := by simp; omega
            have hR2 := HT.out
            rw [if_neg (fun h => by omega)] at hR2
            subst hR2
            go_wp2_with fail
            go_ret2
            exact ⟨rfl, rfl⟩
end Go.Proofs.Ytajcihcbgmpdjaa
