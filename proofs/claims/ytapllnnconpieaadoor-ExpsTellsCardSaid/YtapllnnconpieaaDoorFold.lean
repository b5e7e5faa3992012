/- fold: letters, names, symbols. -/
import Derived.Test.YtapllnnconpieaaDoorBase
import Derived.Test.YtapllnnconpieaaDoorShelf
set_option linter.unusedVariables false
namespace Go.Proofs.YtapllnnconpieaaDoor
open Go.RowKit

def letN (n : Nat) : Bool := decide ((97 ≤ n ∧ n ≤ 122) ∨ (65 ≤ n ∧ n ≤ 90) ∨ (48 ≤ n ∧ n ≤ 57) ∨ n = 46 ∨ n = 95 ∨ n = 45)

theorem let_cases (n : Nat) : (letN n = true ∧ ((97 ≤ n ∧ n ≤ 122) ∨ (65 ≤ n ∧ n ≤ 90) ∨ (48 ≤ n ∧ n ≤ 57) ∨ n = 46 ∨ n = 95 ∨ n = 45)) ∨
    (letN n = false ∧ (n < 45 ∨ n = 47 ∨ (58 ≤ n ∧ n ≤ 64) ∨ (91 ≤ n ∧ n ≤ 94) ∨ n = 96 ∨ 123 ≤ n)) := by
  unfold letN
  rw [decide_eq_true_eq, decide_eq_false_iff_not]
  omega

set_option maxRecDepth 100000 in
set_option maxHeartbeats 1000000 in
theorem fold_letter (n : Nat) (w : World) :
    Calls Tryd.prog 33 #[.int .u8 n] w fun e w' => e = .returned (.bool (letN n)) ∧ w = w' := by
  rcases let_cases n with ⟨hb, h⟩ | ⟨hb, h⟩
  all_goals rw [hb]; clear hb
  · rcases h with ⟨h1, h2⟩ | ⟨h1, h2⟩ | ⟨h1, h2⟩ | h1 | h1 | h1
    all_goals
      go_enter Tryd.func33, Tryd.ntmps33
      go_wp2
      all_goals first | omega | (go_ret; exact ⟨rfl, rfl⟩) | (go_ret; simp; omega)
  · rcases h with h1 | h1 | ⟨h1, h2⟩ | ⟨h1, h2⟩ | h1 | h1
    all_goals
      go_enter Tryd.func33, Tryd.ntmps33
      go_wp2
      all_goals first | omega | (go_ret; exact ⟨rfl, rfl⟩) | (go_ret; simp; omega)

/-- Whether a name may be. -/
def okF (l : List UInt8) : Bool := decide (1 ≤ l.length ∧ l.length ≤ 40) && l.all fun b => letN b.toNat
/-- Whether a symbol's name may be. -/
def symOkF (l : List UInt8) : Bool := decide (1 ≤ l.length ∧ l.length ≤ 60) && (l.head? != some 35) && l.all fun b => decide (33 ≤ b.toNat ∧ b.toNat ≤ 126)

theorem all_drop {α : Type} (p : α → Bool) (l : List α) (j : Nat) (h : j < l.length) : (l.drop j).all p = (p l[j] && (l.drop (j + 1)).all p) := by
  rw [List.drop_eq_getElem_cons h, List.all_cons]

set_option maxRecDepth 100000 in
set_option maxHeartbeats 1000000 in
theorem fold_Ok (l : List UInt8) (w : World) (hm : l.length ≤ 140737488355328) :
    Calls Tryd.prog 12 #[.string (S l)] w fun e w' => e = .returned (.bool (okF l)) ∧ w = w' := by
  have hs := S_size l
  by_cases h1 : 1 ≤ l.length
  · by_cases h2 : l.length ≤ 40
    · have hk : okF l = (l.drop 0).all fun b => letN b.toNat := by
        unfold okF
        rw [decide_eq_true ⟨h1, h2⟩, Bool.true_and, List.drop_zero]
      rw [hk]
      obtain ⟨R, hR⟩ : ∃ R, ((l.drop 0).all fun b => letN b.toNat) = R := ⟨_, rfl⟩
      rw [hR]
      have HR := hid hR
      clear hk hR
      go_enter Tryd.func12, Tryd.ntmps12
      go_wp2
      go_loopg [14] l.length (fun g i wr => ∃ j : Nat, i = .int .i64 j ∧ j + g = l.length ∧ Hid (((l.drop j).all fun b => letN b.toNat) = R) ∧ w = wr)
      case atStart => exact ⟨0, rfl, by omega, HR, rfl⟩
      case round =>
        obtain ⟨j, rfl, hj, HJ, rfl⟩ := hrel
        rcases gk with _ | m
        · have hjn : ((j : Int) < (l.length : Int)) = False := by simp; omega
          obtain rfl : R = true := by
            rw [← HJ.out, List.drop_of_length_le (by omega)]
            rfl
          go_wp2_with fail
          go_ret
          exact ⟨rfl, rfl⟩
        · have hlt : j < l.length := by omega
          have hjn : ((j : Int) < (l.length : Int)) = True := by simp; omega
          have hx := HJ.out
          rw [all_drop _ l j hlt] at hx
          have HX := hid hx
          clear hx HJ
          go_wp2_with fail
          refine (fold_letter l[j].toNat _).mono ?_
          rintro e w1 ⟨rfl, rfl⟩
          cases hb : letN l[j].toNat with
          | false =>
            obtain rfl : R = false := by
              have h := HX.out
              rw [hb] at h
              exact h.symm
            go_wp2_with fail
            go_ret
            exact ⟨rfl, rfl⟩
          | true =>
            have hn : ((l.drop (j + 1)).all fun b => letN b.toNat) = R := by
              have h := HX.out
              rw [hb, Bool.true_and] at h
              exact h
            have HN := hid hn
            clear hn HX
            go_wp2_with fail
            go_roundg m
            case measure => omega
            case rel => exact ⟨j + 1, by go_num, by omega, HN, rfl⟩
    · have hk : okF l = false := by
        unfold okF
        rw [decide_eq_false (by omega), Bool.false_and]
      rw [hk]
      clear hk
      go_enter Tryd.func12, Tryd.ntmps12
      go_wp2
      go_ret
      exact ⟨rfl, rfl⟩
  · have hk : okF l = false := by
      unfold okF
      rw [decide_eq_false (by omega), Bool.false_and]
    rw [hk]
    clear hk
    go_enter Tryd.func12, Tryd.ntmps12
    go_wp2
    go_ret
    exact ⟨rfl, rfl⟩

end Go.Proofs.YtapllnnconpieaaDoor
