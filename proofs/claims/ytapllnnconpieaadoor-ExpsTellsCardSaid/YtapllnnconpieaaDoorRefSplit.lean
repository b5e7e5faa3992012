/- The document's words on names (slipwayref1): NameOk, SymOk, Number, Split. -/
import Derived.Test.YtapllnnconpieaaDoorFold4
import Derived.Test.YtapllnnconpieaaDoorDigits
import Derived.Test.YtapllnnconpieaaDoorOnly
import Derived.Outline
set_option linter.unusedVariables false
namespace Go.Proofs.YtapllnnconpieaaDoor
open Go.RowKit
open Go.Lib (decDigits digitVal decFrom atoi itoa)

set_option maxRecDepth 100000 in
set_option maxHeartbeats 4000000 in
theorem ref_NameOk (l : List UInt8) (w : World) (hm : l.length ≤ 140737488355328) :
    Calls Tryd.prog 62 #[.string (S l)] w fun e w' => e = .returned (.bool (okF l)) ∧ w = w' := by
  have hs := S_size l
  have hS := S_toList l
  by_cases h1 : 1 ≤ l.length
  · have he : l.isEmpty = false := by cases l <;> simp_all
    by_cases h2 : l.length ≤ 40
    · have hk : okF l = (l.drop 0).all fun b => letN b.toNat := by
        unfold okF
        rw [decide_eq_true ⟨h1, h2⟩, Bool.true_and, List.drop_zero]
      rw [hk]
      obtain ⟨R, hR⟩ : ∃ R, ((l.drop 0).all fun b => letN b.toNat) = R := ⟨_, rfl⟩
      rw [hR]
      have HR := hid hR
      clear hk hR
      go_enter Tryd.func62, Tryd.ntmps62
      go_wp2
      go_loopg [3] l.length (fun g i wr => ∃ j : Nat, i = .int .i64 j ∧ j + g = l.length ∧ Hid (((l.drop j).all fun b => letN b.toNat) = R) ∧ w = wr)
      case atStart => exact ⟨0, rfl, by omega, HR, rfl⟩
      case round =>
        obtain ⟨j, rfl, hj, HJ, rfl⟩ := hrel
        rcases gk with _ | m
        · have hjn : ((j : Int) < (l.length : Int)) = False := by simp; omega
          obtain rfl : R = true := by
            rw [← HJ.out, List.drop_of_length_le (by omega)]
            rfl
          go_wp2_with fail
          go_ret
          exact ⟨rfl, rfl⟩
        · have hlt : j < l.length := by omega
          have hjn : ((j : Int) < (l.length : Int)) = True := by simp; omega
          have hx := HJ.out
          rw [all_drop _ l j hlt] at hx
          have HX := hid hx
          have hxj : (S l)[j]'(by rw [hs]; omega) = l[j] := rfl
          clear hx HJ
          obtain ⟨b, hb⟩ : ∃ b, l[j] = b := ⟨_, rfl⟩
          rw [hb] at hxj HX
          clear hb
          rcases let_cases b.toNat with ⟨hb, h⟩ | ⟨hb, h⟩
          · have hn : ((l.drop (j + 1)).all fun b => letN b.toNat) = R := by
              have h := HX.out
              rw [hb, Bool.true_and] at h
              exact h
            have HN := hid hn
            clear hn HX hb
            rcases h with ⟨h1, h2⟩ | ⟨h1, h2⟩ | ⟨h1, h2⟩ | h1 | h1 | h1
            all_goals
              first | (have k0 : decide ((97 : Int) ≤ (b.toNat : Int)) = true := decide_eq_true (by omega)) | (have k0 : decide ((97 : Int) ≤ (b.toNat : Int)) = false := decide_eq_false (by omega))
              first | (have k1 : decide ((b.toNat : Int) ≤ 122) = true := decide_eq_true (by omega)) | (have k1 : decide ((b.toNat : Int) ≤ 122) = false := decide_eq_false (by omega))
              first | (have k2 : decide ((65 : Int) ≤ (b.toNat : Int)) = true := decide_eq_true (by omega)) | (have k2 : decide ((65 : Int) ≤ (b.toNat : Int)) = false := decide_eq_false (by omega))
              first | (have k3 : decide ((b.toNat : Int) ≤ 90) = true := decide_eq_true (by omega)) | (have k3 : decide ((b.toNat : Int) ≤ 90) = false := decide_eq_false (by omega))
              first | (have k4 : decide ((48 : Int) ≤ (b.toNat : Int)) = true := decide_eq_true (by omega)) | (have k4 : decide ((48 : Int) ≤ (b.toNat : Int)) = false := decide_eq_false (by omega))
              first | (have k5 : decide ((b.toNat : Int) ≤ 57) = true := decide_eq_true (by omega)) | (have k5 : decide ((b.toNat : Int) ≤ 57) = false := decide_eq_false (by omega))
              first | (have e0 : ((b.toNat : Int) == 46) = true := by simp; omega) | (have e0 : ((b.toNat : Int) == 46) = false := by simp; omega)
              first | (have e1 : ((b.toNat : Int) == 95) = true := by simp; omega) | (have e1 : ((b.toNat : Int) == 95) = false := by simp; omega)
              first | (have e2 : ((b.toNat : Int) == 45) = true := by simp; omega) | (have e2 : ((b.toNat : Int) == 45) = false := by simp; omega)
              go_wp2_with fail
              go_roundg m
              case measure => omega
              case rel => exact ⟨j + 1, by go_num, by omega, HN, rfl⟩
          · obtain rfl : R = false := by
              have h := HX.out
              rw [hb] at h
              exact h.symm
            clear hb HX
            rcases h with h1 | h1 | ⟨h1, h2⟩ | ⟨h1, h2⟩ | h1 | h1
            all_goals
              first | (have k0 : decide ((97 : Int) ≤ (b.toNat : Int)) = true := decide_eq_true (by omega)) | (have k0 : decide ((97 : Int) ≤ (b.toNat : Int)) = false := decide_eq_false (by omega))
              first | (have k1 : decide ((b.toNat : Int) ≤ 122) = true := decide_eq_true (by omega)) | (have k1 : decide ((b.toNat : Int) ≤ 122) = false := decide_eq_false (by omega))
              first | (have k2 : decide ((65 : Int) ≤ (b.toNat : Int)) = true := decide_eq_true (by omega)) | (have k2 : decide ((65 : Int) ≤ (b.toNat : Int)) = false := decide_eq_false (by omega))
              first | (have k3 : decide ((b.toNat : Int) ≤ 90) = true := decide_eq_true (by omega)) | (have k3 : decide ((b.toNat : Int) ≤ 90) = false := decide_eq_false (by omega))
              first | (have k4 : decide ((48 : Int) ≤ (b.toNat : Int)) = true := decide_eq_true (by omega)) | (have k4 : decide ((48 : Int) ≤ (b.toNat : Int)) = false := decide_eq_false (by omega))
              first | (have k5 : decide ((b.toNat : Int) ≤ 57) = true := decide_eq_true (by omega)) | (have k5 : decide ((b.toNat : Int) ≤ 57) = false := decide_eq_false (by omega))
              first | (have e0 : ((b.toNat : Int) == 46) = true := by simp; omega) | (have e0 : ((b.toNat : Int) == 46) = false := by simp; omega)
              first | (have e1 : ((b.toNat : Int) == 95) = true := by simp; omega) | (have e1 : ((b.toNat : Int) == 95) = false := by simp; omega)
              first | (have e2 : ((b.toNat : Int) == 45) = true := by simp; omega) | (have e2 : ((b.toNat : Int) == 45) = false := by simp; omega)
              go_wp2_with fail
              go_ret
              exact ⟨rfl, rfl⟩
    · have hk : okF l = false := by
        unfold okF
        rw [decide_eq_false (by omega), Bool.false_and]
      rw [hk]
      clear hk
      go_enter Tryd.func62, Tryd.ntmps62
      go_wp2
      go_ret
      exact ⟨rfl, rfl⟩
  · have hk : okF l = false := by
      unfold okF
      rw [decide_eq_false (by omega), Bool.false_and]
    rw [hk]
    clear hk
    obtain rfl : l = [] := List.eq_nil_of_length_eq_zero (by omega)
    clear hs h1 hm
    go_enter Tryd.func62, Tryd.ntmps62
    go_wp2
    go_ret
    exact ⟨rfl, rfl⟩

set_option maxRecDepth 100000 in
set_option maxHeartbeats 4000000 in
theorem ref_SymOk (l : List UInt8) (w : World) (hm : l.length ≤ 140737488355328) :
    Calls Tryd.prog 47 #[.string (S l)] w fun e w' => e = .returned (.bool (symOkF l)) ∧ w = w' := by
  have hs := S_size l
  have hS := S_toList l
  by_cases h1 : 1 ≤ l.length
  · have he : l.isEmpty = false := by cases l <;> simp_all
    by_cases h2 : l.length ≤ 60
    · have hx0 : (S l)[0]'(by rw [hs]; omega) = l[0] := rfl
      by_cases h35 : l[0].toNat = 35
      · have hk : symOkF l = false := by
          unfold symOkF
          have : l.head? = some 35 := by
            rw [List.head?_eq_getElem?, List.getElem?_eq_getElem (by omega)]
            congr 1
            exact UInt8.toNat_inj.1 h35
          rw [this]
          simp
        rw [hk]
        clear hk
        go_enter Tryd.func47, Tryd.ntmps47
        go_wp2
        go_ret
        exact ⟨rfl, rfl⟩
      · have hk : symOkF l = (l.drop 0).all fun b => decide (33 ≤ b.toNat ∧ b.toNat ≤ 126) := by
          unfold symOkF
          have : (l.head? != some 35) = true := by
            rw [List.head?_eq_getElem?, List.getElem?_eq_getElem (by omega)]
            simp only [bne_iff_ne, ne_eq, Option.some.injEq]
            intro h
            exact h35 (by rw [h]; rfl)
          rw [decide_eq_true ⟨h1, h2⟩, this, Bool.true_and, Bool.true_and, List.drop_zero]
        rw [hk]
        have h35' : ((l[0].toNat : Int) == 35) = false := by simp; omega
        obtain ⟨R, hR⟩ : ∃ R, ((l.drop 0).all fun b => decide (33 ≤ b.toNat ∧ b.toNat ≤ 126)) = R := ⟨_, rfl⟩
        rw [hR]
        have HR := hid hR
        clear hk hR
        go_enter Tryd.func47, Tryd.ntmps47
        go_wp2
        go_loopg [3] l.length (fun g i wr => ∃ j : Nat, i = .int .i64 j ∧ j + g = l.length ∧ Hid (((l.drop j).all fun b => decide (33 ≤ b.toNat ∧ b.toNat ≤ 126)) = R) ∧ w = wr)
        case atStart => exact ⟨0, rfl, by omega, HR, rfl⟩
        case round =>
          obtain ⟨j, rfl, hj, HJ, rfl⟩ := hrel
          rcases gk with _ | m
          · have hjn : ((j : Int) < (l.length : Int)) = False := by simp; omega
            obtain rfl : R = true := by
              rw [← HJ.out, List.drop_of_length_le (by omega)]
              rfl
            go_wp2_with fail
            go_ret
            exact ⟨rfl, rfl⟩
          · have hlt : j < l.length := by omega
            have hjn : ((j : Int) < (l.length : Int)) = True := by simp; omega
            have hx := HJ.out
            rw [all_drop _ l j hlt] at hx
            have HX := hid hx
            have hxj : (S l)[j]'(by rw [hs]; omega) = l[j] := rfl
            clear hx HJ
            by_cases hb1 : 33 ≤ l[j].toNat
            · by_cases hb2 : l[j].toNat ≤ 126
              · have hn : ((l.drop (j + 1)).all fun b => decide (33 ≤ b.toNat ∧ b.toNat ≤ 126)) = R := by
                  have h := HX.out
                  rw [decide_eq_true ⟨hb1, hb2⟩, Bool.true_and] at h
                  exact h
                have HN := hid hn
                clear hn HX
                go_wp2_with fail
                go_roundg m
                case measure => omega
                case rel => exact ⟨j + 1, by go_num, by omega, HN, rfl⟩
              · obtain rfl : R = false := by
                  have h := HX.out
                  rw [decide_eq_false (by omega)] at h
                  exact h.symm
                go_wp2_with fail
                go_ret
                exact ⟨rfl, rfl⟩
            · obtain rfl : R = false := by
                have h := HX.out
                rw [decide_eq_false (by omega)] at h
                exact h.symm
              go_wp2_with fail
              go_ret
              exact ⟨rfl, rfl⟩
    · have hk : symOkF l = false := by
        unfold symOkF
        rw [decide_eq_false (by omega), Bool.false_and, Bool.false_and]
      rw [hk]
      clear hk
      go_enter Tryd.func47, Tryd.ntmps47
      go_wp2
      go_ret
      exact ⟨rfl, rfl⟩
  · have hk : symOkF l = false := by
      unfold symOkF
      rw [decide_eq_false (by omega), Bool.false_and, Bool.false_and]
    rw [hk]
    clear hk
    obtain rfl : l = [] := List.eq_nil_of_length_eq_zero (by omega)
    clear hs h1 hm
    go_enter Tryd.func47, Tryd.ntmps47
    go_wp2
    go_ret
    exact ⟨rfl, rfl⟩

/-- Digits' number. -/
def dvalA (a : Nat) (l : List UInt8) : Nat := l.foldl (fun a b => 10 * a + (b.toNat - 48)) a
theorem dvalA_cons (a : Nat) (b : UInt8) (l : List UInt8) : dvalA a (b :: l) = dvalA (10 * a + (b.toNat - 48)) l := List.foldl_cons ..
def isDig (b : UInt8) : Bool := decide (48 ≤ b.toNat ∧ b.toNat ≤ 57)
theorem dvalA_snoc (b : UInt8) (l : List UInt8) (a : Nat) : dvalA a (l ++ [b]) = 10 * dvalA a l + (b.toNat - 48) := by
  unfold dvalA
  rw [List.foldl_append, List.foldl_cons, List.foldl_nil]
theorem dvalA_lt : ∀ (l : List UInt8) (a : Nat), l.all isDig = true → dvalA a l < (a + 1) * 10 ^ l.length
  | [], a, _ => by simp [dvalA]
  | b :: l, a, h => by
    rw [List.all_cons, Bool.and_eq_true] at h
    have hb : 48 ≤ b.toNat ∧ b.toNat ≤ 57 := by simpa [isDig] using h.1
    have ih := dvalA_lt l (10 * a + (b.toNat - 48)) h.2
    rw [dvalA_cons, List.length_cons, Nat.pow_succ]
    have h2 : (10 * a + (b.toNat - 48) + 1) * 10 ^ l.length ≤ (a + 1) * 10 * 10 ^ l.length := Nat.mul_le_mul_right _ (by omega)
    have h3 : (a + 1) * (10 ^ l.length * 10) = (a + 1) * 10 * 10 ^ l.length := by rw [Nat.mul_comm (10 ^ l.length) 10, Nat.mul_assoc]
    rw [h3]
    exact Nat.lt_of_lt_of_le ih h2
theorem dvalA_dec : ∀ (l : List UInt8) (a u : Nat), l.all isDig = true → decFrom a l = some u → dvalA a l = u
  | [], a, u, _, h => by simpa [decFrom, dvalA] using h
  | b :: l, a, u, hd, h => by
    rw [List.all_cons, Bool.and_eq_true] at hd
    have hb : 48 ≤ b.toNat ∧ b.toNat ≤ 57 := by simpa [isDig] using hd.1
    have hv : digitVal b = some (b.toNat - 48) := by unfold digitVal; rw [if_pos hb]
    rw [decFrom, hv] at h
    simp only at h
    rw [dvalA_cons]
    refine dvalA_dec l _ u hd.2 ?_
    rw [Nat.mul_comm]
    exact h
/-- A number without noughts ahead, at most so much. -/
def numB (l : List UInt8) (most : Nat) : Option Nat :=
  if 1 ≤ l.length ∧ l.length ≤ 15 then if l.all isDig = true then if dvalA 0 l ≤ most then if decDigits (dvalA 0 l) = l then some (dvalA 0 l) else none else none else none else none
def numBV (o : Option Nat) : Value := .tuple #[.int .i64 (o.getD 0 : Nat), .bool o.isSome]

set_option maxRecDepth 100000 in
set_option maxHeartbeats 4000000 in
theorem ref_Number (l : List UInt8) (w : World) (hm : l.length ≤ 140737488355328) :
    Calls Tryd.prog 63 #[.string (S l), .int .i64 65535] w fun e w' => e = .returned (numBV (numB l 65535)) ∧ w = w' := by
  have hs := S_size l
  have hS := S_toList l
  by_cases h1 : 1 ≤ l.length
  · have he : l.isEmpty = false := by cases l <;> simp_all
    by_cases h2 : l.length ≤ 15
    · obtain ⟨R, hR⟩ : ∃ R, l.all isDig = R := ⟨_, rfl⟩
      obtain ⟨O, hO⟩ : ∃ O, numB l 65535 = O := ⟨_, rfl⟩
      rw [hO]
      unfold numB at hO
      rw [if_pos ⟨h1, h2⟩, hR] at hO
      have HR : Hid ((l.drop 0).all isDig = R) := by rw [List.drop_zero]; exact hR
      have HO := hid hO
      clear hO hR
      go_enter Tryd.func63, Tryd.ntmps63
      go_wp2
      go_loopg [6, 7] l.length (fun g n i wr => ∃ j v : Nat, i = .int .i64 j ∧ n = .int .i64 v ∧ j + g = l.length ∧ v < 1000000000000000 ∧ Hid ((l.drop j).all isDig = R) ∧ Hid ((l.take j).all isDig = true) ∧ Hid (dvalA 0 (l.take j) = v) ∧ w = wr)
      case atStart => exact ⟨0, 0, rfl, rfl, by omega, by omega, HR, rfl, rfl, rfl⟩
      case round =>
        obtain ⟨j, v, rfl, rfl, hj, hv, HJ, HT, HV, rfl⟩ := hrel
        rcases gk with _ | m
        · have hjn : ((j : Int) < (l.length : Int)) = False := by simp; omega
          obtain rfl : R = true := by
            rw [← HJ.out, List.drop_of_length_le (by omega)]
            rfl
          have ho := HO.out
          have hv0 := HV.out
          rw [List.take_of_length_le (by omega)] at hv0
          rw [if_pos rfl, hv0] at ho
          clear HO HV HT HJ hv0
          by_cases h65 : v ≤ 65535
          · rw [if_pos h65] at ho
            have HD := hid (fun w => ref_Digits v (by omega) w)
            have hSd := S_toList (decDigits v)
            obtain ⟨D, hD⟩ : ∃ D, decDigits v = D := ⟨_, rfl⟩
            rw [hD] at ho hSd HD
            clear hD
            by_cases hDl : D = l
            · rw [if_pos hDl] at ho
              have hb : (D == l) = true := by simpa using hDl
              subst ho
              clear hDl
              go_wp2_with fail
              refine (HD.out _).mono ?_
              rintro e w1 ⟨rfl, rfl⟩
              go_wp2_with fail
              go_ret2
              exact ⟨rfl, rfl⟩
            · rw [if_neg hDl] at ho
              have hb : (D == l) = false := by simpa using hDl
              subst ho
              clear hDl
              go_wp2_with fail
              refine (HD.out _).mono ?_
              rintro e w1 ⟨rfl, rfl⟩
              go_wp2_with fail
              go_ret2
              exact ⟨rfl, rfl⟩
          · rw [if_neg h65] at ho
            subst ho
            go_wp2_with fail
            go_ret2
            exact ⟨rfl, rfl⟩
        · have hlt : j < l.length := by omega
          have hjn : ((j : Int) < (l.length : Int)) = True := by simp; omega
          have hx := HJ.out
          rw [all_drop _ l j hlt] at hx
          have hst := dvalA_snoc l[j] (l.take j) 0
          rw [← take_snoc l j hlt, HV.out] at hst
          have hta : isDig l[j] = true → (l.take (j + 1)).all isDig = true := fun h => by
            rw [take_snoc l j hlt, List.all_append, HT.out]
            simp [h]
          have hbd : (l.take (j + 1)).all isDig = true → dvalA 0 (l.take (j + 1)) < 1000000000000000 := fun h => by
            have h3 := dvalA_lt _ 0 h
            have h4 : (10 : Nat) ^ (l.take (j + 1)).length ≤ 10 ^ 15 := Nat.pow_le_pow_right (by decide) (by simp; omega)
            omega
          have HX := hid hx
          have hxj : (S l)[j]'(by rw [hs]; omega) = l[j] := rfl
          clear hx HJ
          obtain ⟨b, hb⟩ : ∃ b, l[j] = b := ⟨_, rfl⟩
          rw [hb] at hxj HX hst hta
          clear hb
          by_cases hb : isDig b = true
          · have hb2 : 48 ≤ b.toNat ∧ b.toNat ≤ 57 := by simpa [isDig] using hb
            have hn : (l.drop (j + 1)).all isDig = R := by
              have h := HX.out
              rw [hb, Bool.true_and] at h
              exact h
            have hb3 := hbd (hta hb)
            rw [hst] at hb3
            have HN := hid hn
            have HT2 := hid (hta hb)
            have HST := hid hst
            obtain ⟨hb4, hb5⟩ := hb2
            clear hn HX hb hta hbd hst HT HV HO
            go_wp2_with fail
            go_roundg m
            case measure => omega
            case rel => exact ⟨j + 1, 10 * v + (b.toNat - 48), by go_num, by congr 1; omega, by omega, hb3, HN, HT2, HST, rfl⟩
          · have hb0 : isDig b = false := by simpa using hb
            obtain rfl : R = false := by
              have h := HX.out
              rw [hb0] at h
              exact h.symm
            have ho := HO.out
            rw [if_neg (by simp)] at ho
            subst ho
            have hb2 : b.toNat < 48 ∨ 57 < b.toNat := by
              simp only [isDig, decide_eq_false_iff_not] at hb0
              omega
            clear hb hb0 HX hta hbd hst HT HV HO
            rcases hb2 with hb2 | hb2
            all_goals
              go_wp2_with fail
              go_ret2
              exact ⟨rfl, rfl⟩
    · have hk : numB l 65535 = none := by
        unfold numB
        rw [if_neg (fun h => h2 h.2)]
      rw [hk]
      clear hk
      go_enter Tryd.func63, Tryd.ntmps63
      go_wp2
      go_ret2
      exact ⟨rfl, rfl⟩
  · have hk : numB l 65535 = none := by
      unfold numB
      rw [if_neg (fun h => h1 h.1)]
    rw [hk]
    clear hk
    obtain rfl : l = [] := List.eq_nil_of_length_eq_zero (by omega)
    clear hs h1 hm
    go_enter Tryd.func63, Tryd.ntmps63
    go_wp2
    go_ret2
    exact ⟨rfl, rfl⟩

/-- A number's text, by the library's words and by the document's. -/
theorem numB_atoi (l : List UInt8) : numB l 65535 = (match atoiN l with | none => none | some n => if itoa n = l ∧ 0 ≤ n ∧ n ≤ 65535 then some n.toNat else none) := by
  have key : ∀ v : Nat, v ≤ 65535 → decDigits v = l → numB l 65535 = some v ∧ atoiN l = some (v : Int) ∧ itoa (v : Int) = l := fun v hv hd => by
    subst hd
    have hlen : 1 ≤ (decDigits v).length ∧ (decDigits v).length ≤ 5 := by
      obtain ⟨b, r, e⟩ := dec_ne v
      exact ⟨by rw [e]; simp, dec_length 4 v (by omega)⟩
    have hall : (decDigits v).all isDig = true := List.all_eq_true.2 fun b hb => by simpa [isDig] using dec_digits v b hb
    have hval : dvalA 0 (decDigits v) = v := dvalA_dec _ 0 v hall (decFrom_dec v)
    refine ⟨?_, ?_, rfl⟩
    · unfold numB
      rw [if_pos ⟨hlen.1, by omega⟩, if_pos hall, hval, if_pos hv, if_pos rfl]
    · rw [atoiN_short _ (by omega)]
      exact atoi_dec v
  cases h : numB l 65535 with
  | some v =>
    have h2 := h
    unfold numB at h2
    split at h2
    · split at h2
      · split at h2
        · split at h2
          · rename_i hv hd
            obtain ⟨k1, k2, k3⟩ := key _ hv hd
            rw [h] at k1
            obtain rfl := Option.some.inj k1
            rw [k2]
            simp only
            rw [if_pos ⟨k3, by omega, by omega⟩, Int.toNat_natCast]
          · cases h2
        · cases h2
      · cases h2
    · cases h2
  | none =>
    cases ha : atoiN l with
    | none => rfl
    | some n =>
      simp only
      by_cases hc : itoa n = l ∧ 0 ≤ n ∧ n ≤ 65535
      · obtain ⟨v, rfl⟩ := Int.eq_ofNat_of_zero_le hc.2.1
        obtain ⟨k1, -, -⟩ := key v (by omega) hc.1
        rw [h] at k1
        cases k1
      · rw [if_neg hc]

end Go.Proofs.YtapllnnconpieaaDoor
