/- strings.Cut by one byte. -/
import Derived.Test.YtajcihcbgmpdjaaShelf
import Derived.Test.YtajcihcbgmpdjaaUp
namespace Go.Proofs.Ytajcihcbgmpdjaa
open Go.RowKit

/-- What lies ahead of a byte; what lies behind it. -/
def cutHead (l : List UInt8) (c : UInt8) : List UInt8 := if Lib.indexByte l c < 0 then l else l.take (Lib.indexByte l c).toNat
def cutTail (l : List UInt8) (c : UInt8) : List UInt8 := if Lib.indexByte l c < 0 then [] else l.drop ((Lib.indexByte l c).toNat + 1)
def cutHas (l : List UInt8) (c : UInt8) : Bool := decide (0 ≤ Lib.indexByte l c)

theorem indexByte_lt (l : List UInt8) (c : UInt8) : Lib.indexByte l c < l.length ∨ l = [] := by
  rcases Int.lt_or_le (Lib.indexByte l c) 0 with h | h
  · rcases l with _ | ⟨b, l⟩
    · exact .inr rfl
    · exact .inl (by simp; omega)
  · obtain ⟨o, ho⟩ := Int.eq_ofNat_of_zero_le h
    obtain ⟨h1, _⟩ := Lib.indexByte_some ho
    obtain ⟨h2, _⟩ := List.getElem?_eq_some_iff.1 h1
    exact .inl (by omega)

theorem extract_S (l : List UInt8) (a b : Nat) : (S l).extract a b = S ((l.drop a).take (b - a)) := by
  apply ByteArray.ext
  simp [S, ByteArray.data_extract]

set_option maxRecDepth 100000 in
set_option maxHeartbeats 2000000 in
theorem lite_Cut (l : List UInt8) (c : UInt8) (w : World) (hl : l.length ≤ 140737488355328) :
    Calls Try.prog 47 #[.string (S l), .string ⟨#[c]⟩] w fun e w' => e = .returned (.tuple #[.string (S (cutHead l c)), .string (S (cutTail l c)), .bool (cutHas l c)]) ∧ ∃ n, w' = w.drewN n := by
  have hI := Try.stringslite_Index_one (S l) c w
  rw [S_list] at hI
  obtain ⟨i, hi⟩ : ∃ i, Lib.indexByte l c = i := ⟨_, rfl⟩
  have h1 : -1 ≤ i := hi ▸ Lib.indexByte_ge l c
  have h2 := indexByte_lt l c
  rw [hi] at hI h2
  rw [cutHead, cutTail, cutHas, hi]
  have hsz : (S l).size = l.length := S_size l
  by_cases h0 : i < 0
  · rw [if_pos h0, if_pos h0, decide_eq_false (by omega)]
    clear hi h2
    go_enter Try.func47, Try.ntmps47
    go_wp2_with fail
    refine hI.mono ?_
    rintro e w' ⟨rfl, rfl⟩
    go_wp2
    exact bodyPost_ret (v := .tuple #[.string (S l), .string (S []), .bool false]) (by simp [results, Try.results47, go_sem, S]) rfl ⟨rfl, 0, rfl⟩
  · rw [if_neg h0, if_neg h0, decide_eq_true (by omega)]
    have h3 : i < l.length := by
      rcases h2 with h2 | h2
      · exact h2
      · rw [h2] at hi; simp [Lib.indexByte] at hi; omega
    obtain ⟨k, rfl⟩ := Int.eq_ofNat_of_zero_le (show 0 ≤ i by omega)
    clear hi h2
    have hsz1 : (⟨#[c]⟩ : ByteArray).size = 1 := rfl
    go_enter Try.func47, Try.ntmps47
    go_wp2_with fail
    refine hI.mono ?_
    rintro e w' ⟨rfl, rfl⟩
    go_wp2_with fail
    go_quiet (fail)
    go_wp2
    exact bodyPost_ret (v := .tuple #[.string (S (l.take k)), .string (S (l.drop (k + 1))), .bool true]) (by simp [results, Try.results47, go_sem, extract_S]; rw [List.take_of_length_le (by rw [List.length_drop]; omega)]) rfl ⟨rfl, _, rfl⟩
set_option maxRecDepth 100000 in
set_option maxHeartbeats 2000000 in
/-- strings.Cut by one byte. -/
theorem strings_Cut (l : List UInt8) (c : UInt8) (w : World) (hl : l.length ≤ 140737488355328) :
    Calls Try.prog 44 #[.string (S l), .string ⟨#[c]⟩] w fun e w' => e = .returned (.tuple #[.string (S (cutHead l c)), .string (S (cutTail l c)), .bool (cutHas l c)]) ∧ ∃ n, w' = w.drewN n := by
  go_enter Try.func44, Try.ntmps44
  go_wp2_with fail
  refine (lite_Cut l c w hl).mono ?_
  rintro e w' ⟨rfl, n, rfl⟩
  go_wp2
  exact bodyPost_ret (v := .tuple #[.string (S (cutHead l c)), .string (S (cutTail l c)), .bool (cutHas l c)]) (by simp [results, Try.results44, go_sem]) rfl ⟨rfl, n, rfl⟩

theorem cutHead_len (l : List UInt8) (c : UInt8) : (cutHead l c).length ≤ l.length := by
  rw [cutHead]
  split
  · exact Nat.le_refl _
  · simp; omega
end Go.Proofs.Ytajcihcbgmpdjaa
