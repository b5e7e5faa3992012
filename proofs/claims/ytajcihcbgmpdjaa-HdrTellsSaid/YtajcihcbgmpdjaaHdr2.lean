/- hdr: start, forms. -/
import Derived.Test.YtajcihcbgmpdjaaHdr
namespace Go.Proofs.Ytajcihcbgmpdjaa
open Go.RowKit

theorem S_toList (l : List UInt8) : (S l).toList = l := by rw [ByteArray.toList_eq, S_list]

/-- What start answers: its error; behind it, where the head is. -/
def startE (l : List UInt8) : Int :=
  if l.length < 64 then 2 else
  if l.take 2 ≠ [77, 90] then 3 else
  if numAt l 60 4 < 64 ∨ numAt l 60 4 % 4 ≠ 0 ∨ inB l.length (numAt l 60 4) 264 = false then 2 else
  if (l.drop (numAt l 60 4)).take 4 ≠ [80, 69, 0, 0] then 3 else 0

/-- The reader that start answers. -/
def startR (A : Option Addr) (c : Nat) (l : List UInt8) : Value := if startE l = 0 then .agg #[.slice A l.length c, .int .i64 (numAt l 60 4)] else .agg #[.slice none 0 0, .int .i64 0]

set_option maxRecDepth 100000 in
set_option maxHeartbeats 2000000 in
theorem hdr_start (A : Option Addr) (c : Nat) (l : List UInt8) (w : World) (hr : Bs w A c l) :
    Calls Try.prog 23 #[.slice A l.length c] w fun e w' => e = .returned (.tuple #[startR A c l, .int .i64 (startE l)]) ∧ Below w.heap.size w w' := by
  have hm := hr.mx
  have hle := hr.le
  by_cases h0 : l.length < 64
  · have he : startE l = 2 := by rw [startE, if_pos h0]
    rw [startR, he, if_neg (by decide)]
    clear he
    go_enter Try.func23, Try.ntmps23
    go_wp2
    exact bodyPost_ret (v := .tuple #[.agg #[.slice none 0 0, .int .i64 0], .int .i64 2]) (by simp [results, Try.results23, go_sem]) rfl ⟨rfl, up_alloc (up_refl _) _⟩
  · have hs1 := slice_h (P := Try.prog) 23 5 1 Try.underlying23 info_u8 A l.length c .i64 2 2 rfl (by omega) hle
    have hs2 : ∀ o, (convert 23 9 (.slice A 2 c)).run Try.prog (w.alloc o) = .ok (.string (S (l.take 2))) (w.alloc o) := fun o =>
      run_str _ _ _ 5 Try.underlying23 Try.underlying5 Try.underlying9 A 2 c (l.take 2) (by simp; omega) (by
        have := (hr.below (up_alloc (up_refl w) o)).row.take 2
        rw [bcells, ← List.map_take] at this
        exact this)
    by_cases h1 : l.take 2 = [77, 90]
    · have hq : ((S (l.take 2)).toList == [77, 90]) = true := by rw [S_toList, h1]; rfl
      have Hs2 := hid hs2
      have Hq := hid hq
      have h4 := numAt_lt l 60 4
      obtain ⟨p, hp⟩ : ∃ p, numAt l 60 4 = p := ⟨_, rfl⟩
      have e4 : (256 : Nat) ^ 4 = 4294967296 := by decide
      rw [e4, show ((4 : Nat) : Int) = 4 from rfl, hp] at h4
      have hw : Below w.heap.size w (w.alloc (.cells #[.slice none 0 0, .int .i64 0] 63)) := up_alloc (up_refl _) _
      by_cases h2 : p < 64 ∨ p % 4 ≠ 0 ∨ inB l.length p 264 = false
      · have he : startE l = 2 := by rw [startE, if_neg h0, if_neg (by simp [h1]), hp, if_pos h2]
        rw [startR, he, if_neg (by decide)]
        clear he h1
        by_cases g1 : p < 64
        · have g1' : (p : Int) < 64 := by omega
          go_enter Try.func23, Try.ntmps23
          go_wp2_with (go_at_call 39; refine (le_U32 A c l _ _ (hr.below hw)).mono ?_; rintro e w' ⟨rfl, rfl⟩; rw [hp])
          exact bodyPost_ret (v := .tuple #[.agg #[.slice none 0 0, .int .i64 0], .int .i64 2]) (by simp [results, Try.results23, go_sem]) rfl ⟨rfl, up_alloc (up_refl _) _⟩
        · by_cases g2 : p % 4 = 0
          · have g3 : inB l.length p 264 = false := by
              rcases h2 with h2 | h2 | h2
              · exact absurd h2 g1
              · exact absurd g2 h2
              · exact h2
            have g2' : (((p : Int) % 4) != 0) = false := by rw [bne_eq_false_iff_eq]; omega
            clear h2
            go_enter Try.func23, Try.ntmps23
            go_wp2_with (first | (go_at_call 39; refine (le_U32 A c l _ _ (hr.below hw)).mono ?_; rintro e w' ⟨rfl, rfl⟩; rw [hp]) | (go_at_call 40; refine (le_In _ _ _ _ (by omega) (by omega)).mono ?_; rintro e w' ⟨rfl, rfl⟩; rw [g3]))
            exact bodyPost_ret (v := .tuple #[.agg #[.slice none 0 0, .int .i64 0], .int .i64 2]) (by simp [results, Try.results23, go_sem]) rfl ⟨rfl, up_alloc (up_refl _) _⟩
          · have g2' : (((p : Int) % 4) != 0) = true := by rw [bne_iff_ne]; omega
            clear h2
            go_enter Try.func23, Try.ntmps23
            go_wp2_with (go_at_call 39; refine (le_U32 A c l _ _ (hr.below hw)).mono ?_; rintro e w' ⟨rfl, rfl⟩; rw [hp])
            exact bodyPost_ret (v := .tuple #[.agg #[.slice none 0 0, .int .i64 0], .int .i64 2]) (by simp [results, Try.results23, go_sem]) rfl ⟨rfl, up_alloc (up_refl _) _⟩
      · have g1 : ¬ p < 64 := fun h => h2 (.inl h)
        have g2 : p % 4 = 0 := Decidable.byContradiction fun h => h2 (.inr (.inl h))
        have g3 : inB l.length p 264 = true := by
          cases h : inB l.length p 264 with
          | true => rfl
          | false => exact absurd (.inr (.inr h)) h2
        have g2' : (((p : Int) % 4) != 0) = false := by rw [bne_eq_false_iff_eq]; omega
        have g4 : p + 264 ≤ l.length := by simp only [inB, decide_eq_true_eq] at g3; omega
        obtain ⟨A', hc1, hc2⟩ := slice_lh (P := Try.prog) 23 5 1 Try.underlying23 info_u8 A l.length c .i64 .i64 p (p + 4) p 4 rfl rfl (by omega) hle
        obtain ⟨m, hmm⟩ : ∃ m, m = (l.drop p).take 4 := ⟨_, rfl⟩
        have hs3 : (convert 23 9 (.slice A' 4 (c - p))).run Try.prog (w.alloc (.cells #[.slice none 0 0, .int .i64 0] 63)) = .ok (.string (S m)) (w.alloc (.cells #[.slice none 0 0, .int .i64 0] 63)) :=
          run_str _ _ _ 5 Try.underlying23 Try.underlying5 Try.underlying9 A' 4 (c - p) m (by rw [hmm]; simp; omega) (by
            have := hc2 _ _ (by rw [bcells_length, Nat.mul_one]) (hr.below hw).row
            rw [Nat.mul_one, Nat.mul_one, bcells, ← List.map_drop, ← List.map_take, ← hmm] at this
            exact this)
        clear hc2
        by_cases h3 : m = [80, 69, 0, 0]
        · have hq2 : ((S m).toList == [80, 69, 0, 0]) = true := by rw [S_toList, h3]; rfl
          have he : startE l = 0 := by rw [startE, if_neg h0, if_neg (by simp [h1]), hp, if_neg h2, ← hmm, if_neg (by simp [h3])]
          rw [startR, he, if_pos rfl, hp]
          clear he h1 h2 h3 hmm
          go_enter Try.func23, Try.ntmps23
          go_wp2_with (first | (go_at_call 39; refine (le_U32 A c l _ _ (hr.below hw)).mono ?_; rintro e w' ⟨rfl, rfl⟩; rw [hp]) | (go_at_call 40; refine (le_In _ _ _ _ (by omega) (by omega)).mono ?_; rintro e w' ⟨rfl, rfl⟩; rw [g3]))
          exact bodyPost_ret (v := .tuple #[.agg #[.slice A l.length c, .int .i64 p], .int .i64 0]) (by simp [results, Try.results23, go_sem]) rfl ⟨rfl, up_alloc (up_refl _) _⟩
        · have hq2 : ((S m).toList == [80, 69, 0, 0]) = false := by rw [S_toList]; simpa using h3
          have he : startE l = 3 := by rw [startE, if_neg h0, if_neg (by simp [h1]), hp, if_neg h2, ← hmm, if_pos (by simpa using h3)]
          rw [startR, he, if_neg (by decide)]
          clear he h1 h2 h3 hmm
          go_enter Try.func23, Try.ntmps23
          go_wp2_with (first | (go_at_call 39; refine (le_U32 A c l _ _ (hr.below hw)).mono ?_; rintro e w' ⟨rfl, rfl⟩; rw [hp]) | (go_at_call 40; refine (le_In _ _ _ _ (by omega) (by omega)).mono ?_; rintro e w' ⟨rfl, rfl⟩; rw [g3]))
          exact bodyPost_ret (v := .tuple #[.agg #[.slice none 0 0, .int .i64 0], .int .i64 3]) (by simp [results, Try.results23, go_sem]) rfl ⟨rfl, up_alloc (up_refl _) _⟩
    · have hq : ((S (l.take 2)).toList == [77, 90]) = false := by rw [S_toList]; simpa using h1
      have he : startE l = 3 := by rw [startE, if_neg h0, if_pos (by simpa using h1)]
      rw [startR, he, if_neg (by decide)]
      clear he h1
      go_enter Try.func23, Try.ntmps23
      go_wp2
      exact bodyPost_ret (v := .tuple #[.agg #[.slice none 0 0, .int .i64 0], .int .i64 3]) (by simp [results, Try.results23, go_sem]) rfl ⟨rfl, up_alloc (up_refl _) _⟩
end Go.Proofs.Ytajcihcbgmpdjaa
