/- hdr: forms, sizes. -/
import Derived.Test.YtajcihcbgmpdjaaHdr2
namespace Go.Proofs.Ytajcihcbgmpdjaa
open Go.RowKit

/-- What forms answers. -/
def formsE (l : List UInt8) (p : Int) : Int :=
  if numAt l (p + 4) 2 ≠ 34404 then 4 else
  if numAt l (p + 20) 2 ≠ 240 ∨ numAt l (p + 24) 2 ≠ 523 ∨ numAt l (p + 132) 4 ≠ 16 then 5 else 0

set_option maxRecDepth 100000 in
set_option maxHeartbeats 2000000 in
theorem hdr_forms (A : Option Addr) (c : Nat) (l : List UInt8) (p : Int) (w : World) (hr : Bs w A c l) (hp : 0 ≤ p) (hp1 : p ≤ 4611686018427387904) :
    Calls Try.prog 24 #[.agg #[.slice A l.length c, .int .i64 p]] w fun e w' => e = .returned (.int .i64 (formsE l p)) ∧ Below w.heap.size w w' := by
  obtain ⟨r, hrr⟩ : ∃ r, formsE l p = r := ⟨_, rfl⟩
  rw [hrr]
  rw [formsE] at hrr
  have a0 := up_alloc (up_refl w) (.cells #[.slice A l.length c, .int .i64 p] 63)
  have a1 := up_alloc a0 (.cells #[.slice A l.length c, .int .i64 p] 63)
  have a2 := up_alloc a1 (.cells #[.slice A l.length c, .int .i64 p] 63)
  have a3 := up_alloc a2 (.cells #[.slice A l.length c, .int .i64 p] 63)
  have a4 := up_alloc a3 (.cells #[.slice A l.length c, .int .i64 p] 63)
  have b0 := hid (hr.below a0)
  have b1 := hid (hr.below a1)
  have b2 := hid (hr.below a2)
  have b3 := hid (hr.below a3)
  by_cases h1 : numAt l (p + 4) 2 = 34404
  · rw [if_neg (by simp [h1])] at hrr
    by_cases h2 : numAt l (p + 20) 2 = 240
    · by_cases h3 : numAt l (p + 24) 2 = 523
      · by_cases h4 : numAt l (p + 132) 4 = 16
        · rw [if_neg (by simp [h2, h3, h4])] at hrr
          subst hrr
          have A4 := hid a4
          have H1 := hid h1
          have H2 := hid h2
          have H3 := hid h3
          have H4 := hid h4
          clear a0 a1 a2 a3 a4 h1 h2 h3 h4 hr
          go_enter Try.func24, Try.ntmps24
          go_wp2_with fail
          refine (rd_two A c l p 4 _ b0 hp (by omega) (by omega) (by omega)).mono ?_
          rintro e w' ⟨rfl, rfl⟩
          rw [H1.out]
          go_wp2_with fail
          refine (rd_two A c l p 20 _ b1 hp (by omega) (by omega) (by omega)).mono ?_
          rintro e w' ⟨rfl, rfl⟩
          rw [H2.out]
          go_wp2_with fail
          refine (rd_two A c l p 24 _ b2 hp (by omega) (by omega) (by omega)).mono ?_
          rintro e w' ⟨rfl, rfl⟩
          rw [H3.out]
          go_wp2_with fail
          refine (rd_four A c l p 132 _ b3 hp (by omega) (by omega) (by omega)).mono ?_
          rintro e w' ⟨rfl, rfl⟩
          rw [H4.out]
          go_wp2
          go_ret
          exact ⟨rfl, A4⟩
        · rw [if_pos (by simp [h4])] at hrr
          subst hrr
          have h4' : ((numAt l (p + 132) 4 : Int) != 16) = true := by rw [bne_iff_ne]; omega
          have A4 := hid a4
          have H1 := hid h1
          have H2 := hid h2
          have H3 := hid h3
          clear a0 a1 a2 a3 a4 h1 h2 h3 hr
          go_enter Try.func24, Try.ntmps24
          go_wp2_with fail
          refine (rd_two A c l p 4 _ b0 hp (by omega) (by omega) (by omega)).mono ?_
          rintro e w' ⟨rfl, rfl⟩
          rw [H1.out]
          go_wp2_with fail
          refine (rd_two A c l p 20 _ b1 hp (by omega) (by omega) (by omega)).mono ?_
          rintro e w' ⟨rfl, rfl⟩
          rw [H2.out]
          go_wp2_with fail
          refine (rd_two A c l p 24 _ b2 hp (by omega) (by omega) (by omega)).mono ?_
          rintro e w' ⟨rfl, rfl⟩
          rw [H3.out]
          go_wp2_with fail
          refine (rd_four A c l p 132 _ b3 hp (by omega) (by omega) (by omega)).mono ?_
          rintro e w' ⟨rfl, rfl⟩
          go_wp2
          go_ret
          exact ⟨rfl, A4⟩
      · rw [if_pos (by simp [h3])] at hrr
        subst hrr
        have h3' : ((numAt l (p + 24) 2 : Int) != 523) = true := by rw [bne_iff_ne]; omega
        have A3 := hid a3
        have H1 := hid h1
        have H2 := hid h2
        clear a0 a1 a2 a3 a4 h1 h2 hr
        go_enter Try.func24, Try.ntmps24
        go_wp2_with fail
        refine (rd_two A c l p 4 _ b0 hp (by omega) (by omega) (by omega)).mono ?_
        rintro e w' ⟨rfl, rfl⟩
        rw [H1.out]
        go_wp2_with fail
        refine (rd_two A c l p 20 _ b1 hp (by omega) (by omega) (by omega)).mono ?_
        rintro e w' ⟨rfl, rfl⟩
        rw [H2.out]
        go_wp2_with fail
        refine (rd_two A c l p 24 _ b2 hp (by omega) (by omega) (by omega)).mono ?_
        rintro e w' ⟨rfl, rfl⟩
        go_wp2
        go_ret
        exact ⟨rfl, A3⟩
    · rw [if_pos (by simp [h2])] at hrr
      subst hrr
      have h2' : ((numAt l (p + 20) 2 : Int) != 240) = true := by rw [bne_iff_ne]; omega
      have A2 := hid a2
      have H1 := hid h1
      clear a0 a1 a2 a3 a4 h1 hr
      go_enter Try.func24, Try.ntmps24
      go_wp2_with fail
      refine (rd_two A c l p 4 _ b0 hp (by omega) (by omega) (by omega)).mono ?_
      rintro e w' ⟨rfl, rfl⟩
      rw [H1.out]
      go_wp2_with fail
      refine (rd_two A c l p 20 _ b1 hp (by omega) (by omega) (by omega)).mono ?_
      rintro e w' ⟨rfl, rfl⟩
      go_wp2
      go_ret
      exact ⟨rfl, A2⟩
  · rw [if_pos h1] at hrr
    subst hrr
    have h1' : ((numAt l (p + 4) 2 : Int) != 34404) = true := by rw [bne_iff_ne]; omega
    have A1 := hid a1
    clear a0 a1 a2 a3 a4 hr
    go_enter Try.func24, Try.ntmps24
    go_wp2_with fail
    refine (rd_two A c l p 4 _ b0 hp (by omega) (by omega) (by omega)).mono ?_
    rintro e w' ⟨rfl, rfl⟩
    go_wp2
    go_ret
    exact ⟨rfl, A1⟩

/-- What sizes answers: of the alignments, the base and the size. -/
def sizesE (l : List UInt8) (p base size : Int) : Int :=
  if numAt l (p + 56) 4 ≠ 4096 ∨ numAt l (p + 60) 4 ≠ 512 ∨ base % 65536 ≠ 0 ∨ base < 65536 ∨ 35184372088832 < base ∨ size % 4096 ≠ 0 ∨ size < 4096 ∨ 262144 < size then 6 else 0

set_option maxRecDepth 100000 in
set_option maxHeartbeats 2000000 in
theorem hdr_baseTop (w : World) : Calls Try.prog 43 #[] w fun e w' => e = .returned (.int .u64 35184372088832) ∧ w = w' := by
  go_enter Try.func43, Try.ntmps43
  go_wp2
  go_ret
  exact ⟨rfl, rfl⟩

set_option maxRecDepth 100000 in
set_option maxHeartbeats 4000000 in
theorem hdr_sizes (A : Option Addr) (c : Nat) (l : List UInt8) (p base stamp chars entry size headers : Int) (w : World) (hr : Bs w A c l) (hp : 0 ≤ p) (hp1 : p ≤ 4611686018427387904) (hb : 0 ≤ base) (hs : 0 ≤ size) :
    Calls Try.prog 28 #[.agg #[.slice A l.length c, .int .i64 p], .agg #[.int .u64 base, .int .i64 stamp, .int .i64 chars, .int .i64 entry, .int .i64 size, .int .i64 headers, .int .i64 0, .int .i64 0, .int .i64 0, .int .i64 0, .int .i64 0, .int .i64 0, .int .i64 0, .int .i64 0, .int .i64 0, .int .i64 0, .int .i64 0, .int .i64 0, .int .i64 0, .int .i64 0, .int .i64 0, .int .i64 0, .int .i64 0, .int .i64 0, .int .i64 0, .int .i64 0, .int .i64 0, .int .i64 0, .int .i64 0, .int .i64 0, .int .i64 0, .int .i64 0, .int .i64 0, .int .i64 0, .int .i64 0, .int .i64 0, .int .i64 0, .int .i64 0, .slice none 0 0]] w fun e w' => e = .returned (.int .i64 (sizesE l p base size)) ∧ Below w.heap.size w w' := by
  obtain ⟨r, hrr⟩ : ∃ r, sizesE l p base size = r := ⟨_, rfl⟩
  rw [hrr]
  rw [sizesE] at hrr
  have a0 := up_alloc (up_alloc (up_refl w) (.cells #[.slice A l.length c, .int .i64 p] 63)) (.cells #[.int .u64 base, .int .i64 stamp, .int .i64 chars, .int .i64 entry, .int .i64 size, .int .i64 headers, .int .i64 0, .int .i64 0, .int .i64 0, .int .i64 0, .int .i64 0, .int .i64 0, .int .i64 0, .int .i64 0, .int .i64 0, .int .i64 0, .int .i64 0, .int .i64 0, .int .i64 0, .int .i64 0, .int .i64 0, .int .i64 0, .int .i64 0, .int .i64 0, .int .i64 0, .int .i64 0, .int .i64 0, .int .i64 0, .int .i64 0, .int .i64 0, .int .i64 0, .int .i64 0, .int .i64 0, .int .i64 0, .int .i64 0, .int .i64 0, .int .i64 0, .int .i64 0, .slice none 0 0] 32)
  have a1 := up_alloc a0 (.cells #[.slice A l.length c, .int .i64 p] 63)
  have a2 := up_alloc a1 (.cells #[.slice A l.length c, .int .i64 p] 63)
  have b0 := hid (hr.below a0)
  have b1 := hid (hr.below a1)
  by_cases h1 : numAt l (p + 56) 4 = 4096
  · by_cases h2 : numAt l (p + 60) 4 = 512
    · have A2 := hid a2
      have H1 := hid h1
      have H2 := hid h2
      have HR := hid hrr
      clear a0 a1 a2 h1 h2 hr hrr
      have hcase : (base % 65536 ≠ 0 ∧ r = 6) ∨ (base % 65536 = 0 ∧ base < 65536 ∧ r = 6) ∨ (base % 65536 = 0 ∧ ¬ base < 65536 ∧ 35184372088832 < base ∧ r = 6) ∨
          (base % 65536 = 0 ∧ ¬ base < 65536 ∧ ¬ 35184372088832 < base ∧ size % 4096 ≠ 0 ∧ r = 6) ∨ (base % 65536 = 0 ∧ ¬ base < 65536 ∧ ¬ 35184372088832 < base ∧ size % 4096 = 0 ∧ size < 4096 ∧ r = 6) ∨
          (base % 65536 = 0 ∧ ¬ base < 65536 ∧ ¬ 35184372088832 < base ∧ size % 4096 = 0 ∧ ¬ size < 4096 ∧ 262144 < size ∧ r = 6) ∨
          (base % 65536 = 0 ∧ ¬ base < 65536 ∧ ¬ 35184372088832 < base ∧ size % 4096 = 0 ∧ ¬ size < 4096 ∧ ¬ 262144 < size ∧ r = 0) := by
        have h := HR.out
        rw [H1.out, H2.out] at h
        split at h <;> omega
      clear HR
      rcases hcase with ⟨g1, rfl⟩ | ⟨g1, g2, rfl⟩ | ⟨g1, g2, g3, rfl⟩ | ⟨g1, g2, g3, g4, rfl⟩ | ⟨g1, g2, g3, g4, g5, rfl⟩ | ⟨g1, g2, g3, g4, g5, g6, rfl⟩ | ⟨g1, g2, g3, g4, g5, g6, rfl⟩
      all_goals
        go_enter Try.func28, Try.ntmps28
        go_wp2_with fail
        refine (rd_four A c l p 56 _ b0 hp (by omega) (by omega) (by omega)).mono ?_
        rintro e w' ⟨rfl, rfl⟩
        rw [H1.out]
        go_wp2_with fail
        refine (rd_four A c l p 60 _ b1 hp (by omega) (by omega) (by omega)).mono ?_
        rintro e w' ⟨rfl, rfl⟩
        rw [H2.out]
        go_wp2_with fail
        first
          | (go_ret; exact ⟨rfl, A2⟩)
          | (go_quiet ((go_at_call 43; exact quiet_l (hdr_baseTop _))); go_wp2; go_ret; exact ⟨rfl, up_drewN A2 _⟩)
    · rw [if_pos (by simp [h2])] at hrr
      subst hrr
      have h2' : ((numAt l (p + 60) 4 : Int) != 512) = true := by rw [bne_iff_ne]; omega
      have A2 := hid a2
      have H1 := hid h1
      clear a0 a1 a2 h1 hr
      go_enter Try.func28, Try.ntmps28
      go_wp2_with fail
      refine (rd_four A c l p 56 _ b0 hp (by omega) (by omega) (by omega)).mono ?_
      rintro e w' ⟨rfl, rfl⟩
      rw [H1.out]
      go_wp2_with fail
      refine (rd_four A c l p 60 _ b1 hp (by omega) (by omega) (by omega)).mono ?_
      rintro e w' ⟨rfl, rfl⟩
      go_wp2
      go_ret
      exact ⟨rfl, A2⟩
  · rw [if_pos (.inl h1)] at hrr
    subst hrr
    have h1' : ((numAt l (p + 56) 4 : Int) != 4096) = true := by rw [bne_iff_ne]; omega
    have A1 := hid a1
    clear a0 a1 a2 hr
    go_enter Try.func28, Try.ntmps28
    go_wp2_with fail
    refine (rd_four A c l p 56 _ b0 hp (by omega) (by omega) (by omega)).mono ?_
    rintro e w' ⟨rfl, rfl⟩
    go_wp2
    go_ret
    exact ⟨rfl, A1⟩
end Go.Proofs.Ytajcihcbgmpdjaa
