/- sect: Offset, ProtAt, byteAt. -/
import Derived.Test.YtajcihcbgmpdjaaSectOf
namespace Go.Proofs.Ytajcihcbgmpdjaa
open Go.RowKit

/-- Where a place stands in the file. -/
def offF (headers : Nat) (xs : List SectD) (r : Int) : Option Int :=
  if withinB r 0 headers then some r else
  match ofF xs 0 r with
  | none => none
  | some i => match xs[i]? with
    | none => none
    | some s => if withinB r s.rva s.raw then some (s.pt + r - s.rva) else none

theorem ofF_lt : ∀ (xs : List SectD) (i : Nat) (r : Int) (k : Nat), ofF xs i r = some k → i ≤ k ∧ k - i < xs.length ∧ ∃ s, xs[k - i]? = some s ∧ withinB r s.rva (roundF s.vs 4096) = true
  | [], _, _, _, h => by simp [ofF] at h
  | s :: xs, i, r, k, h => by
    rw [ofF] at h
    split at h
    · rename_i hw
      obtain rfl := Option.some.inj h
      exact ⟨Nat.le_refl _, by simp, s, by simp, hw⟩
    · obtain ⟨h1, h2, s', h3, h4⟩ := ofF_lt xs (i + 1) r k h
      refine ⟨by omega, by simp; omega, s', ?_, h4⟩
      rw [show k - i = (k - (i + 1)) + 1 by omega, List.getElem?_cons_succ]
      exact h3

set_option maxRecDepth 100000 in
set_option maxHeartbeats 4000000 in
theorem sect_Offset (cs : Array Value) (size headers : Nat) (A : Option Addr) (c : Nat) (xs : List SectD) (r : Int) (w : World) (hc : HeadC cs size headers A xs.length c) (hr : Row w A (scells xs)) (hs : ∀ s ∈ xs, s.small) (hr0 : 0 ≤ r) (hr1 : r ≤ 4611686018427387904) :
    Calls Try.prog 22 #[.agg cs, .int .i64 r] w fun e w' => e = .returned (.tuple #[.int .i64 ((offF headers xs r).getD 0), .bool (offF headers xs r).isSome]) ∧ Below w.heap.size w w' := by
  have c38 := hc.c38
  have c5 := hc.c5
  have nm := hc.nm
  have hh1 := hc.h1
  have HC := hid hc
  have HR := hid hr
  have HS := hid hs
  obtain ⟨n, hn⟩ : ∃ n, xs.length = n := ⟨_, rfl⟩
  have HN := hid hn
  rw [hn] at c38 nm
  obtain ⟨w1, hw1⟩ : ∃ w1, w.alloc (.cells cs 32) = w1 := ⟨_, rfl⟩
  have hB1 : Blk w1 w.heap.size cs 32 := hw1 ▸ Blk.new _ _ _
  have hU1 : Below w.heap.size w w1 := hw1 ▸ up_alloc (up_refl _) _
  have HB1 := hid hB1
  have HU1 := hid hU1
  have q5 := (hB1.cell 5).trans c5
  have q38 := (hB1.cell 38).trans c38
  have HOF := hid (sect_Of cs size headers A c xs r w1 hc (hr.below hU1) hs hr0 hr1)
  cases hw0 : withinB r 0 headers with
  | true =>
    have hf : offF headers xs r = some r := by rw [offF, hw0, if_pos rfl]
    rw [hf]
    have HW := hid hw0
    clear hc hr hs hn hB1 hU1 hf hw0 c5 c38
    go_enter Try.func22, Try.ntmps22
    go_wp2_with fail
    refine (sect_within r 0 headers w1 hr0 hr1 (by omega) (by omega) (by omega) (by omega)).mono ?_
    rintro e w' ⟨rfl, rfl⟩
    rw [HW.out]
    go_wp2_with fail
    go_ret2
    exact ⟨rfl, HU1.out⟩
  | false =>
    cases hof : ofF xs 0 r with
    | none =>
      have hf : offF headers xs r = none := by rw [offF, hw0, hof]; rfl
      rw [hf]
      have HW := hid hw0
      have HO := hid hof
      clear hc hr hs hn hB1 hU1 hf hw0 hof c5 c38
      go_enter Try.func22, Try.ntmps22
      go_wp2_with fail
      refine (sect_within r 0 headers w1 hr0 hr1 (by omega) (by omega) (by omega) (by omega)).mono ?_
      rintro e w' ⟨rfl, rfl⟩
      rw [HW.out]
      go_wp2_with (refine wpList_load_row (by rfl) 32 (.tmp 2) (by rfl) w.heap.size (by rfl) 32 cs (0, 0) _ HB1.out Try.underlying32 (by rfl) (by rw [HC.out.sz]; exact headInfo) ?_)
      refine HOF.out.mono ?_
      rw [HO.out]
      rintro e w2 ⟨rfl, hb2⟩
      have HB2 := hid hb2
      clear hb2
      go_wp2_with fail
      go_quiet (fail)
      go_wp2_with fail
      go_ret2
      exact ⟨rfl, up_drewN (up_trans HU1.out HB2.out) _⟩
    | some i =>
      obtain ⟨-, hi, s, hsi, hwi⟩ := ofF_lt xs 0 r i hof
      rw [Nat.sub_zero] at hi hsi
      obtain ⟨b1, b2, b3, b4, b5⟩ := hs s (List.mem_of_getElem? hsi)
      have hrs : (s.rva : Int) ≤ r := by simp only [withinB, decide_eq_true_eq] at hwi; exact hwi.1
      have hil : i < n := by omega
      have dil : decide (i < n) = true := by simp; exact hil
      obtain ⟨ad, rfl⟩ := hr.sect_ad hi
      have HSI := hid hsi
      cases hw1s : withinB r s.rva s.raw with
      | true =>
        have hf : offF headers xs r = some (s.pt + r - s.rva) := by rw [offF, hw0, if_neg (by simp), hof]; simp only [hsi, hw1s, if_pos]
        rw [hf]
        have HW := hid hw0
        have HW1 := hid hw1s
        have HO := hid hof
        have kk1 : IntKind.i64.wrap ((s.pt : Int) + r) = (s.pt : Int) + r := wrap_i64_id (by omega) (by omega)
        have kk2 : IntKind.i64.wrap ((s.pt : Int) + r - (s.rva : Int)) = (s.pt : Int) + r - (s.rva : Int) := wrap_i64_id (by omega) (by omega)
        clear hc hr hs hn hB1 hU1 hf hw0 hof c5 c38 hwi hw1s hsi
        go_enter Try.func22, Try.ntmps22
        go_wp2_with fail
        refine (sect_within r 0 headers w1 hr0 hr1 (by omega) (by omega) (by omega) (by omega)).mono ?_
        rintro e w' ⟨rfl, rfl⟩
        rw [HW.out]
        go_wp2_with (refine wpList_load_row (by rfl) 32 (.tmp 2) (by rfl) w.heap.size (by rfl) 32 cs (0, 0) _ HB1.out Try.underlying32 (by rfl) (by rw [HC.out.sz]; exact headInfo) ?_)
        refine HOF.out.mono ?_
        rw [HO.out]
        rintro e w2 ⟨rfl, hb2⟩
        have HB2 := hid hb2
        obtain ⟨-, k1, k2, k3, k4, -, -⟩ := ((HR.out.below HU1.out).below hb2).sect HSI.out
        have q5' := (HB1.out.below hb2).cell 5
        have q38' := ((HB1.out.below hb2).cell 38).trans HC.out.c38
        rw [HN.out] at q38'
        clear hb2 q5' q5 q38
        go_wp2_with fail
        go_quiet ((go_at_call 37; exact quiet_l (sect_within r s.rva s.raw _ hr0 hr1 (by omega) (by omega) (by omega) (by omega))))
        rw [HW1.out]
        go_wp2_with fail
        go_quiet (fail)
        go_wp2_with fail
        go_ret2
        exact ⟨rfl, up_drewN (up_drewN (up_trans HU1.out HB2.out) _) _⟩
      | false =>
        have hf : offF headers xs r = none := by rw [offF, hw0, if_neg (by simp), hof]; simp only [hsi, hw1s]; rfl
        rw [hf]
        have HW := hid hw0
        have HW1 := hid hw1s
        have HO := hid hof
        clear hc hr hs hn hB1 hU1 hf hw0 hof c5 c38 hwi hw1s hsi
        go_enter Try.func22, Try.ntmps22
        go_wp2_with fail
        refine (sect_within r 0 headers w1 hr0 hr1 (by omega) (by omega) (by omega) (by omega)).mono ?_
        rintro e w' ⟨rfl, rfl⟩
        rw [HW.out]
        go_wp2_with (refine wpList_load_row (by rfl) 32 (.tmp 2) (by rfl) w.heap.size (by rfl) 32 cs (0, 0) _ HB1.out Try.underlying32 (by rfl) (by rw [HC.out.sz]; exact headInfo) ?_)
        refine HOF.out.mono ?_
        rw [HO.out]
        rintro e w2 ⟨rfl, hb2⟩
        have HB2 := hid hb2
        obtain ⟨-, k1, k2, k3, k4, -, -⟩ := ((HR.out.below HU1.out).below hb2).sect HSI.out
        have q38' := ((HB1.out.below hb2).cell 38).trans HC.out.c38
        rw [HN.out] at q38'
        clear hb2 q5 q38
        go_wp2_with fail
        go_quiet ((go_at_call 37; exact quiet_l (sect_within r s.rva s.raw _ hr0 hr1 (by omega) (by omega) (by omega) (by omega))))
        rw [HW1.out]
        go_wp2_with fail
        go_ret2
        exact ⟨rfl, up_drewN (up_trans HU1.out HB2.out) _⟩

/-- A byte of some; what there is not is a nought. -/
def byteF (l : List UInt8) (k : Int) : UInt8 := if k < 0 then 0 else l.getD k.toNat 0

set_option maxRecDepth 100000 in
set_option maxHeartbeats 1000000 in
theorem sect_byteAt (A : Option Addr) (c : Nat) (l : List UInt8) (k : Int) (w : World) (hr : Bs w A c l) :
    Calls Try.prog 38 #[.slice A l.length c, .int .i64 k] w fun e w' => e = .returned (.int .u8 ((byteF l k).toNat : Int)) ∧ w = w' := by
  have hm := hr.mx
  by_cases h0 : k < 0
  · rw [byteF, if_pos h0]
    clear hr
    go_enter Try.func38, Try.ntmps38
    go_wp2
    go_ret
    exact ⟨rfl, rfl⟩
  · rw [byteF, if_neg h0]
    obtain ⟨i, rfl⟩ := Int.eq_ofNat_of_zero_le (show 0 ≤ k by omega)
    rw [Int.toNat_natCast]
    by_cases h1 : i < l.length
    · obtain ⟨ad, rfl, hc⟩ := hr.row.byte h1
      have hg : l.getD i 0 = l[i] := by simp [List.getD, h1]
      rw [hg]
      obtain ⟨b, hb⟩ : ∃ b, l[i] = b := ⟨_, rfl⟩
      rw [hb] at hc ⊢
      have d1 : decide (l.length ≤ i) = false := by simp; exact h1
      clear hr hb hg
      go_enter Try.func38, Try.ntmps38
      go_wp2
      go_ret
      exact ⟨rfl, rfl⟩
    · have hg : l.getD i 0 = 0 := by simp [List.getD, List.getElem?_eq_none (Nat.le_of_not_lt h1)]
      rw [hg]
      have d1 : decide (l.length ≤ i) = true := by simp; omega
      clear hr hg
      go_enter Try.func38, Try.ntmps38
      go_wp2
      go_ret
      exact ⟨rfl, rfl⟩

/-- The protection of a place. -/
def protAtF (headers : Nat) (xs : List SectD) (r : Int) : Int :=
  match ofF xs 0 r with
  | some i => match xs[i]? with
    | some s => protF s.ch
    | none => 0
  | none => if withinB r 0 (roundF headers 4096) then 1 else 0

set_option maxRecDepth 100000 in
set_option maxHeartbeats 4000000 in
theorem sect_ProtAt (cs : Array Value) (size headers : Nat) (A : Option Addr) (c : Nat) (xs : List SectD) (r : Int) (w : World) (hc : HeadC cs size headers A xs.length c) (hr : Row w A (scells xs)) (hs : ∀ s ∈ xs, s.small) (hr0 : 0 ≤ r) (hr1 : r ≤ 4611686018427387904) :
    Calls Try.prog 36 #[.agg cs, .int .i64 r] w fun e w' => e = .returned (.int .i64 (protAtF headers xs r)) ∧ Below w.heap.size w w' := by
  have nm := hc.nm
  have hh1 := hc.h1
  have HC := hid hc
  have HR := hid hr
  obtain ⟨n, hn⟩ : ∃ n, xs.length = n := ⟨_, rfl⟩
  have HN := hid hn
  rw [hn] at nm
  obtain ⟨w1, hw1⟩ : ∃ w1, w.alloc (.cells cs 32) = w1 := ⟨_, rfl⟩
  have hB1 : Blk w1 w.heap.size cs 32 := hw1 ▸ Blk.new _ _ _
  have hU1 : Below w.heap.size w w1 := hw1 ▸ up_alloc (up_refl _) _
  have HB1 := hid hB1
  have HU1 := hid hU1
  have HOF := hid (sect_Of cs size headers A c xs r w1 hc (hr.below hU1) hs hr0 hr1)
  obtain ⟨rb1, rb2, -⟩ := round_bounds headers (by omega) (by omega)
  obtain ⟨fl, hfl⟩ : ∃ x, roundF headers 4096 = x := ⟨_, rfl⟩
  have HFL := hid hfl
  rw [hfl] at rb1 rb2
  cases hof : ofF xs 0 r with
  | none =>
    cases hw0 : withinB r 0 fl with
    | true =>
      have hf : protAtF headers xs r = 1 := by rw [protAtF, hof, hfl, hw0]; rfl
      rw [hf]
      have HW := hid hw0
      have HO := hid hof
      clear hc hr hs hn hB1 hU1 hf hw0 hof hfl
      go_enter Try.func36, Try.ntmps36
      go_wp2_with (refine wpList_load_row (by rfl) 32 (.tmp 2) (by rfl) w.heap.size (by rfl) 32 cs (0, 0) _ HB1.out Try.underlying32 (by rfl) (by rw [HC.out.sz]; exact headInfo) ?_)
      refine HOF.out.mono ?_
      rw [HO.out]
      rintro e w2 ⟨rfl, hb2⟩
      have HB2 := hid hb2
      have q5' := ((HB1.out.below hb2).cell 5).trans HC.out.c5
      clear hb2
      go_wp2_with fail
      refine (hdr_Round headers 4096 _ (by omega)).mono ?_
      rintro e w' ⟨rfl, rfl⟩
      rw [HFL.out]
      go_wp2_with fail
      refine (sect_within r 0 fl w2 hr0 hr1 (by omega) (by omega) (by omega) (by omega)).mono ?_
      rintro e w' ⟨rfl, rfl⟩
      rw [HW.out]
      go_wp2_with fail
      go_ret
      exact ⟨rfl, up_trans HU1.out HB2.out⟩
    | false =>
      have hf : protAtF headers xs r = 0 := by rw [protAtF, hof, hfl, hw0]; rfl
      rw [hf]
      have HW := hid hw0
      have HO := hid hof
      clear hc hr hs hn hB1 hU1 hf hw0 hof hfl
      go_enter Try.func36, Try.ntmps36
      go_wp2_with (refine wpList_load_row (by rfl) 32 (.tmp 2) (by rfl) w.heap.size (by rfl) 32 cs (0, 0) _ HB1.out Try.underlying32 (by rfl) (by rw [HC.out.sz]; exact headInfo) ?_)
      refine HOF.out.mono ?_
      rw [HO.out]
      rintro e w2 ⟨rfl, hb2⟩
      have HB2 := hid hb2
      have q5' := ((HB1.out.below hb2).cell 5).trans HC.out.c5
      clear hb2
      go_wp2_with fail
      refine (hdr_Round headers 4096 _ (by omega)).mono ?_
      rintro e w' ⟨rfl, rfl⟩
      rw [HFL.out]
      go_wp2_with fail
      refine (sect_within r 0 fl w2 hr0 hr1 (by omega) (by omega) (by omega) (by omega)).mono ?_
      rintro e w' ⟨rfl, rfl⟩
      rw [HW.out]
      go_wp2_with fail
      go_ret
      exact ⟨rfl, up_trans HU1.out HB2.out⟩
  | some i =>
    obtain ⟨-, hi, s, hsi, hwi⟩ := ofF_lt xs 0 r i hof
    rw [Nat.sub_zero] at hi hsi
    have hil : i < n := by omega
    have dil : decide (i < n) = true := by simp; exact hil
    obtain ⟨ad, rfl⟩ := hr.sect_ad hi
    have HSI := hid hsi
    have hf : protAtF headers xs r = protF s.ch := by rw [protAtF, hof]; simp only [hsi]
    rw [hf]
    have HO := hid hof
    clear hc hr hs hn hB1 hU1 hf hof hfl hwi hsi
    go_enter Try.func36, Try.ntmps36
    go_wp2_with (refine wpList_load_row (by rfl) 32 (.tmp 2) (by rfl) w.heap.size (by rfl) 32 cs (0, 0) _ HB1.out Try.underlying32 (by rfl) (by rw [HC.out.sz]; exact headInfo) ?_)
    refine HOF.out.mono ?_
    rw [HO.out]
    rintro e w2 ⟨rfl, hb2⟩
    have HB2 := hid hb2
    obtain ⟨-, -, -, -, -, k5, -⟩ := ((HR.out.below HU1.out).below hb2).sect HSI.out
    have q38' := ((HB1.out.below hb2).cell 38).trans HC.out.c38
    rw [HN.out] at q38'
    clear hb2
    go_wp2_with fail
    refine (sect_Prot s.ch w2).mono ?_
    rintro e w' ⟨rfl, rfl⟩
    go_wp2_with fail
    go_ret
    exact ⟨rfl, up_trans HU1.out HB2.out⟩
end Go.Proofs.Ytajcihcbgmpdjaa
