/- The statements' own words of layer 11: SameInts, SameTls, At, Made, awake; and TlsBases walked. -/
import Derived.Test.YtnbhmcbhpkjgcaaTls
import Derived.Test.YtnbhmcbhpkjgcaaRef
namespace Go.Proofs.Ytnbhmcbhpkjgcaa
open Go.RowKit

theorem ints_length (l : List Int) : (ints l).length = l.length := by simp [ints]
theorem Row.int {w : World} {A : Option Addr} {l : List Int} (h : Row w A (ints l)) {k : Nat} (hk : k < l.length) :
    ∃ ad, A = some ad ∧ w.cell? (ad.add k) = some (.int .i64 l[k]) := by
  obtain ⟨ad, e, hc⟩ := h.cell (j := k) (by rw [ints_length]; exact hk)
  exact ⟨ad, e, by rw [hc]; simp [ints]⟩

set_option maxRecDepth 100000 in
set_option maxHeartbeats 2000000 in
/-- Equal lists are the same. -/
theorem ref_SameInts (A B : Option Addr) (c d : Nat) (l : List Int) (w : World) (ha : Row w A (ints l)) (hb : Row w B (ints l)) (hm : l.length ≤ 140737488355328) :
    Calls Try.prog 29 #[.slice A l.length c, .slice B l.length d] w fun e w' => e = .returned (.bool true) ∧ ∃ n, w' = w.drewN n := by
  go_enter Try.func29, Try.ntmps29
  go_wp2
  go_loopw [5] (fun i wr => ∃ (j n : Nat), j ≤ l.length ∧ i = .int .i64 j ∧ wr = w.drewN n) (fun i _ => l.length - (intOf i).toNat)
  case atStart => exact ⟨0, 0, Nat.zero_le _, rfl, rfl⟩
  case round =>
    obtain ⟨j, n, hj, rfl, rfl⟩ := hrel
    by_cases hlt : j < l.length
    · obtain ⟨ad, rfl, h1⟩ := ha.int hlt
      obtain ⟨ad', rfl, h2⟩ := hb.int hlt
      go_wp2
      go_quiet (fail)
      go_wp2
      go_roundw
      case rel => exact ⟨j + 1, n + nq, by omega, by go_num, rfl⟩
      case measure => simp [intOf]; omega
    · go_wp2
      go_ret
      exact ⟨rfl, n, rfl⟩

/-- An image's bytes with a directory behind some. -/
def atL (start : Nat) (base idx : Int) (l : List Int) : List UInt8 :=
  putL (putL (zer (start + 48)) (start + 16) 8 (base + idx).toNat) (start + 24) 8 (base + start + 48).toNat ++ (l.take 10).flatMap (fun x => lbytes (base + x).toNat 8) ++ zer 8

theorem ty_u8 : (Try.prog.info? 5).map (fun i => (i.zero, i.size, i.bytes)) = some (some (.int .u8 0), 1, 1) := by kernel_rfl

theorem flat_len (l : List Int) (f : Int → List UInt8) (h : ∀ x, (f x).length = 8) : (l.flatMap f).length = 8 * l.length := by
  induction l with
  | nil => rfl
  | cons a l ih => simp [ih, h]; omega

set_option maxRecDepth 100000 in
set_option maxHeartbeats 4000000 in
theorem law_At (start base idx : Int) (A : Option Addr) (c : Nat) (l : List Int) (w : World) (hr : Row w A (ints l)) (hs0 : 0 ≤ start) (hs1 : start ≤ 1048576) (hb0 : 0 ≤ base) (hb1 : base ≤ 4611686018427387904)
    (hi0 : 0 ≤ idx) (hi1 : idx ≤ 4611686018427387904) (hl : ∀ x ∈ l, 0 ≤ x ∧ x ≤ 4611686018427387904) (hm : l.length ≤ 140737488355328) :
    Calls Try.prog 28 #[.int .i64 start, .int .u64 base, .int .i64 idx, .slice A l.length c] w fun e w' =>
      ∃ Av cv, e = .returned (.slice Av (atL start.toNat base idx l).length cv) ∧ Bs w' Av cv (atL start.toNat base idx l) ∧ Below w.heap.size w w' := by
  obtain ⟨st, rfl⟩ := Int.eq_ofNat_of_zero_le hs0
  rw [Int.toNat_natCast]
  have hmk := run_make_row' (P := Try.prog) 36 5 (.int .u8 0) 1 Try.underlying36 ty_u8 rfl .i64 .i64 (st + 48) (by omega) (by omega)
  rw [show ((st + 48 : Nat) : Int) = (st : Int) + 48 from by omega] at hmk
  have hcv := run_str_zeros (P := Try.prog) 36 9 5 Try.underlying36 Try.underlying5 Try.underlying9 (st + 48)
  have w1 : IntKind.u64.wrap idx = idx := wrap_u64_id (by omega) (by omega)
  have w2 : IntKind.u64.wrap (base + idx) = base + idx := wrap_u64_id (by omega) (by omega)
  have w3 : IntKind.u64.wrap (st : Int) = st := wrap_u64_id (by omega) (by omega)
  have w4 : IntKind.u64.wrap (base + st) = base + st := wrap_u64_id (by omega) (by omega)
  have w5 : IntKind.u64.wrap (base + st + 48) = base + st + 48 := wrap_u64_id (by omega) (by omega)
  go_enter Try.func28, Try.ntmps28
  go_wp2_with fail
  refine (ref_PutL _ _ _ _ _ (by rw [zer_length]; omega) (by omega) (by rw [zer_length]; omega) (by omega) (by omega) (by omega) (by omega)).mono ?_
  rintro e wa ⟨rfl, hba⟩
  have hba0 : Below w.heap.size w wa := ((Below.refl _ _).alloc (Nat.le_refl _) _).trans (hba.mono (by simp))
  rw [show ((st : Int) + 16).toNat = st + 16 from by omega, show ((8 : Int)).toNat = 8 from rfl]
  obtain ⟨s1, hs1⟩ : ∃ s1, s1 = putL (zer (st + 48)) (st + 16) 8 (base + idx).toNat := ⟨_, rfl⟩
  rw [← hs1]
  have hl1 : s1.length = st + 48 := by rw [hs1, putL_length _ _ _ _ (by rw [zer_length]; omega)]; exact zer_length _
  have Hs1 := hid hs1
  have Hl1 := hid hl1
  clear hs1 hl1
  go_wp2_with fail
  refine (ref_PutL _ _ _ _ _ (by rw [Hl1]; omega) (by omega) (by rw [Hl1]; omega) (by omega) (by omega) (by omega) (by omega)).mono ?_
  rintro e wb ⟨rfl, hbb⟩
  have hbb0 : Below w.heap.size w wb := hba0.trans (hbb.mono hba0.size)
  rw [show ((st : Int) + 24).toNat = st + 24 from by omega, show ((8 : Int)).toNat = 8 from rfl]
  obtain ⟨s2, hs2⟩ : ∃ s2, s2 = putL s1 (st + 24) 8 (base + st + 48).toNat := ⟨_, rfl⟩
  rw [← hs2]
  have hl2 : s2.length = st + 48 := by rw [hs2, putL_length _ _ _ _ (by rw [Hl1]; omega), Hl1]
  have Hs2 := hid hs2
  have Hl2 := hid hl2
  clear hs2 hl2 hba hbb hba0
  go_wp2_with fail
  go_loopw [9, 10] (fun s i wr => ∃ j : Nat, j ≤ l.length ∧ j ≤ 10 ∧ i = .int .i64 j ∧ s = .string (S (s2 ++ (l.take j).flatMap (fun x => lbytes (base + x).toNat 8))) ∧ Below w.heap.size w wr) (fun _ i _ => 10 - (intOf i).toNat)
  case atStart => exact ⟨0, Nat.zero_le _, Nat.zero_le _, rfl, by simp, hbb0⟩
  case round =>
    obtain ⟨j, hj, hj10, rfl, rfl, hb⟩ := hrel
    by_cases hlt : j < l.length ∧ j < 10
    · obtain ⟨hlt, hlt10⟩ := hlt
      obtain ⟨ad, rfl, hcell⟩ := (hr.below hb).int hlt
      have hx := hl l[j] (List.getElem_mem hlt)
      obtain ⟨x, hxx⟩ : ∃ x, x = l[j] := ⟨_, rfl⟩
      rw [← hxx] at hcell hx
      have Hx := hid hxx
      clear hxx
      obtain ⟨hx0, hx1⟩ := hx
      have w6 : IntKind.u64.wrap x = x := wrap_u64_id (by omega) (by omega)
      have w7 : IntKind.u64.wrap (base + x) = base + x := wrap_u64_id (by omega) (by omega)
      have hsz : (S (s2 ++ (l.take j).flatMap (fun x => lbytes (base + x).toNat 8))).size = st + 48 + 8 * j := by
        rw [S_size, List.length_append, Hl2, flat_len _ _ (fun _ => lbytes_length _ _)]; simp; omega
      have hsz2 : (S (lbytes (base + x).toNat 8)).size = 8 := by rw [S_size, lbytes_length]
      go_wp2_with (go_at_call 33; refine (ref_Bytes _ _ _ (by omega) (by omega) (by omega) (by omega)).mono ?_; rintro e wc ⟨rfl, hbc⟩; rw [show ((8 : Int)).toNat = 8 from rfl])
      go_roundw
      case rel => exact ⟨j + 1, by omega, by omega, by go_num, by rw [S_append, take_snoc l j hlt, List.flatMap_append, ← Hx.out]; simp, hb.trans (hbc.mono hb.size)⟩
      case measure => simp [intOf]; omega
    · have hjl : l.take j = l.take 10 := by
        by_cases h1 : j < l.length
        · rw [show j = 10 from by omega]
        · rw [List.take_of_length_le (by omega), List.take_of_length_le (by omega)]
      have Hjl := hid hjl
      have hmk8 := run_make_row' (P := Try.prog) 36 5 (.int .u8 0) 1 Try.underlying36 ty_u8 rfl .i64 .i64 8 (by omega) (by omega)
      rw [show (((8 : Nat)) : Int) = 8 from rfl] at hmk8
      have hcv8 := run_str_zeros (P := Try.prog) 36 9 5 Try.underlying36 Try.underlying5 Try.underlying9 8
      have hbs := fun (s : ByteArray) (W : World) => Lib.run_convert_string_bytes (P := Try.prog) W 9 36 5 s Try.underlying9 Try.underlying36 Try.underlying5
      obtain ⟨f, hf⟩ : ∃ f, f = (l.take j).flatMap (fun x => lbytes (base + x).toNat 8) := ⟨_, rfl⟩
      have hfl : f.length ≤ 80 := by rw [hf, flat_len _ _ (fun _ => lbytes_length _ _)]; simp; omega
      have hsz : (S (s2 ++ f)).size = st + 48 + f.length := by rw [S_size, List.length_append, Hl2]
      have hsz2 : (S (zer 8)).size = 8 := by rw [S_size, zer_length]
      rw [← hf]
      have Hf := hid hf
      clear hf hjl
      by_cases h1 : j < l.length
      · have h2 : ¬ j < 10 := by omega
        clear hlt
        go_wp2
        go_ret
        have ha : S (s2 ++ f) ++ S (zer 8) = S (atL st base idx l) := by
          rw [S_append, atL, Hf.out, Hjl.out, Hs2.out, Hs1.out]
        have hal : (atL st base idx l).length = st + 48 + f.length + 8 := by
          rw [← S_size, ← ha, ByteArray.size_append, hsz, hsz2]
        rw [ha]
        refine ⟨some ⟨wr.heap.size + 1, 0, none⟩, _, by rw [hal]; rfl, ?_, ?_⟩
        · have := bytesWorld_bs (wr.alloc (.cells (madeCells #[.int .u8 0] 8) 5)) 5 (S (atL st base idx l)) (by rw [S_size, hal]; omega)
          rw [S_list, S_size, hal] at this
          simpa using this
        · exact (hb.alloc hb.size _).trans ((bytesWorld_below _ _ _).mono (by have := hb.size; simp; omega))
      · clear hlt
        go_wp2
        go_ret
        have ha : S (s2 ++ f) ++ S (zer 8) = S (atL st base idx l) := by
          rw [S_append, atL, Hf.out, Hjl.out, Hs2.out, Hs1.out]
        have hal : (atL st base idx l).length = st + 48 + f.length + 8 := by
          rw [← S_size, ← ha, ByteArray.size_append, hsz, hsz2]
        rw [ha]
        refine ⟨some ⟨wr.heap.size + 1, 0, none⟩, _, by rw [hal]; rfl, ?_, ?_⟩
        · have := bytesWorld_bs (wr.alloc (.cells (madeCells #[.int .u8 0] 8) 5)) 5 (S (atL st base idx l)) (by rw [S_size, hal]; omega)
          rw [S_list, S_size, hal] at this
          simpa using this
        · exact (hb.alloc hb.size _).trans ((bytesWorld_below _ _ _).mono (by have := hb.size; simp; omega))
end Go.Proofs.Ytnbhmcbhpkjgcaa
