/- sect: within, Of. -/
import Derived.Test.YtajcihcbgmpdjaaSecRow
import Derived.Test.YtajcihcbgmpdjaaProt
namespace Go.Proofs.Ytajcihcbgmpdjaa
open Go.RowKit

/-- Whether a place is less than so many bytes behind another one. -/
def withinB (rva at' n : Int) : Bool := decide (at' ≤ rva ∧ rva - at' < n)

theorem sect_within (r a n : Int) (w : World) (hr0 : 0 ≤ r) (hr1 : r ≤ 4611686018427387904) (ha0 : 0 ≤ a) (ha1 : a ≤ 4611686018427387904) (hn0 : 0 ≤ n) (hn1 : n ≤ 4611686018427387904) :
    Calls Try.prog 37 #[.int .i64 r, .int .i64 a, .int .i64 n] w fun e w' => e = .returned (.bool (withinB r a n)) ∧ w = w' := by
  by_cases h1 : a ≤ r
  · have hf : withinB r a n = decide (r - a < n) := by simp [withinB, h1]
    rw [hf]
    clear hf
    obtain ⟨m, hm⟩ : ∃ m, max n 0 = m := ⟨_, rfl⟩
    have hmn : n = m := by omega
    subst hmn
    go_enter Try.func37, Try.ntmps37
    go_wp2
    go_ret
    exact ⟨rfl, rfl⟩
  · have hf : withinB r a n = false := by simp [withinB, h1]
    rw [hf]
    clear hf
    go_enter Try.func37, Try.ntmps37
    go_wp2
    go_ret
    exact ⟨rfl, rfl⟩

/-- Which section has a place. -/
def ofF : List SectD → Nat → Int → Option Nat
  | [], _, _ => none
  | s :: xs, i, rva => if withinB rva s.rva (roundF s.vs 4096) then some i else ofF xs (i + 1) rva

/-- A head as cells: its size, its own bytes, its sections. -/
structure HeadC (cs : Array Value) (size headers : Nat) (A : Option Addr) (n c : Nat) : Prop where
  c4 : cs[4]? = some (.int .i64 size)
  c5 : cs[5]? = some (.int .i64 headers)
  c38 : cs[38]? = some (.slice A n c)
  sz : cs.size = 39
  one : cs.all (·.oneCell') = true
  s1 : size ≤ 4294967295
  h1 : headers ≤ 4294967295
  nm : n ≤ 140737488355328

/-- A section's numbers are of four bytes. -/
def SectD.small (s : SectD) : Prop := s.vs ≤ 4294967295 ∧ s.rva ≤ 4294967295 ∧ s.raw ≤ 4294967295 ∧ s.pt ≤ 4294967295 ∧ s.ch ≤ 4294967295

set_option maxRecDepth 100000 in
set_option maxHeartbeats 4000000 in
theorem sect_Of (cs : Array Value) (size headers : Nat) (A : Option Addr) (c : Nat) (xs : List SectD) (r : Int) (w : World) (hc : HeadC cs size headers A xs.length c) (hr : Row w A (scells xs)) (hs : ∀ s ∈ xs, s.small) (hr0 : 0 ≤ r) (hr1 : r ≤ 4611686018427387904) :
    Calls Try.prog 35 #[.agg cs, .int .i64 r] w fun e w' => e = .returned (.tuple #[.int .i64 ((ofF xs 0 r).getD 0 : Nat), .bool (ofF xs 0 r).isSome]) ∧ Below w.heap.size w w' := by
  obtain ⟨R, hR⟩ : ∃ R, ofF xs 0 r = R := ⟨_, rfl⟩
  rw [hR]
  have c38 := hc.c38
  have nm := hc.nm
  have HC := hid hc
  have HR := hid hr
  have HS := hid hs
  have HRR := hid hR
  obtain ⟨n, hn⟩ : ∃ n, xs.length = n := ⟨_, rfl⟩
  have HN := hid hn
  rw [hn] at c38 nm
  clear hc hr hs hR hn
  go_enter Try.func35, Try.ntmps35
  go_wp2_with fail
  go_loopg [11] n (fun g i wr => ∃ (j : Nat), i = .int .i64 j ∧ j + g = n ∧ Below w.heap.size w wr ∧ Hid (ofF (xs.drop j) j r = R))
  case atStart => exact ⟨0, rfl, by omega, up_alloc (up_refl _) _, HRR⟩
  case round =>
    obtain ⟨j, rfl, hj, hb, hf⟩ := hrel
    have HB := hid hb
    clear hb
    rcases gk with _ | m
    · have hjn : ((j : Int) < (n : Int)) = False := by simp; omega
      have hR : R = none := by
        rw [← hf.out, List.drop_of_length_le (by rw [HN.out]; omega)]
        rfl
      subst hR
      go_wp2_with fail
      go_ret2
      exact ⟨rfl, HB.out⟩
    · have hjn : ((j : Int) < (n : Int)) = True := by simp; omega
      have hjl : j < xs.length := by have := HN.out; omega
      obtain ⟨ad, rfl⟩ := HR.out.sect_ad hjl
      obtain ⟨s, hs⟩ : ∃ s, xs[j]? = some s := ⟨_, List.getElem?_eq_getElem hjl⟩
      obtain ⟨k0, k1, k2, k3, k4, k5, k6⟩ := (HR.out.below HB.out).sect hs
      obtain ⟨b1, b2, b3, b4, b5⟩ := HS.out s (List.mem_of_getElem? hs)
      obtain ⟨rb1, rb2, -⟩ := round_bounds s.vs (by omega) (by omega)
      have hd : xs.drop j = s :: xs.drop (j + 1) := by
        rw [List.drop_eq_getElem_cons hjl]
        congr 1
        rw [List.getElem?_eq_getElem hjl] at hs
        exact Option.some.inj hs
      have hf2 : (if withinB r s.rva (roundF s.vs 4096) then some j else ofF (xs.drop (j + 1)) (j + 1) r) = R := by
        have h := hf.out
        rw [hd] at h
        exact h
      have HF2 := hid hf2
      clear hf hf2 hd hs
      go_wp2_with fail
      go_quiet ((first | (go_at_call 14; exact quiet_l (hdr_Round s.vs 4096 _ (by omega))) | (go_at_call 37; exact quiet_l (sect_within r s.rva (roundF s.vs 4096) _ hr0 hr1 (by omega) (by omega) (by omega) (by omega)))))
      cases hw : withinB r s.rva (roundF s.vs 4096) with
      | true =>
        have hR : R = some j := by have h := HF2.out; rw [hw, if_pos rfl] at h; exact h.symm
        subst hR
        go_wp2_with fail
        go_ret2
        exact ⟨rfl, up_drewN (up_alloc HB.out _) _⟩
      | false =>
        have hR : ofF (xs.drop (j + 1)) (j + 1) r = R := by have h := HF2.out; rw [hw, if_neg (by simp)] at h; exact h
        have HF3 := hid hR
        clear hR
        go_wp2_with fail
        go_roundg m
        case measure => omega
        case rel => exact ⟨j + 1, by go_num, by omega, up_drewN (up_alloc HB.out _) _, HF3⟩
end Go.Proofs.Ytajcihcbgmpdjaa
