/- tlsdir: a place of an address, the calls of a row, what a directory tells. -/
import Derived.Test.YtnbhmcbhpkjgcaaLe
namespace Go.Proofs.Ytnbhmcbhpkjgcaa
open Go.RowKit

/-- A place's distance from the base, if n bytes of it lie in an image. -/
def placeF (len r n : Int) : Option Int := if r ≤ len ∧ n ≤ len - r then some r else none
def sub64 (a b : Int) : Int := IntKind.u64.wrap (a - b)
theorem sub64_nonneg (a b : Int) : 0 ≤ sub64 a b := by unfold sub64; rw [wrap_u64]; omega

set_option maxRecDepth 100000 in
set_option maxHeartbeats 1000000 in
theorem tls_place (A : Option Addr) (c : Nat) (l : List UInt8) (addr base n : Int) (w : World) (hr : Bs w A c l) (hn0 : 0 ≤ n) (hn8 : n ≤ 8) :
    Calls Try.prog 26 #[.slice A l.length c, .int .u64 addr, .int .u64 base, .int .i64 n] w fun e w' =>
      e = .returned (.tuple #[.int .i64 ((placeF l.length (sub64 addr base) n).getD 0), .bool (placeF l.length (sub64 addr base) n).isSome]) ∧ w = w' := by
  have hm := hr.mx
  obtain ⟨r, hrr⟩ : ∃ r, r = sub64 addr base := ⟨_, rfl⟩
  have h0 : 0 ≤ r := by rw [hrr]; exact sub64_nonneg _ _
  have hw : IntKind.u64.wrap (addr - base) = r := hrr.symm
  rw [← hrr]
  clear hrr
  have hw2 : IntKind.u64.wrap (l.length : Int) = l.length := wrap_u64_id (by omega) (by omega)
  by_cases h1 : r ≤ l.length
  · have hd : decide ((l.length : Int) < r) = false := by simp; omega
    by_cases h2 : n ≤ l.length - r
    · have hp : placeF l.length r n = some r := by simp [placeF, h1, h2]
      have hi : inB l.length r n = true := by simp only [inB, decide_eq_true_eq]; omega
      rw [hp]
      clear hp
      go_enter Try.func26, Try.ntmps26
      go_wp2_with fail
      refine (le_In _ _ _ _ (by omega) (by omega)).mono ?_
      rintro e w' ⟨rfl, rfl⟩
      go_wp2
      go_ret2
      exact ⟨rfl, rfl⟩
    · have hp : placeF l.length r n = none := by simp [placeF, h2]
      have hi : inB l.length r n = false := by simp only [inB, decide_eq_false_iff_not]; omega
      rw [hp]
      clear hp
      go_enter Try.func26, Try.ntmps26
      go_wp2_with fail
      refine (le_In _ _ _ _ (by omega) (by omega)).mono ?_
      rintro e w' ⟨rfl, rfl⟩
      go_wp2
      go_ret2
      exact ⟨rfl, rfl⟩
  · have hd : decide ((l.length : Int) < r) = true := by simp; omega
    have hp : placeF l.length r n = none := by simp [placeF, h1]
    rw [hp]
    clear hp h1
    go_enter Try.func26, Try.ntmps26
    go_wp2
    go_ret2
    exact ⟨rfl, rfl⟩

/-- The calls of a row from an address on, in so many rounds. -/
def tlsCallsF (l : List UInt8) (base : Int) : Nat → Int → List Int → Option (List Int)
  | 0, _, _ => none
  | k + 1, addr, out =>
    match placeF l.length (sub64 addr base) 8 with
    | none => none
    | some p => if numAt l p 8 = 0 then some out else
      match placeF l.length (sub64 (numAt l p 8) base) 1 with
      | none => none
      | some q => if out.length = 8 then none else tlsCallsF l base k (IntKind.u64.wrap (addr + 8)) (out ++ [q])

theorem ty_int : (Try.prog.info? 3).map (fun i => (i.zero, i.size, i.bytes)) = some (some (.int .i64 0), 1, 8) := by kernel_rfl

def ints (l : List Int) : List Value := l.map (Value.int .i64)

set_option maxRecDepth 100000 in
set_option maxHeartbeats 2000000 in
theorem tls_calls (A : Option Addr) (c : Nat) (l : List UInt8) (addr base : Int) (w : World) (hr : Bs w A c l) :
    Calls Try.prog 27 #[.slice A l.length c, .int .u64 addr, .int .u64 base] w fun e w' =>
      ∃ v, e = .returned (.tuple #[v, .bool (tlsCallsF l base 9 addr []).isSome]) ∧ w'.ownsRow w.heap.size 3 1 v ((tlsCallsF l base 9 addr []).getD []).length (ints ((tlsCallsF l base 9 addr []).getD [])) ∧ Below w.heap.size w w' := by
  obtain ⟨r, hrr⟩ : ∃ r, r = tlsCallsF l base 9 addr [] := ⟨_, rfl⟩
  rw [← hrr]
  have HR := hid hrr
  clear hrr
  go_enter Try.func27, Try.ntmps27
  go_wp2
  go_loopg [1, 8] 9 (fun k ad v wr => ∃ (x : Int) (out : List Int), ad = .int .u64 x ∧ wr.ownsRow w.heap.size 3 1 v out.length (ints out) ∧ Below w.heap.size w wr ∧ Hid (tlsCallsF l base k x out = r) ∧ out.length + k = 9 ∧ out.length ≤ 8)
  case atStart => exact ⟨addr, [], rfl, World.ownsRow_nil _ _ _ _, Below.refl _ _, HR.symm, rfl, by simp⟩
  case round =>
    obtain ⟨x, out, rfl, hown, hb, hf, hlen, hl8⟩ := hrel
    have Hlen := hid hlen
    clear hlen
    obtain ⟨k, rfl⟩ : ∃ k, gk = k + 1 := ⟨gk - 1, by have : out.length + gk = 9 := Hlen; omega⟩
    have hbs := hr.below hb
    have hf : tlsCallsF l base (k + 1) x out = r := hf
    rw [tlsCallsF] at hf
    rcases hp : placeF l.length (sub64 x base) 8 with _ | p
    · simp only [hp] at hf
      go_wp2_with fail
      refine (tls_place A c l _ _ _ _ hbs (by omega) (by omega)).mono ?_
      rintro e w' ⟨rfl, rfl⟩
      rw [hp]
      clear hp
      subst hf
      go_wp2
      go_ret2
      exact ⟨_, rfl, World.ownsRow_nil _ _ _ _, hb⟩
    · simp only [hp] at hf
      go_wp2_with fail
      refine (tls_place A c l _ _ _ _ hbs (by omega) (by omega)).mono ?_
      rintro e w' ⟨rfl, rfl⟩
      rw [hp]
      clear hp
      have Hf := hid hf
      clear hf
      go_wp2_with fail
      refine (le_U64 A c l _ _ hbs).mono ?_
      rintro e w' ⟨rfl, rfl⟩
      have hf : (if numAt l p 8 = 0 then some out else _) = r := Hf
      clear Hf
      by_cases hz : numAt l p 8 = 0
      · rw [if_pos hz] at hf
        rw [hz]
        subst hf
        go_wp2
        go_ret2
        exact ⟨_, rfl, hown, hb⟩
      · rw [if_neg hz] at hf
        have hz' : ((numAt l p 8 : Int) == 0) = false := by rw [beq_eq_false_iff_ne]; omega
        rcases hq : placeF l.length (sub64 (numAt l p 8) base) 1 with _ | q
        · simp only [hq] at hf
          subst hf
          go_wp2_with fail
          refine (tls_place A c l _ _ _ _ hbs (by omega) (by omega)).mono ?_
          rintro e w' ⟨rfl, rfl⟩
          rw [hq]
          clear hq
          go_wp2
          go_ret2
          exact ⟨_, rfl, World.ownsRow_nil _ _ _ _, hb⟩
        · simp only [hq] at hf
          go_wp2_with fail
          refine (tls_place A c l _ _ _ _ hbs (by omega) (by omega)).mono ?_
          rintro e w' ⟨rfl, rfl⟩
          rw [hq]
          clear hq
          obtain ⟨Av, cv, rfl, hcv, hrow⟩ := own_row hown
          clear hrow
          by_cases h8 : out.length = 8
          · rw [if_pos h8] at hf
            subst hf
            rw [h8]
            go_wp2
            go_ret2
            exact ⟨_, rfl, World.ownsRow_nil _ _ _ _, hb⟩
          · rw [if_neg h8] at hf
            have h8' : ((out.length : Int) == 8) = false := by rw [beq_eq_false_iff_ne]; omega
            have Hf := hid hf
            clear hf
            go_wp2_with (at_builtin; go_loud (refine wp_app wr rfl _ _ 22 rfl w.heap.size 3 (.int .i64 0) 1 8 Try.underlying22 ty_int rfl (by decide) (.slice Av out.length cv) out.length (ints out) (by rfl) hown [.int .i64 q] rfl (by simp [Value.oneCell']) (by rfl) (by omega) (by omega) hb.size ?_); intro v' w1 hown' hbel hgr; clear hgr)
            go_roundg k
            case measure => omega
            case rel => exact ⟨_, out ++ [q], rfl, by simpa [ints] using hown', hbel _ hb, Hf, by have : out.length + (k + 1) = 9 := Hlen; simp; omega, by simp; omega⟩

/-- What a directory tells, and the error. -/
def tlsF (l : List UInt8) (rva base : Int) : (Bool × Int × List Int) × Int :=
  if rva = 0 then ((false, 0, []), 0) else
  if inB l.length rva 40 = false then ((false, 0, []), 12) else
  match placeF l.length (sub64 (numAt l (wrap64 (rva + 16)) 8) base) 4 with
  | none => ((false, 0, []), 12)
  | some p => if numAt l (wrap64 (rva + 24)) 8 = 0 then ((true, p, []), 0) else
    match tlsCallsF l base 9 (numAt l (wrap64 (rva + 24)) 8) [] with
    | none => ((false, 0, []), 12)
    | some cs => ((true, p, cs), 0)

set_option maxRecDepth 100000 in
set_option maxHeartbeats 2000000 in
theorem tls_Parse (A : Option Addr) (c : Nat) (l : List UInt8) (rva size base : Int) (w : World) (hr : Bs w A c l) :
    Calls Try.prog 12 #[.slice A l.length c, .agg #[.int .i64 rva, .int .i64 size], .int .u64 base] w fun e w' =>
      ∃ v, e = .returned (.tuple #[.agg #[.bool (tlsF l rva base).1.1, .int .i64 (tlsF l rva base).1.2.1, v], .int .i64 (tlsF l rva base).2]) ∧
        w'.ownsRow w.heap.size 3 1 v (tlsF l rva base).1.2.2.length (ints (tlsF l rva base).1.2.2) ∧ Below w.heap.size w w' := by
  obtain ⟨r, hrr⟩ : ∃ r, r = tlsF l rva base := ⟨_, rfl⟩
  rw [← hrr]
  rw [tlsF] at hrr
  by_cases h0 : rva = 0
  · rw [if_pos h0] at hrr
    subst hrr h0
    go_enter Try.func12, Try.ntmps12
    go_wp2
    exact bodyPost_ret (v := .tuple #[.agg #[.bool false, .int .i64 0, .slice none 0 0], .int .i64 0]) (by simp [results, Try.results12, go_sem]) rfl
      ⟨_, rfl, World.ownsRow_nil _ _ _ _, ((Below.refl _ _).alloc (Nat.le_refl _) _).alloc (by simp) _⟩
  · rw [if_neg h0] at hrr
    have h0' : (rva == 0) = false := by rw [beq_eq_false_iff_ne]; exact h0
    have hbs := hr.mx
    cases hi : inB l.length rva 40 with
    | false =>
      rw [if_pos hi] at hrr
      subst hrr
      go_enter Try.func12, Try.ntmps12
      go_wp2_with fail
      refine (le_In _ _ _ _ (by omega) (by omega)).mono ?_
      rintro e w' ⟨rfl, rfl⟩
      rw [hi]
      go_wp2
      exact bodyPost_ret (v := .tuple #[.agg #[.bool false, .int .i64 0, .slice none 0 0], .int .i64 12]) (by simp [results, Try.results12, go_sem]) rfl
        ⟨_, rfl, World.ownsRow_nil _ _ _ _, ((Below.refl _ _).alloc (Nat.le_refl _) _).alloc (by simp) _⟩
    | true =>
      rw [if_neg (by rw [hi]; simp)] at hrr
      have hrb : 0 ≤ rva ∧ rva + 40 ≤ l.length := by simp only [inB, decide_eq_true_eq] at hi; omega
      obtain ⟨hrb0, hrb1⟩ := hrb
      have e1 : wrap64 (rva + 16) = rva + 16 := by unfold wrap64; omega
      have e2 : wrap64 (rva + 24) = rva + 24 := by unfold wrap64; omega
      rw [e1, e2] at hrr
      clear e1 e2
      have Hrr := hid hrr
      clear hrr
      go_enter Try.func12, Try.ntmps12
      go_wp2_with fail
      refine (le_In _ _ _ _ (by omega) (by omega)).mono ?_
      rintro e w' ⟨rfl, rfl⟩
      rw [hi]
      clear hi
      have hr1 : Bs ((w.alloc (.cells #[.int .i64 rva, .int .i64 size] 39)).alloc (.cells #[.bool false, .int .i64 0, .slice none 0 0] 32)) A c l :=
        hr.below (((Below.refl _ _).alloc (Nat.le_refl _) _).alloc (by simp) _)
      go_wp2_with fail
      refine (le_U64 A c l _ _ hr1).mono ?_
      rintro e w' ⟨rfl, rfl⟩
      go_wp2_with fail
      refine (le_U64 A c l _ _ hr1).mono ?_
      rintro e w' ⟨rfl, rfl⟩
      go_wp2_with fail
      refine (tls_place A c l _ _ _ _ hr1 (by omega) (by omega)).mono ?_
      rintro e w' ⟨rfl, rfl⟩
      have hrr := Hrr
      clear Hrr
      rcases hp : placeF l.length (sub64 (numAt l (rva + 16) 8) base) 4 with _ | p
      · have hrr : r = _ := hrr
        simp only [hp] at hrr
        subst hrr
        clear hp
        go_wp2
        exact bodyPost_ret (v := .tuple #[.agg #[.bool false, .int .i64 0, .slice none 0 0], .int .i64 12]) (by simp [results, Try.results12, go_sem]) rfl
          ⟨_, rfl, World.ownsRow_nil _ _ _ _, ((Below.refl _ _).alloc (Nat.le_refl _) _).alloc (by simp) _⟩
      · have hrr : r = _ := hrr
        simp only [hp] at hrr
        clear hp
        by_cases hz : numAt l (rva + 24) 8 = 0
        · rw [if_pos hz] at hrr
          subst hrr
          rw [hz]
          go_wp2
          exact bodyPost_ret (v := .tuple #[.agg #[.bool true, .int .i64 p, .slice none 0 0], .int .i64 0]) (by simp [results, Try.results12, go_sem]) rfl
            ⟨_, rfl, World.ownsRow_nil _ _ _ _, (((Below.refl _ _).alloc (Nat.le_refl _) _).alloc (by simp) _).alloc (by simp; omega) _⟩
        · rw [if_neg hz] at hrr
          have hz' : ((numAt l (rva + 24) 8 : Int) != 0) = true := by rw [bne_iff_ne]; omega
          have Hrr := hid hrr
          clear hrr
          go_wp2_with fail
          refine (tls_calls A c l _ _ _ (hr1.below ((Below.refl _ _).alloc (Nat.le_refl _) _))).mono ?_
          rintro e w1 ⟨v, rfl, hown, hb⟩
          obtain ⟨hc, hf⟩ := old_cells hb
          obtain ⟨Av, cv, rfl, hcv, hrow⟩ := own_row hown
          clear hrow
          have hrr : r = _ := Hrr
          clear Hrr
          rcases hq : tlsCallsF l base 9 (numAt l (rva + 24) 8) [] with _ | cs
          · rw [hq] at hown
            simp only [hq] at hrr
            subst hrr
            clear hq
            go_wp2
            have hb0 : Below w.heap.size w w1 := ((((Below.refl _ _).alloc (Nat.le_refl _) _).alloc (by simp) _).alloc (by simp; omega) _).trans (hb.mono (by simp; omega))
            have hz1 : w.heap.size + 2 < w1.heap.size := by have := hb.size; simp at this; omega
            refine bodyPost_ret (v := .tuple #[.agg #[.bool false, .int .i64 0, .slice none 0 0], .int .i64 12]) (by simp [results, Try.results12, go_sem, hc, hz1]) rfl
              ⟨_, rfl, World.ownsRow_nil _ _ _ _, (((hb0.setCell (by simp; omega) _).setCell (by simp) _).setCell (by simp) _).setCell (by simp) _⟩
          · rw [hq] at hown
            simp only [hq] at hrr
            subst hrr
            clear hq
            go_wp2
            have hb0 : Below w.heap.size w w1 := ((((Below.refl _ _).alloc (Nat.le_refl _) _).alloc (by simp) _).alloc (by simp; omega) _).trans (hb.mono (by simp; omega))
            have hz1 : w.heap.size + 2 < w1.heap.size := by have := hb.size; simp at this; omega
            refine bodyPost_ret (v := .tuple #[.agg #[.bool true, .int .i64 p, .slice Av cs.length cv], .int .i64 0]) (by simp [results, Try.results12, go_sem, hc, hz1]) rfl
              ⟨_, rfl, own_mono (own_set (own_set (own_set (own_set hown (by simp) _) (by simp <;> omega) _) (by simp <;> omega) _) (by simp <;> omega) _) (by simp; omega), (((hb0.setCell (by simp; omega) _).setCell (by simp) _).setCell (by simp) _).setCell (by simp) _⟩
end Go.Proofs.Ytnbhmcbhpkjgcaa
