/- gates.Do: each gate. -/
import Derived.Test.YtnbhmcbhpkjgcaaCpu
set_option linter.unusedSimpArgs false
set_option linter.unusedVariables false
namespace Go.Proofs.Ytnbhmcbhpkjgcaa
open Go.RowKit

/-- The function that is handed in, as a value. -/
def tellV (sb : Nat) : Value := .func (.func 21) #[] #[.pointer (some ⟨sb, 0, none⟩)]

set_option maxRecDepth 100000 in
set_option maxHeartbeats 2000000 in
theorem do_nil (w : World) (c : Value) (s : Value) (t : Int) : Calls Try.prog 20 #[.int .i64 32, c, s, .int .i64 t, .nilFunc] w fun e w' => e = .returned (.bool true) ∧ w = w' := by
  have hqn : ∀ (w : World), (binOp .neq 55 .nilFunc .nilFunc).run Try.prog w = .ok (.bool false) w := fun _ => by rfl
  go_enter Try.func20, Try.ntmps20
  go_wp2
  go_ret
  exact ⟨rfl, rfl⟩

set_option maxRecDepth 100000 in
set_option maxHeartbeats 2000000 in
theorem do_say (w : World) (g : Nat) (a b : Value) (r0 r1 r2 : Int) (h : Blk w g (cpuL a b r0 r1 r2) 97) (s : Value) (t : Int) (sb : Nat) (hs : Blk w sb #[.slice none 0 0] 52) :
    Calls Try.prog 20 #[.int .i64 32, .pointer (some ⟨g, 0, none⟩), s, .int .i64 t, tellV sb] w fun e w' => e = .returned (.bool true) ∧ ∃ A c, Blk w' sb #[.slice (some A) 1 c] 52 ∧ A.block ≠ sb ∧ w'.cell? A = some (.int .u64 r1) ∧ Only w w' (· = sb) := by
  have H := hid h
  have HS := hid hs
  clear h hs
  unfold tellV
  have hqf : ∀ (w : World) (fn : Fn) (a b : Array Value), (binOp .neq 55 (.func fn a b) .nilFunc).run Try.prog w = .ok (.bool true) w := fun _ _ _ _ => by rfl
  go_enter Try.func20, Try.ntmps20
  go_wp2_with fail
  refine (cpu_Reg w g a b r0 r1 r2 H.out 1 (by omega)).mono ?_
  rintro e w' ⟨rfl, rfl⟩
  rw [show regI 1 r0 r1 r2 = r1 from rfl]
  go_wp2_with fail
  refine (law_tell w sb HS.out r1).mono ?_
  rintro e w' ⟨rfl, A, c, h1, h2, h3, h4⟩
  have R := hid (And.intro h1 (And.intro h2 (And.intro h3 h4)))
  clear h1 h2 h3 h4
  go_wp2_with fail
  go_ret
  exact ⟨rfl, A, c, R.out⟩

set_option maxRecDepth 100000 in
set_option maxHeartbeats 2000000 in
theorem do_none (w : World) (c s : Value) (t : Int) (f : Value) : Calls Try.prog 20 #[.int .i64 35, c, s, .int .i64 t, f] w fun e w' => e = .returned (.bool false) ∧ w = w' := by
  go_enter Try.func20, Try.ntmps20
  go_wp2
  go_ret
  exact ⟨rfl, rfl⟩

set_option maxRecDepth 100000 in
set_option maxHeartbeats 2000000 in
theorem do_get (w : World) (g : Nat) (a b : Value) (r0 r1 r2 : Int) (h : Blk w g (cpuL a b r0 r1 r2) 97) (h1 : 0 ≤ r1) (x : Int) (hx : idxI r1 = x) (fs : Nat → Prop) (sp : Nat) (N : Int → Nat → Int) (hs : SlotsAt w fs sp N) (t : Int) (f : Value) :
    Calls Try.prog 20 #[.int .i64 33, .pointer (some ⟨g, 0, none⟩), .pointer (some ⟨sp, 0, none⟩), .int .i64 t, f] w fun e w' => e = .returned (.bool true) ∧ Blk w' g (cpuL a b (getN N t x) r1 r2) 97 ∧ Only w w' (· = g) := by
  have H := hid h
  have HS := hid hs
  have H1 := hid h1
  clear h hs h1
  go_enter Try.func20, Try.ntmps20
  go_wp2_with fail
  refine (cpu_Reg w g a b r0 r1 r2 H.out 1 (by omega)).mono ?_
  rintro e w' ⟨rfl, rfl⟩
  rw [show regI 1 r0 r1 r2 = r1 from rfl]
  go_wp2_with fail
  refine (gates_index r1 w H1.out).mono ?_
  rintro e w' ⟨rfl, rfl⟩
  rw [hx]
  clear hx
  go_wp2_with fail
  refine (slots_Get w fs sp N HS.out t x).mono ?_
  rintro e w' ⟨rfl, rfl⟩
  obtain ⟨y, hy⟩ : ∃ y, getN N t x = y := ⟨_, rfl⟩
  rw [hy]
  have HY := hid hy
  clear hy
  go_wp2_with fail
  refine (cpu_Set w g a b r0 r1 r2 H.out 0 (by omega) y).mono ?_
  rintro e w' ⟨rfl, h1, h2⟩
  have R := hid (And.intro h1 h2)
  clear h1 h2
  go_wp2_with fail
  go_ret
  exact ⟨rfl, by rw [HY.out]; simpa [setI] using R.out⟩

def updM (m : Bool) (N : Int → Nat → Int) (t x v : Int) : Int → Nat → Int := if m then updN N t x v else N
def bitI (m : Bool) : Int := if m then 1 else 0

set_option maxRecDepth 100000 in
set_option maxHeartbeats 4000000 in
theorem do_set (w : World) (g : Nat) (a b : Value) (r0 r1 r2 : Int) (h : Blk w g (cpuL a b r0 r1 r2) 97) (h1 : 0 ≤ r1) (x : Int) (hx : idxI r1 = x) (fs : Nat → Prop) (sp : Nat) (N : Int → Nat → Int) (hs : SlotsAt w fs sp N) (hg : ¬ fs g) (t : Int) (f : Value) :
    Calls Try.prog 20 #[.int .i64 34, .pointer (some ⟨g, 0, none⟩), .pointer (some ⟨sp, 0, none⟩), .int .i64 t, f] w fun e w' => e = .returned (.bool true) ∧ ∃ fs' w1, SlotsNext w w1 fs sp (updM (mayB t x) N t x r2) fs' ∧ Blk w' g (cpuL a b (bitI (mayB t x)) r1 r2) 97 ∧ Only w1 w' (· = g) := by
  have H := hid h
  have HS := hid hs
  have H1 := hid h1
  have HG := hid hg
  clear h hs h1 hg
  go_enter Try.func20, Try.ntmps20
  go_wp2_with fail
  refine (cpu_Reg w g a b r0 r1 r2 H.out 1 (by omega)).mono ?_
  rintro e w' ⟨rfl, rfl⟩
  rw [show regI 1 r0 r1 r2 = r1 from rfl]
  go_wp2_with fail
  refine (gates_index r1 w H1.out).mono ?_
  rintro e w' ⟨rfl, rfl⟩
  rw [hx]
  go_wp2_with fail
  refine (cpu_Reg w g a b r0 r1 r2 H.out 2 (by omega)).mono ?_
  rintro e w' ⟨rfl, rfl⟩
  rw [show regI 2 r0 r1 r2 = r2 from rfl]
  clear hx
  go_wp2_with fail
  refine (slots_Set w fs sp N HS.out t x r2).mono ?_
  rintro e w1 ⟨rfl, fs', hn⟩
  have HB := hid (H.out.only hn.only HG.out)
  have HN : Hid (SlotsNext w w1 fs sp (updM (mayB t x) N t x r2) fs') := hid hn
  clear hn
  obtain ⟨m, hm⟩ : ∃ m, mayB t x = m := ⟨_, rfl⟩
  rw [hm]
  have HM := hid hm
  clear hm
  cases m
  all_goals
    go_wp2_with fail
    refine (cpu_Set w1 g a b r0 r1 r2 HB.out 0 (by omega) _).mono ?_
    rintro e w' ⟨rfl, h1, h2⟩
    have R := hid (And.intro h1 h2)
    clear h1 h2
    go_wp2_with fail
    go_ret
    exact ⟨rfl, fs', w1, HN.out, by rw [HM.out]; simpa [setI, bitI] using R.out⟩
end Go.Proofs.Ytnbhmcbhpkjgcaa
