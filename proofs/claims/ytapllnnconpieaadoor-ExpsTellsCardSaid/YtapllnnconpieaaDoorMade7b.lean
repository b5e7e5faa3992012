/- slipwaylaw7.Made, awake. -/
import Derived.Test.YtapllnnconpieaaDoorMade7
import Derived.Test.YtapllnnconpieaaDoorExpsG
import Derived.Test.YtapllnnconpieaaDoorExpsP
set_option linter.unusedVariables false
namespace Go.Proofs.YtapllnnconpieaaDoor
open Go.RowKit

theorem zeroInt (w : World) : True := trivial
set_option maxRecDepth 100000 in
set_option maxHeartbeats 4000000 in
theorem law7_Made (w : World) (base : Nat) (FA NA : Option Addr) (fc nc : Nat) (funcs names : List (List UInt8)) (hF : Row w FA (strs funcs)) (hN : Row w NA (strs names)) (hbs : base < 4611686018427387904)
    (f47 : funcs.length ≤ 140737488355328) (n47 : names.length ≤ 140737488355328) (hfc : funcs.length ≤ fc) (hnc : names.length ≤ nc) (hfl : ∀ s ∈ funcs.take 12, s.length ≤ 100) (hnl : ∀ s ∈ names.take 12, s.length ≤ 100) :
    Calls Tryd.prog 19 #[.slice FA funcs.length fc, .slice NA names.length nc, .int .i64 base] w fun e w' =>
      ∃ v, e = .returned (.tuple #[v, .agg #[.int .i64 256, .int .i64 (((atB 256 funcs names base).length : Int) - 256)]]) ∧ OwnB w' w.heap.size v (atF 256 funcs names base) ∧ Below w.heap.size w w' := by
  have U0 := hid (up_refl w)
  obtain ⟨g1, hg1⟩ : ∃ g, w.heap.size = g := ⟨_, rfl⟩
  obtain ⟨x1, hx1⟩ : ∃ zz, w.alloc (.cells #[(.int .i64 0), (.int .i64 0)] 41) = zz := ⟨_, rfl⟩
  have b1 : Blk x1 w.heap.size #[(.int .i64 0), (.int .i64 0)] 41 := hx1 ▸ Blk.new _ _ _
  have V1 : Hid (Below w.heap.size w x1) := hid (hx1 ▸ up_alloc (up_refl _) _)
  have N1 : Hid (Below w.heap.size w x1) := hid (up_trans U0.out V1.out)
  have G1 : Hid (w.heap.size ≤ g1) := hid (by rw [← hg1]; exact U0.out.size)
  rw [hg1] at b1
  have l1 : g1 < x1.heap.size := b1.lt
  have c1_0 : x1.cell? ⟨g1, 0, none⟩ = some (.int .i64 0) := b1.cell 0
  have f1_0 : x1.frozen? ⟨g1, 0, none⟩ = false := b1.free 0
  have c1_1 : x1.cell? ⟨g1, 1, none⟩ = some (.int .i64 0) := b1.cell 1
  have f1_1 : x1.frozen? ⟨g1, 1, none⟩ = false := b1.free 1
  have B1 := hid b1
  clear b1
  have HA := hid (law7_At x1 256 base FA NA fc nc funcs names (hF.below V1.out) (hN.below V1.out) (by omega) hbs f47 n47 hfc hnc hfl hnl)
  have HG1 : Hid (w.heap.size = g1) := hg1
  obtain ⟨R, hR⟩ : ∃ r, atF 256 funcs names base = r := ⟨_, rfl⟩
  obtain ⟨L, hL⟩ : ∃ r, ((atB 256 funcs names base).length : Int) - 256 = r := ⟨_, rfl⟩
  rw [hR] at HA ⊢
  rw [hL]
  have HA2 : Hid (Calls Tryd.prog 35 #[.int .i64 256, .slice FA funcs.length fc, .slice NA names.length nc, .int .i64 base] x1 fun e w' => ∃ v, e = .returned (.tuple #[v, .agg #[.int .i64 256, .int .i64 L]]) ∧ OwnB w' x1.heap.size v R ∧ Below x1.heap.size x1 w') := hid (by rw [← hL]; exact HA.out)
  clear hR hL HA hF hN hfl hnl
  go_enter Tryd.func19, Tryd.ntmps19
  go_wp2_with fail
  refine HA2.out.mono ?_
  rintro e w3 ⟨v, rfl, o3, b3⟩
  have U3 := hid (up_trans N1.out b3)
  have Bf := hid (B1.out.below b3)
  have b4 := Bf.out
  have c4_0 : w3.cell? ⟨g1, 0, none⟩ = some (.int .i64 0) := b4.cell 0
  have f4_0 : w3.frozen? ⟨g1, 0, none⟩ = false := b4.free 0
  have c4_1 : w3.cell? ⟨g1, 1, none⟩ = some (.int .i64 0) := b4.cell 1
  have f4_1 : w3.frozen? ⟨g1, 1, none⟩ = false := b4.free 1
  clear b4
  have O3 := hid o3
  clear b3 o3
  go_wp2_with fail
  refine bodyPost_ret (v := .tuple #[v, .agg #[.int .i64 256, .int .i64 L]]) (results_tc Tryd.results19 _ _ g1 41 #[.int .i64 256, .int .i64 L] _ (by rfl) Bf.out.set2 Tryd.underlying41 (by rfl) dirInfo) rfl ⟨_, rfl, ?_, ?_⟩
  · have h := ((O3.out.apart (p := ⟨g1, 0, none⟩) l1 (.int .i64 256)).apart (p := ⟨g1, 1, none⟩) l1 (.int .i64 L)).mono N1.out.size
    first | exact h | (rw [hg1] at h; exact h)
  · have h := (U3.out.setCell (p := ⟨g1, 0, none⟩) G1.out (.int .i64 256)).setCell (p := ⟨g1, 1, none⟩) G1.out (.int .i64 L)
    first | exact h | (rw [hg1] at h; exact h)

deriving instance DecidableEq for FuncD
deriving instance DecidableEq for NamedD
deriving instance DecidableEq for ExpsD
theorem made_parse : parseX (atF 256 [[102], [], [120, 46, 103]] [[97]] 5) 256 (((atB 256 [[102], [], [120, 46, 103]] [[97]] 5).length : Int) - 256) = some ⟨5, [⟨64, []⟩, ⟨0, []⟩, ⟨0, [120, 46, 103]⟩], [⟨[97], 0⟩]⟩ := by decide +kernel
theorem made_len : ((atB 256 [[102], [], [120, 46, 103]] [[97]] 5).length : Int) - 256 = 62 := by decide +kernel
end Go.Proofs.YtapllnnconpieaaDoor
