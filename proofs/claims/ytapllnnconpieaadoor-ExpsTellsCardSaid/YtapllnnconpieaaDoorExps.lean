/- exps: a reader's four, row, function. -/
import Derived.Test.YtapllnnconpieaaDoorText
import Derived.Test.YtapllnnconpieaaDoorFold4
import Derived.Test.YtapllnnconpieaaDoorOnly
set_option linter.unusedVariables false
namespace Go.Proofs.YtapllnnconpieaaDoor
open Go.RowKit

/-- A reader. -/
def rdC (A : Option Addr) (n c : Nat) (dr ds : Int) (bad : Bool) : Array Value := #[.slice A n c, .int .i64 dr, .int .i64 ds, .bool bad]
/-- A function that is offered. -/
structure FuncD where
  rva : Int
  fwd : List UInt8
def FuncD.cells (f : FuncD) : Array Value := #[.int .i64 f.rva, .string (S f.fwd)]

def fnV (l : List UInt8) (dr ds rva : Int) : FuncD := if rva < dr ∨ ds ≤ rva - dr then ⟨rva, []⟩ else ⟨0, (textF l rva 64).getD []⟩
def fnBad (l : List UInt8) (dr ds rva : Int) : Bool := if rva < dr ∨ ds ≤ rva - dr then decide ((l.length : Int) ≤ rva) else !(textF l rva 64).isSome || !(splitF ((textF l rva 64).getD [])).isSome

set_option maxRecDepth 100000 in
set_option maxHeartbeats 1000000 in
theorem exps_four (w : World) (rp : Nat) (A : Option Addr) (c : Nat) (l : List UInt8) (dr ds : Int) (bad : Bool) (hb : Blk w rp #[.slice A l.length c, .int .i64 dr, .int .i64 ds, .bool bad] 84) (hr : Bs w A c l) (k : Int)
    (h0 : 0 ≤ dr) (h1 : dr ≤ 140737488355328) (hk0 : 0 ≤ k) (hk1 : k ≤ 100) :
    Calls Tryd.prog 37 #[.pointer (some ⟨rp, 0, none⟩), .int .i64 k] w fun e w' => e = .returned (.int .i64 (numAt l (dr + k) 4)) ∧ Below w.heap.size w w' := by
  obtain ⟨c0, c1, c2, c3, -⟩ := hb.four
  have HR := hid hr
  have hw : IntKind.i64.wrap (dr + k) = dr + k := IntWalk.i64_in _ (by omega)
  clear hb hr
  go_enter Tryd.func37, Tryd.ntmps37
  go_wp2_with fail
  go_quiet ((go_at_call 39; exact quiet_l (le_U32 A c l (dr + k) _ (HR.out.below (up_drewN (up_refl w) _)))))
  go_wp2_with fail
  go_ret
  exact ⟨rfl, up_drewN (up_refl w) _⟩

set_option maxRecDepth 100000 in
set_option maxHeartbeats 1000000 in
theorem exps_row (w : World) (rp : Nat) (A : Option Addr) (c : Nat) (n : Nat) (dr ds : Int) (bad : Bool) (hb : Blk w rp #[.slice A n c, .int .i64 dr, .int .i64 ds, .bool bad] 84) (hn : n ≤ 140737488355328) (at' k sz : Int)
    (hk0 : 0 ≤ k) (hk1 : k ≤ 1000) (h0 : 0 ≤ sz) (h1 : sz ≤ 8) :
    Calls Tryd.prog 38 #[.pointer (some ⟨rp, 0, none⟩), .int .i64 at', .int .i64 k, .int .i64 sz] w fun e w' => e = .returned (.bool (decide (k = 0) || inB n at' (k * sz))) ∧ w = w' := by
  obtain ⟨c0, c1, c2, c3, -⟩ := hb.four
  have hmul : 0 ≤ k * sz ∧ k * sz ≤ 8000 := by
    refine ⟨Int.mul_nonneg hk0 h0, ?_⟩
    have h2 : k * sz ≤ 1000 * sz := Int.mul_le_mul_of_nonneg_right hk1 h0
    omega
  obtain ⟨m, hm⟩ : ∃ m, k * sz = m := ⟨_, rfl⟩
  rw [hm] at hmul ⊢
  have hw : wrap64 (k * sz) = m := by rw [hm]; unfold wrap64; omega
  clear hb hm
  by_cases hk : k = 0
  · have hk' : (k == 0) = true := by simpa using hk
    rw [decide_eq_true hk, Bool.true_or]
    clear hk
    go_enter Tryd.func38, Tryd.ntmps38
    go_wp2_with fail
    go_ret
    exact ⟨rfl, rfl⟩
  · have hk' : (k == 0) = false := by simpa using hk
    rw [decide_eq_false hk, Bool.false_or]
    clear hk
    go_enter Tryd.func38, Tryd.ntmps38
    go_wp2_with fail
    refine (le_In _ _ _ _ (by omega) (by omega)).mono ?_
    rintro e w' ⟨rfl, rfl⟩
    go_wp2_with fail
    go_ret
    exact ⟨rfl, rfl⟩

theorem textF_len (l : List UInt8) (at' most : Int) : ((textF l at' most).getD []).length ≤ l.length := by
  unfold textF
  split
  · split
    · simp only [Option.getD_some, List.length_take, List.length_drop]
      omega
    · simp
  · simp
theorem textF_most (l : List UInt8) (at' most : Int) : ((textF l at' most).getD []).length ≤ most.toNat := by
  unfold textF
  split
  · split
    · simp only [Option.getD_some, List.length_take, List.length_drop]
      omega
    · simp
  · simp
theorem splitV_is (o : Option (List UInt8 × SymD)) : ∃ D N o1 b1 is, splitV o = .tuple #[.string (S D), .agg #[.string (S N), .int .i64 o1, .bool b1], .bool is] ∧ o.isSome = is := by
  cases o with
  | none => exact ⟨_, _, _, _, _, rfl, rfl⟩
  | some x => exact ⟨_, _, _, _, _, rfl, rfl⟩
theorem funcInfo : (Tryd.prog.info? 52).map (·.size) = some 2 := by kernel_rfl

set_option maxRecDepth 100000 in
set_option maxHeartbeats 4000000 in
theorem exps_function (w : World) (hl : LibOk w) (rp : Nat) (A : Option Addr) (c : Nat) (l : List UInt8) (dr ds : Int) (bad : Bool) (hb : Blk w rp #[.slice A l.length c, .int .i64 dr, .int .i64 ds, .bool bad] 84) (hr : Bs w A c l)
    (rva : Nat) (h0 : 0 ≤ dr) (h1 : dr ≤ 140737488355328) (h2 : rva < 4294967296) :
    Calls Tryd.prog 40 #[.pointer (some ⟨rp, 0, none⟩), .int .i64 rva] w fun e w' =>
      e = .returned (.agg (fnV l dr ds rva).cells) ∧ Blk w' rp #[.slice A l.length c, .int .i64 dr, .int .i64 ds, .bool (bad || fnBad l dr ds rva)] 84 ∧ Only w w' (· = rp) := by
  have hmx := hr.mx
  obtain ⟨w1, hw1⟩ : ∃ w1, w.alloc (.cells #[.int .i64 0, .string ⟨#[]⟩] 52) = w1 := ⟨_, rfl⟩
  have hx1 : Blk w1 w.heap.size #[.int .i64 0, .string ⟨#[]⟩] 52 := hw1 ▸ Blk.new _ _ _
  have hu1 : Below w.heap.size w w1 := hw1 ▸ up_alloc (up_refl _) _
  have hb1 := hb.below hu1
  have hrp := hb.lt
  obtain ⟨g, hg⟩ : ∃ g, w.heap.size = g := ⟨_, rfl⟩
  rw [hg] at hx1 hrp
  have hne : rp ≠ g := by omega
  have hne' : g ≠ rp := by omega
  have HG := hid hg
  have HR1 := hid (hr.below hu1)
  have HL1 := hid (hl.below hu1)
  have HB1 := hid hb1
  have HX1 := hid hx1
  have HU1 := hid hu1
  obtain ⟨c0, c1, c2, c3, f3⟩ := hb1.four
  obtain ⟨d0, d1, e0, e1⟩ := hx1.two
  have hws : IntKind.i64.wrap ((rva : Int) - dr) = (rva : Int) - dr := IntWalk.i64_in _ (by omega)
  clear hb hr hl hb1 hx1 hu1
  by_cases hin : (rva : Int) < dr ∨ ds ≤ (rva : Int) - dr
  · have hV : fnV l dr ds rva = ⟨rva, []⟩ := by unfold fnV; rw [if_pos hin]
    have hBd : fnBad l dr ds rva = decide (l.length ≤ rva) := by unfold fnBad; rw [if_pos hin]; simp
    rw [hV, hBd]
    have hSel : ((rva : Int) < dr ∧ decide ((rva : Int) < dr) = true) ∨ (¬ (rva : Int) < dr ∧ decide ((rva : Int) < dr) = false ∧ decide (ds ≤ (rva : Int) - dr) = true) := by
      by_cases h : (rva : Int) < dr
      · exact .inl ⟨h, decide_eq_true h⟩
      · exact .inr ⟨h, decide_eq_false h, decide_eq_true (hin.resolve_left h)⟩
    clear hin hV hBd
    rcases hSel with ⟨g1, g2⟩ | ⟨g1, g2, g3⟩
    all_goals
      cases bad
    all_goals
      go_enter Tryd.func40, Tryd.ntmps40
      go_wp2_with fail
      go_quiet (fail)
      go_wp2_with fail
      have HXb : Hid (Blk (w1.drewN nq) g #[.int .i64 0, .string ⟨#[]⟩] 52) := HX1
      have HBb : Hid (Blk (w1.drewN nq) rp _ 84) := HB1
      have hon := (Only.of_below (up_drewN HU1.out nq) (· = rp))
      exact bodyPost_ret (v := .agg (FuncD.cells ⟨rva, []⟩)) (results_c Tryd.results40 _ _ g 52 (FuncD.cells ⟨rva, []⟩) _ (by rfl) ((HXb.out.apart' ⟨rp, 3, none⟩ hne _).set2) Tryd.underlying52 (by rfl) funcInfo) rfl
        ⟨rfl, ((HBb.out.set' 3 _).apart' _ hne' _).apart' _ hne' _, ((hon.set (.inl rfl) _).set (.inr (by rw [HG.out]; exact Nat.le_refl _)) _).set (.inr (by rw [HG.out]; exact Nat.le_refl _)) _⟩
  · have hV : fnV l dr ds rva = ⟨0, (textF l rva 64).getD []⟩ := by unfold fnV; rw [if_neg hin]
    have hBd : fnBad l dr ds rva = (!(textF l rva 64).isSome || !(splitF ((textF l rva 64).getD [])).isSome) := by unfold fnBad; rw [if_neg hin]
    rw [hV, hBd]
    have g2 : decide ((rva : Int) < dr) = false := decide_eq_false (fun h => hin (.inl h))
    have g3 : decide (ds ≤ (rva : Int) - dr) = false := decide_eq_false (fun h => hin (.inr h))
    have HT := hid (fun w hr => le_Text A c l rva 64 w hr (by omega))
    have htl := textF_most l rva 64
    have HSP := hid (fun w hk => fold_Split ((textF l rva 64).getD []) w hk (by omega))
    unfold textV at HT
    obtain ⟨s, hs⟩ : ∃ s, (textF l rva 64).getD [] = s := ⟨_, rfl⟩
    obtain ⟨ok, hok⟩ : ∃ s, (textF l rva 64).isSome = s := ⟨_, rfl⟩
    rw [hs, hok] at HT ⊢
    rw [hs] at HSP
    obtain ⟨o, ho⟩ : ∃ o, splitF s = o := ⟨_, rfl⟩
    rw [ho] at HSP ⊢
    clear ho
    obtain ⟨D, N, o1, b1, is, hv, his⟩ := splitV_is o
    rw [hv] at HSP
    rw [his]
    clear hv his
    clear hin hV hBd hs hok htl
    go_enter Tryd.func40, Tryd.ntmps40
    go_wp2_with fail
    go_quiet (fail)
    go_wp2_with fail
    refine (HT.out (w1.drewN nq) (HR1.out.below (up_drewN (up_refl w1) nq))).mono ?_
    rintro e w' ⟨rfl, rfl⟩
    have HXb : Hid (Blk (w1.drewN nq) g #[.int .i64 0, .string ⟨#[]⟩] 52) := HX1
    have HBb : Hid (Blk (w1.drewN nq) rp _ 84) := HB1
    have HUb := hid (up_drewN HU1.out nq)
    have HLb : Hid (LibOk (w1.drewN nq)) := hid (HL1.out.below (up_drewN (up_refl w1) nq))
    clear c0 c1 c2 c3 f3 d0 d1 e0 e1 HX1 HB1 HU1 HL1 HR1 HT
    obtain ⟨w2, hw2⟩ : ∃ w2, w1.drewN nq = w2 := ⟨_, rfl⟩
    rw [hw2] at HXb HBb HUb HLb ⊢
    clear hw2 hw1 w1
    go_wp2_with fail
    refine (HSP.out _ HLb.out).mono ?_
    rintro e w3 ⟨rfl, b3⟩
    have HX3 := hid (HXb.out.below b3)
    have HB3 := hid (HBb.out.below b3)
    have HU3 := hid (up_trans HUb.out b3)
    have HL3 := hid (HLb.out.below b3)
    clear b3 HXb HBb HUb HLb HSP
    obtain ⟨g4, hg4⟩ : ∃ g, w3.heap.size = g := ⟨_, rfl⟩
    obtain ⟨x4, hx4⟩ : ∃ x, w3.alloc (.cells #[.string ⟨#[]⟩, .int .i64 0, .bool false] 24) = x := ⟨_, rfl⟩
    have hbl4 : Blk x4 w3.heap.size #[.string ⟨#[]⟩, .int .i64 0, .bool false] 24 := hx4 ▸ Blk.new _ _ _
    have hbu4 : Below w3.heap.size w3 x4 := hx4 ▸ up_alloc (up_refl _) _
    rw [hg4] at hbl4
    obtain ⟨c0, c1, c2, f0, f1, f2⟩ := hbl4.syms
    have V4 : Hid (Below w3.heap.size w3 (((x4.setCell ⟨g4, 0, none⟩ (.string (S N))).setCell ⟨g4, 1, none⟩ (.int .i64 o1)).setCell ⟨g4, 2, none⟩ (.bool b1))) := hid (((hbu4.setCell (p := ⟨g4, 0, none⟩) (by rw [hg4]; exact Nat.le_refl _) (.string (S N))).setCell (p := ⟨g4, 1, none⟩) (by rw [hg4]; exact Nat.le_refl _) (.int .i64 o1)).setCell (p := ⟨g4, 2, none⟩) (by rw [hg4]; exact Nat.le_refl _) (.bool b1))
    have X4 : Hid (Blk (((x4.setCell ⟨g4, 0, none⟩ (.string (S N))).setCell ⟨g4, 1, none⟩ (.int .i64 o1)).setCell ⟨g4, 2, none⟩ (.bool b1)) g4 #[(.string (S N)), (.int .i64 o1), (.bool b1)] 24) := hid hbl4.set3
    have L4 : Hid (LibOk (((x4.setCell ⟨g4, 0, none⟩ (.string (S N))).setCell ⟨g4, 1, none⟩ (.int .i64 o1)).setCell ⟨g4, 2, none⟩ (.bool b1))) := hid (HL3.out.below V4.out)
    have N4 : Hid (Below w.heap.size w (((x4.setCell ⟨g4, 0, none⟩ (.string (S N))).setCell ⟨g4, 1, none⟩ (.int .i64 o1)).setCell ⟨g4, 2, none⟩ (.bool b1))) := hid (up_trans HU3.out V4.out)
    clear hbl4 hbu4
    have hx4 := HX3.out.below V4.out
    have hb4 := HB3.out.below V4.out
    obtain ⟨d0, d1, e0, e1⟩ := hx4.two
    obtain ⟨b0, b1', b2, b3, f3⟩ := hb4.four
    have HX4 := hid hx4
    have HB4 := hid hb4
    have hg4g : g < w3.heap.size := HX3.out.lt
    have hg4r : rp < w3.heap.size := HB3.out.lt
    have n1 : g4 ≠ g := by omega
    have n2 : g4 ≠ rp := by omega
    have n3 : g ≠ g4 := by omega
    have n4 : rp ≠ g4 := by omega
    clear hx4 hb4 HX3 HB3 HU3 HL3
    cases bad
    all_goals cases ok
    all_goals
      go_wp2_with fail
      exact bodyPost_ret (v := .agg (FuncD.cells ⟨0, s⟩)) (results_c Tryd.results40 _ _ g 52 (FuncD.cells ⟨0, s⟩) _ (by rfl) ((HX4.out.apart' ⟨rp, 3, none⟩ hne _).set2) Tryd.underlying52 (by rfl) funcInfo) rfl
        ⟨rfl, ((HB4.out.set' 3 _).apart' _ hne' _).apart' _ hne' _, (((Only.of_below N4.out (· = rp)).set (.inl rfl) _).set (.inr (by rw [HG.out]; exact Nat.le_refl _)) _).set (.inr (by rw [HG.out]; exact Nat.le_refl _)) _⟩
end Go.Proofs.YtapllnnconpieaaDoor
