/- fold: Split and Text, walked. -/
import Derived.Test.YtapllnnconpieaaDoorFold3
import Derived.Test.YtapllnnconpieaaDoorBlk
import Derived.Test.YtapllnnconpieaaDoorUp
set_option linter.unusedVariables false
namespace Go.Proofs.YtapllnnconpieaaDoor
open Go.RowKit

set_option maxRecDepth 100000 in
set_option maxHeartbeats 4000000 in
theorem fold_Text (d : List UInt8) (s : SymD) (w : World) (hl : LibOk w) (hd : d.length ≤ 140737488351232) (hn : s.name.length ≤ 140737488351232) (h0 : -9223372036854775808 ≤ s.ord) (h1 : s.ord ≤ 9223372036854775807)
    (hi : (Lib.itoa s.ord).length ≤ 100) :
    Calls Tryd.prog 18 #[.string (S d), .agg s.cells] w fun e w' => e = .returned (.string (S (if s.byOrd then d ++ [46, 35] ++ Lib.itoa s.ord else d ++ [46] ++ s.name))) ∧ Below w.heap.size w w' := by
  obtain ⟨name, ord, b⟩ := s
  simp only [SymD.cells] at *
  have hsd := S_size d
  have hsn := S_size name
  cases b with
  | true =>
    obtain ⟨m, hm⟩ : ∃ m, Lib.itoa ord = m := ⟨_, rfl⟩
    have hI := fun w hl => itoa_S ord h0 h1 w hl
    rw [hm] at hI hi
    rw [hm]
    have hsm := S_size m
    have HI := hid hI
    have HL := hid hl
    have e1 : S d ++ ⟨#[46, 35]⟩ = S (d ++ [46, 35]) := S_append d [46, 35]
    have e2 : S (d ++ [46, 35]) ++ S m = S (d ++ [46, 35] ++ m) := S_append _ _
    have s1 : (S (d ++ [46, 35])).size = d.length + 2 := by rw [S_size]; simp
    clear hI hm hl h0 h1
    go_enter Tryd.func18, Tryd.ntmps18
    go_wp2_with fail
    refine (HI.out _ (HL.out.below (up_alloc (up_refl _) _))).mono ?_
    rintro e w1 ⟨rfl, b1⟩
    have U1 := hid (up_trans (up_alloc (up_refl w) _) b1)
    clear b1
    go_wp2_with fail
    go_ret
    exact ⟨by simp, U1.out⟩
  | false =>
    have e1 : S d ++ ⟨#[46]⟩ = S (d ++ [46]) := S_append d [46]
    have e2 : S (d ++ [46]) ++ S name = S (d ++ [46] ++ name) := S_append _ _
    have s1 : (S (d ++ [46])).size = d.length + 1 := by rw [S_size]; simp
    clear hi h0 h1 hl
    go_enter Tryd.func18, Tryd.ntmps18
    go_wp2_with fail
    go_ret
    exact ⟨by simp, up_alloc (up_refl _) _⟩

theorem Blk.syms {w : World} {g : Nat} {x y z : Value} {t : TypeId} (h : Blk w g #[x, y, z] t) : w.cell? ⟨g, 0, none⟩ = some x ∧ w.cell? ⟨g, 1, none⟩ = some y ∧ w.cell? ⟨g, 2, none⟩ = some z ∧
    w.frozen? ⟨g, 0, none⟩ = false ∧ w.frozen? ⟨g, 1, none⟩ = false ∧ w.frozen? ⟨g, 2, none⟩ = false :=
  ⟨h.cell 0, h.cell 1, h.cell 2, h.free 0, h.free 1, h.free 2⟩
theorem Blk.set3 {w : World} {g : Nat} {x y z a b c : Value} {t : TypeId} (h : Blk w g #[x, y, z] t) : Blk (((w.setCell ⟨g, 0, none⟩ a).setCell ⟨g, 1, none⟩ b).setCell ⟨g, 2, none⟩ c) g #[a, b, c] t := by
  unfold Blk at *
  simp [World.setCell, Array.getElem?_modify, h]

def symZ : Array Value := #[.string ⟨#[]⟩, .int .i64 0, .bool false]

set_option maxRecDepth 100000 in
set_option maxHeartbeats 4000000 in
theorem fold_Split (l : List UInt8) (w : World) (hk : LibOk w) (hm : l.length ≤ 140737488351232) :
    Calls Tryd.prog 11 #[.string (S l)] w fun e w' => e = .returned (splitV (splitF l)) ∧ Below w.heap.size w w' := by
  have hsz := S_size l
  have hLI := fun w => lastIndex_S l (by omega) w
  obtain ⟨R, hR⟩ : ∃ R, splitF l = R := ⟨_, rfl⟩
  rw [hR]
  have hsp := lastPt_spec l
  unfold splitF at hR
  obtain ⟨w1, hw1⟩ : ∃ w1, w.alloc (.cells #[.string ⟨#[]⟩, .int .i64 0, .bool false] 24) = w1 := ⟨_, rfl⟩
  have hx1 : Blk w1 w.heap.size #[.string ⟨#[]⟩, .int .i64 0, .bool false] 24 := hw1 ▸ Blk.new _ _ _
  have hu1 : Below w.heap.size w w1 := hw1 ▸ up_alloc (up_refl _) _
  have HK1 := hid (hk.below hu1)
  have HX1 := hid hx1
  have HU1 := hid hu1
  obtain ⟨c0, c1, c2, f0, f1, f2⟩ := hx1.syms
  obtain ⟨g, hg⟩ : ∃ g, w.heap.size = g := ⟨_, rfl⟩
  have HG := hid hg
  have HGE := hid (Nat.le_of_eq hg)
  rw [hg] at c0 c1 c2 f0 f1 f2 HX1
  clear hx1 hu1 hk
  cases hp : lastPt l with
  | none =>
    rw [hp] at hR hLI hsp
    simp only at hR hLI hsp
    subst hR
    have HLI := hid hLI
    clear hLI hp hsp
    go_enter Tryd.func11, Tryd.ntmps11
    go_wp2_with fail
    refine (HLI.out _).mono ?_
    rintro e w2 ⟨rfl, rfl⟩
    go_wp2_with fail
    exact bodyPost_ret (v := splitV none) (results_tct Tryd.results11 _ _ g 24 symN.cells _ (by rfl) HX1.out.set3 Tryd.underlying24 (by rfl) symInfo) rfl ⟨rfl, (((HU1.out.setCell HGE.out _).setCell HGE.out _).setCell HGE.out _)⟩
  | some k =>
    rw [hp] at hR hLI hsp
    simp only at hR hLI hsp
    obtain ⟨hk1, hk2, hk3⟩ := hsp
    have e1 := S_ext0 l k
    have e2 := S_extn l (k + 1)
    have HLI := hid hLI
    obtain ⟨d, hdd⟩ : ∃ d, l.take k = d := ⟨_, rfl⟩
    obtain ⟨m, hmm⟩ : ∃ m, l.drop (k + 1) = m := ⟨_, rfl⟩
    have hm2 : l.drop (k + 2) = m.drop 1 := by rw [← hmm, List.drop_drop]
    have hml : m.length = l.length - (k + 1) := by rw [← hmm, List.length_drop]
    have hdl : d.length ≤ l.length := by rw [← hdd, List.length_take]; omega
    rw [hm2] at hR
    rw [hmm] at hR e2
    rw [hsz] at e2
    rw [hdd] at hR e1
    have HML := hid hml
    have HDL := hid hdl
    clear hLI hp hk2 hk3 hdd hmm hm2 hml hdl
    go_enter Tryd.func11, Tryd.ntmps11
    go_wp2_with fail
    refine (HLI.out _).mono ?_
    rintro e w2 ⟨rfl, rfl⟩
    go_wp2_with fail
    refine (fold_Ok d _ (by have := HDL.out; omega)).mono ?_
    rintro e w2 ⟨rfl, rfl⟩
    cases hok : okF d with
    | false =>
      rw [hok] at hR
      simp only [Bool.false_eq_true, if_false] at hR
      subst hR
      go_wp2_with fail
      exact bodyPost_ret (v := splitV none) (results_tct Tryd.results11 _ _ g 24 symN.cells _ (by rfl) HX1.out.set3 Tryd.underlying24 (by rfl) symInfo) rfl ⟨rfl, (((HU1.out.setCell HGE.out _).setCell HGE.out _).setCell HGE.out _)⟩
    | true =>
      rw [hok] at hR
      simp only [if_true] at hR
      have HR := hid hR
      clear hR
      go_wp2_with fail
      go_quiet (fail)
      go_wp2_with fail
      refine (cutPrefix_S m _).mono ?_
      rintro e w2 ⟨rfl, rfl⟩
      have HX2 : Hid (Blk (w1.drewN nq) g #[.string ⟨#[]⟩, .int .i64 0, .bool false] 24) := HX1
      have HU2 := hid (up_drewN HU1.out nq)
      have HK2 := hid (HK1.out.below (up_drewN (up_refl w1) nq))
      clear c0 c1 c2 f0 f1 f2 HX1 HU1 HK1
      obtain ⟨w2, hw2⟩ : ∃ w2, w1.drewN nq = w2 := ⟨_, rfl⟩
      rw [hw2] at HX2 HU2 HK2 ⊢
      clear hw2
      by_cases h35 : m.head? = some 35
      · have hr := HR.out
        rw [if_pos h35] at hr
        rw [if_pos h35, decide_eq_true h35]
        have hml : (m.drop 1).length ≤ 140737488355328 := by
          rw [List.length_drop]
          have := HML.out
          omega
        obtain ⟨q, hq⟩ : ∃ q, m.drop 1 = q := ⟨_, rfl⟩
        rw [hq] at hr hml
        rw [hq]
        have HR := hid hr
        clear hr hq h35
        go_wp2_with fail
        cases ha : atoiN q with
        | none =>
          have hr := HR.out
          rw [ha] at hr
          simp only at hr
          subst hr
          refine (atoiErr_S q hml ha _ HK2.out).mono ?_
          rintro e w3 ⟨⟨x, t, p, rfl⟩, b3⟩
          have X3 := HX2.out.below b3
          have HX3 := hid X3
          have HU3 := hid (up_trans HU2.out b3)
          obtain ⟨c0, c1, c2, f0, f1, f2⟩ := X3.syms
          clear b3 X3 HR
          go_wp2_with fail
          exact bodyPost_ret (v := splitV none) (results_tct Tryd.results11 _ _ g 24 symN.cells _ (by rfl) HX3.out.set3 Tryd.underlying24 (by rfl) symInfo) rfl ⟨rfl, (((HU3.out.setCell HGE.out _).setCell HGE.out _).setCell HGE.out _)⟩
        | some n =>
          have hr := HR.out
          rw [ha] at hr
          simp only at hr
          have hb := atoiN_bound ha
          have HR := hid hr
          have hA := atoi_S q n hml ha w2
          have HA := hid hA
          clear hr ha hA
          refine HA.out.mono ?_
          rintro e w3 ⟨rfl, b3⟩
          have HX3 := hid (HX2.out.below b3)
          have HU3 := hid (up_trans HU2.out b3)
          have HK3 := hid (HK2.out.below b3)
          clear b3
          go_wp2_with fail
          refine (itoa_S n (by omega) (by omega) _ HK3.out).mono ?_
          rintro e w4 ⟨rfl, b4⟩
          have X4 := HX3.out.below b4
          have HX4 := hid X4
          have HU4 := hid (up_trans HU3.out b4)
          obtain ⟨c0, c1, c2, f0, f1, f2⟩ := X4.syms
          clear b4 X4 HX3 HX2 HK3 HK2
          have hS := S_toList q
          have hS2 := S_toList (Lib.itoa n)
          obtain ⟨it, hit⟩ : ∃ it, Lib.itoa n = it := ⟨_, rfl⟩
          rw [hit] at HR hS2
          rw [hit]
          by_cases hiq : it = q
          · have hbe : ((S it).toList == (S q).toList) = true := by rw [hS, hS2, hiq]; simp
            by_cases h0 : 0 ≤ n
            · by_cases h1 : n ≤ 65535
              · have hr := HR.out
                rw [if_pos ⟨hiq, h0, h1⟩] at hr
                subst hr
                clear hS hS2 HR hit hiq
                go_wp2_with fail
                exact bodyPost_ret (v := splitV (some (d, ⟨[], n, true⟩))) (results_tct Tryd.results11 _ _ g 24 (SymD.cells ⟨[], n, true⟩) _ (by rfl) HX4.out.set3 Tryd.underlying24 (by rfl) symInfo) rfl ⟨rfl, (((HU4.out.setCell HGE.out _).setCell HGE.out _).setCell HGE.out _)⟩
              · have hr := HR.out
                rw [if_neg (fun h => h1 h.2.2)] at hr
                subst hr
                clear hS hS2 HR hit hiq
                go_wp2_with fail
                exact bodyPost_ret (v := splitV none) (results_tct Tryd.results11 _ _ g 24 symN.cells _ (by rfl) HX4.out.set3 Tryd.underlying24 (by rfl) symInfo) rfl ⟨rfl, (((HU4.out.setCell HGE.out _).setCell HGE.out _).setCell HGE.out _)⟩
            · have hr := HR.out
              rw [if_neg (fun h => h0 h.2.1)] at hr
              subst hr
              clear hS hS2 HR hit hiq
              go_wp2_with fail
              exact bodyPost_ret (v := splitV none) (results_tct Tryd.results11 _ _ g 24 symN.cells _ (by rfl) HX4.out.set3 Tryd.underlying24 (by rfl) symInfo) rfl ⟨rfl, (((HU4.out.setCell HGE.out _).setCell HGE.out _).setCell HGE.out _)⟩
          · have hbe : ((S it).toList == (S q).toList) = false := by rw [hS, hS2]; simpa using hiq
            have hr := HR.out
            rw [if_neg (fun h => hiq h.1)] at hr
            subst hr
            clear hS hS2 HR hit hiq
            go_wp2_with fail
            exact bodyPost_ret (v := splitV none) (results_tct Tryd.results11 _ _ g 24 symN.cells _ (by rfl) HX4.out.set3 Tryd.underlying24 (by rfl) symInfo) rfl ⟨rfl, (((HU4.out.setCell HGE.out _).setCell HGE.out _).setCell HGE.out _)⟩
      · have hr := HR.out
        rw [if_neg h35] at hr
        rw [if_neg h35, decide_eq_false h35]
        obtain ⟨c0, c1, c2, f0, f1, f2⟩ := HX2.out.syms
        clear h35 HR
        go_wp2_with fail
        refine (fold_SymOk m _ (by have := HML.out; omega)).mono ?_
        rintro e w3 ⟨rfl, rfl⟩
        cases hso : symOkF m with
        | true =>
          rw [hso] at hr
          simp only [if_true] at hr
          subst hr
          clear hso
          go_wp2_with fail
          exact bodyPost_ret (v := splitV (some (d, ⟨m, 0, false⟩))) (results_tct Tryd.results11 _ _ g 24 (SymD.cells ⟨m, 0, false⟩) _ (by rfl) HX2.out.set3 Tryd.underlying24 (by rfl) symInfo) rfl ⟨rfl, (((HU2.out.setCell HGE.out _).setCell HGE.out _).setCell HGE.out _)⟩
        | false =>
          rw [hso] at hr
          simp only [Bool.false_eq_true, if_false] at hr
          subst hr
          clear hso
          go_wp2_with fail
          exact bodyPost_ret (v := splitV none) (results_tct Tryd.results11 _ _ g 24 symN.cells _ (by rfl) HX2.out.set3 Tryd.underlying24 (by rfl) symInfo) rfl ⟨rfl, (((HU2.out.setCell HGE.out _).setCell HGE.out _).setCell HGE.out _)⟩
end Go.Proofs.YtapllnnconpieaaDoor
