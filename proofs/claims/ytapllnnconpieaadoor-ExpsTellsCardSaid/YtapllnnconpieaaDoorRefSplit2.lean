/- The document's words on names (slipwayref1): Split. -/
import Derived.Test.YtapllnnconpieaaDoorRefSplit
set_option linter.unusedVariables false
namespace Go.Proofs.YtapllnnconpieaaDoor
open Go.RowKit
open Go.Lib (decDigits digitVal decFrom atoi itoa)

/-- A way's parts, as a Way. -/
def wayC : Option (List UInt8 × SymD) → Array Value
  | some (d, s) => #[.string (S d), .string (S s.name), .int .i64 s.ord, .bool s.byOrd]
  | none => #[.string (S []), .string (S []), .int .i64 0, .bool false]
def wayV (o : Option (List UInt8 × SymD)) : Value := .tuple #[.agg (wayC o), .bool o.isSome]
theorem numBV_none : numBV none = .tuple #[.int .i64 0, .bool false] := rfl
theorem numBV_some (v : Nat) : numBV (some v) = .tuple #[.int .i64 (v : Int), .bool true] := rfl
theorem wayInfo : (Tryd.prog.info? 96).map (·.size) = some 4 := by kernel_rfl
theorem Blk.set4 {w : World} {g : Nat} {x y z u a b c d : Value} {t : TypeId} (h : Blk w g #[x, y, z, u] t) : Blk ((((w.setCell ⟨g, 0, none⟩ a).setCell ⟨g, 1, none⟩ b).setCell ⟨g, 2, none⟩ c).setCell ⟨g, 3, none⟩ d) g #[a, b, c, d] t := by
  unfold Blk at *
  simp [World.setCell, Array.getElem?_modify, h]
theorem Blk.ways {w : World} {g : Nat} {x y z u : Value} {t : TypeId} (h : Blk w g #[x, y, z, u] t) : w.cell? ⟨g, 0, none⟩ = some x ∧ w.cell? ⟨g, 1, none⟩ = some y ∧ w.cell? ⟨g, 2, none⟩ = some z ∧ w.cell? ⟨g, 3, none⟩ = some u ∧
    w.frozen? ⟨g, 0, none⟩ = false ∧ w.frozen? ⟨g, 1, none⟩ = false ∧ w.frozen? ⟨g, 2, none⟩ = false ∧ w.frozen? ⟨g, 3, none⟩ = false :=
  ⟨h.cell 0, h.cell 1, h.cell 2, h.cell 3, h.free 0, h.free 1, h.free 2, h.free 3⟩

set_option maxRecDepth 100000 in
set_option maxHeartbeats 8000000 in
theorem ref_Split (l : List UInt8) (w : World) (hm : l.length ≤ 140737488351232) :
    Calls Tryd.prog 46 #[.string (S l)] w fun e w' => e = .returned (wayV (splitF l)) ∧ Below w.heap.size w w' := by
  have hs := S_size l
  have hsp := lastPt_spec l
  obtain ⟨R, hR⟩ : ∃ R, splitF l = R := ⟨_, rfl⟩
  rw [hR]
  unfold splitF at hR
  obtain ⟨w1, hw1⟩ : ∃ w1, w.alloc (.cells #[.string ⟨#[]⟩, .string ⟨#[]⟩, .int .i64 0, .bool false] 96) = w1 := ⟨_, rfl⟩
  have hx1 : Blk w1 w.heap.size #[.string ⟨#[]⟩, .string ⟨#[]⟩, .int .i64 0, .bool false] 96 := hw1 ▸ Blk.new _ _ _
  have hu1 : Below w.heap.size w w1 := hw1 ▸ up_alloc (up_refl _) _
  have HX1 := hid hx1
  have HU1 := hid hu1
  obtain ⟨c0, c1, c2, c3, f0, f1, f2, f3⟩ := hx1.ways
  obtain ⟨g, hg⟩ : ∃ g, w.heap.size = g := ⟨_, rfl⟩
  have HG := hid hg
  have HGE := hid (Nat.le_of_eq hg)
  rw [hg] at c0 c1 c2 c3 f0 f1 f2 f3 HX1
  clear hx1 hu1
  have hR0 : R.isSome = true → R = R := fun _ => rfl
  clear hR0
  cases hp : lastPt l with
  | none =>
    rw [hp] at hR hsp
    simp only at hR hsp
    subst hR
    have hnp : ∀ j (h : j < l.length), ((l[j].toNat : Int) == 46) = false := fun j h => by
      have h2 := hsp j
      rw [List.getElem?_eq_getElem h] at h2
      simp only [beq_eq_false_iff_ne, ne_eq]
      intro e
      exact h2 (by congr 1; exact UInt8.toNat_inj.1 (by show l[j].toNat = 46; omega))
    have HNP := hid hnp
    clear hsp hnp hp
    go_enter Tryd.func46, Tryd.ntmps46
    go_wp2_with fail
    go_loopg [4] l.length (fun g k wr => g ≤ l.length ∧ k = .int .i64 ((g : Int) - 1) ∧ w1 = wr)
    case atStart => exact ⟨Nat.le_refl _, rfl, rfl⟩
    case round =>
      obtain ⟨hg, rfl, rfl⟩ := hrel
      rcases gk with _ | j
      · have e0 : (((0 : Nat) : Int) - 1) = -1 := rfl
        rw [e0]
        go_wp2_with fail
        exact bodyPost_ret (v := wayV none) (results_ct' Tryd.results46 _ _ g 96 (wayC none) _ (by rfl) HX1.out.set4 Tryd.underlying96 (by rfl) wayInfo) rfl ⟨rfl, ((((HU1.out.setCell HGE.out _).setCell HGE.out _).setCell HGE.out _).setCell HGE.out _)⟩
      · have e0 : (((j + 1 : Nat) : Int) - 1) = (j : Int) := by omega
        have hlt : j < l.length := by omega
        have hx := HNP.out j hlt
        have hxj : (S l)[j]'(by rw [hs]; omega) = l[j] := rfl
        rw [e0]
        clear e0
        go_wp2_with fail
        go_roundg j
        case measure => omega
        case rel => exact ⟨by omega, rfl, rfl⟩
  | some p =>
    rw [hp] at hR hsp
    simp only at hR hsp
    obtain ⟨hp1, hp2, hp3⟩ := hsp
    have hnp : ∀ j (h : j < l.length), p < j → ((l[j].toNat : Int) == 46) = false := fun j h hj => by
      have h2 := hp3 j hj
      rw [List.getElem?_eq_getElem h] at h2
      simp only [beq_eq_false_iff_ne, ne_eq]
      intro e
      exact h2 (by congr 1; exact UInt8.toNat_inj.1 (by show l[j].toNat = 46; omega))
    have hat : ((l[p].toNat : Int) == 46) = true := by
      rw [List.getElem?_eq_getElem hp1] at hp2
      rw [Option.some.inj hp2]
      decide
    have e1 := S_ext0 l p
    have e2 := S_extn l (p + 1)
    obtain ⟨d, hdd⟩ : ∃ d, l.take p = d := ⟨_, rfl⟩
    obtain ⟨m, hmm⟩ : ∃ m, l.drop (p + 1) = m := ⟨_, rfl⟩
    have hm2 : l.drop (p + 2) = m.drop 1 := by rw [← hmm, List.drop_drop]
    have hml : m.length = l.length - (p + 1) := by rw [← hmm, List.length_drop]
    have hdl : d.length ≤ l.length := by rw [← hdd, List.length_take]; omega
    rw [hm2] at hR
    rw [hmm] at hR e2
    rw [hs] at e2
    rw [hdd] at hR e1
    have HML := hid hml
    have HDL := hid hdl
    have HNP := hid hnp
    have HAT := hid hat
    have HR := hid hR
    have hl1 : (l.length : Int) - 1 = ((l.length - 1 : Nat) : Int) := by omega
    have HL1 := hid hl1
    have hms := S_size m
    clear hp hp2 hp3 hnp hat hdd hmm hm2 hml hdl hR hl1
    go_enter Tryd.func46, Tryd.ntmps46
    go_wp2_with fail
    go_loopg [4] (l.length - 1 - p) (fun g k wr => g + p < l.length ∧ k = .int .i64 ((g + p : Nat) : Int) ∧ w1 = wr)
    case atStart => exact ⟨by omega, by congr 1; omega, rfl⟩
    case round =>
      obtain ⟨hg, rfl, rfl⟩ := hrel
      rcases gk with _ | q
      · rw [Nat.zero_add] at hg ⊢
        have hx := HAT.out
        have hxj : (S l)[p]'(by rw [hs]; omega) = l[p] := rfl
        go_wp2_with fail
        refine (ref_NameOk d _ (by have := HDL.out; omega)).mono ?_
        rintro e w2 ⟨rfl, rfl⟩
        cases hok : okF d with
        | false =>
          have hr := HR.out
          rw [hok] at hr
          simp only [Bool.false_eq_true, if_false] at hr
          subst hr
          go_wp2_with fail
          exact bodyPost_ret (v := wayV none) (results_ct' Tryd.results46 _ _ g 96 (wayC none) _ (by rfl) HX1.out.set4 Tryd.underlying96 (by rfl) wayInfo) rfl ⟨rfl, ((((HU1.out.setCell HGE.out _).setCell HGE.out _).setCell HGE.out _).setCell HGE.out _)⟩
        | true =>
          have hr := HR.out
          rw [hok] at hr
          simp only [if_true] at hr
          have HR2 := hid hr
          clear hr HR hx hxj
          rcases m with _ | ⟨b, m⟩
          · have hr := HR2.out
            have h1 : symOkF [] = false := by decide
            rw [if_neg (by simp), h1] at hr
            simp only [Bool.false_eq_true, if_false] at hr
            subst hr
            have hpl : (p : Int) = (l.length : Int) - 1 := by have := HML.out; simp at this; omega
            have hpb : ((p : Int) == (l.length : Int) - 1) = true := by simpa using hpl
            clear hpl
            go_wp2_with fail
            exact bodyPost_ret (v := wayV none) (results_ct' Tryd.results46 _ _ g 96 (wayC none) _ (by rfl) HX1.out.set4 Tryd.underlying96 (by rfl) wayInfo) rfl ⟨rfl, ((((HU1.out.setCell HGE.out _).setCell HGE.out _).setCell HGE.out _).setCell HGE.out _)⟩
          · have hml := HML.out
            rw [List.length_cons] at hml
            have hpb : ((p : Int) == (l.length : Int) - 1) = false := by simp; omega
            have hb0 : (S (b :: m))[0]'(by rw [hms]; simp) = b := rfl
            have hms2 : 0 < (S (b :: m)).size := by rw [hms]; simp
            have hm47 : m.length ≤ 140737488351232 := by omega
            clear hml
            by_cases h35 : b.toNat = 35
            · have hbb : b = 35 := UInt8.toNat_inj.1 h35
              have hr := HR2.out
              rw [if_pos (by rw [hbb]; rfl), List.drop_one, List.tail_cons] at hr
              have hna := numB_atoi m
              have e3 := S_extn (b :: m) 1
              rw [hms, List.drop_one, List.tail_cons] at e3
              rw [List.length_cons] at e3 hms
              have h35b : ((b.toNat : Int) == 35) = true := by rw [h35]; rfl
              have HNB := hid (fun w => ref_Number m w (by omega))
              cases ha : atoiN m with
              | none =>
                rw [ha] at hr hna
                simp only at hr hna
                rw [hna, numBV_none] at HNB
                subst hr
                clear hna ha hbb
                go_wp2_with fail
                refine (HNB.out _).mono ?_
                rintro e w3 ⟨rfl, rfl⟩
                go_wp2_with fail
                exact bodyPost_ret (v := wayV none) (results_ct' Tryd.results46 _ _ g 96 (wayC none) _ (by rfl) HX1.out.set4 Tryd.underlying96 (by rfl) wayInfo) rfl ⟨rfl, ((((HU1.out.setCell HGE.out _).setCell HGE.out _).setCell HGE.out _).setCell HGE.out _)⟩
              | some n =>
                rw [ha] at hr hna
                simp only at hr hna
                by_cases hc : itoa n = m ∧ 0 ≤ n ∧ n ≤ 65535
                · rw [if_pos hc] at hr hna
                  rw [hna] at HNB
                  subst hr
                  obtain ⟨v, rfl⟩ := Int.eq_ofNat_of_zero_le hc.2.1
                  rw [Int.toNat_natCast, numBV_some] at HNB
                  clear hna ha hbb hc
                  go_wp2_with fail
                  refine (HNB.out _).mono ?_
                  rintro e w3 ⟨rfl, rfl⟩
                  go_wp2_with fail
                  exact bodyPost_ret (v := wayV (some (d, ⟨[], v, true⟩))) (results_ct' Tryd.results46 _ _ g 96 (wayC (some (d, ⟨[], v, true⟩))) _ (by rfl) HX1.out.set4 Tryd.underlying96 (by rfl) wayInfo) rfl ⟨rfl, ((((HU1.out.setCell HGE.out _).setCell HGE.out _).setCell HGE.out _).setCell HGE.out _)⟩
                · rw [if_neg hc] at hr hna
                  rw [hna, numBV_none] at HNB
                  subst hr
                  clear hna ha hbb hc
                  go_wp2_with fail
                  refine (HNB.out _).mono ?_
                  rintro e w3 ⟨rfl, rfl⟩
                  go_wp2_with fail
                  exact bodyPost_ret (v := wayV none) (results_ct' Tryd.results46 _ _ g 96 (wayC none) _ (by rfl) HX1.out.set4 Tryd.underlying96 (by rfl) wayInfo) rfl ⟨rfl, ((((HU1.out.setCell HGE.out _).setCell HGE.out _).setCell HGE.out _).setCell HGE.out _)⟩
            · have hr := HR2.out
              rw [if_neg (fun h => h35 (by rw [Option.some.inj h]; rfl))] at hr
              have h35b : ((b.toNat : Int) == 35) = false := by simp; omega
              have HSY := hid (fun w => ref_SymOk (b :: m) w (by rw [List.length_cons]; omega))
              cases hok2 : symOkF (b :: m) with
              | false =>
                rw [hok2] at hr HSY
                simp only [Bool.false_eq_true, if_false] at hr
                subst hr
                clear h35 hok2
                go_wp2_with fail
                refine (HSY.out _).mono ?_
                rintro e w3 ⟨rfl, rfl⟩
                go_wp2_with fail
                exact bodyPost_ret (v := wayV none) (results_ct' Tryd.results46 _ _ g 96 (wayC none) _ (by rfl) HX1.out.set4 Tryd.underlying96 (by rfl) wayInfo) rfl ⟨rfl, ((((HU1.out.setCell HGE.out _).setCell HGE.out _).setCell HGE.out _).setCell HGE.out _)⟩
              | true =>
                rw [hok2] at hr HSY
                simp only [if_true] at hr
                subst hr
                clear h35 hok2
                go_wp2_with fail
                refine (HSY.out _).mono ?_
                rintro e w3 ⟨rfl, rfl⟩
                go_wp2_with fail
                exact bodyPost_ret (v := wayV (some (d, ⟨b :: m, 0, false⟩))) (results_ct' Tryd.results46 _ _ g 96 (wayC (some (d, ⟨b :: m, 0, false⟩))) _ (by rfl) HX1.out.set4 Tryd.underlying96 (by rfl) wayInfo) rfl ⟨rfl, ((((HU1.out.setCell HGE.out _).setCell HGE.out _).setCell HGE.out _).setCell HGE.out _)⟩
      · have e0 : ((q + 1 + p : Nat) : Int) - 1 = ((q + p : Nat) : Int) := by omega
        have HE0 := hid e0
        clear e0
        obtain ⟨z, hz⟩ : ∃ z, q + 1 + p = z := ⟨_, rfl⟩
        have HZ := hid hz
        have HE1 : Hid ((z : Int) - 1 = ((q + p : Nat) : Int)) := hid (by have := HE0.out; omega)
        rw [hz] at hg ⊢
        have hx := HNP.out z hg (by omega)
        have hxj : (S l)[z]'(by rw [hs]; omega) = l[z] := rfl
        clear hz HE0
        go_wp2_with fail
        go_roundg q
        case measure => omega
        case rel => exact ⟨by have := HZ.out; omega, by rw [HE1.out], rfl⟩
end Go.Proofs.YtapllnnconpieaaDoor
