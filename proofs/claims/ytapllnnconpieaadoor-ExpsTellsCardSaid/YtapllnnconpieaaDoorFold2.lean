/- fold: symbols, keys, texts. -/
import Derived.Test.YtapllnnconpieaaDoorFold
import Derived.Test.YtapllnnconpieaaDoorAppS
set_option linter.unusedVariables false
namespace Go.Proofs.YtapllnnconpieaaDoor
open Go.RowKit

theorem S_toList (l : List UInt8) : (S l).toList = l := by rw [ByteArray.toList_eq, S_list]

/-- A letter made small. -/
def low1 (b : UInt8) : UInt8 := if 65 ≤ b.toNat ∧ b.toNat ≤ 90 then b + 32 else b
theorem low1_toNat (b : UInt8) : ((low1 b).toNat : Int) = if 65 ≤ b.toNat ∧ b.toNat ≤ 90 then (b.toNat : Int) + 32 else b.toNat := by
  unfold low1
  split
  · rename_i h
    rw [UInt8.toNat_add]
    simp
    omega
  · rfl
/-- A name's key. -/
def keyF (l : List UInt8) : List UInt8 := l.map low1 ++ if l.contains 46 then [] else [46, 100, 108, 108]
def keyTo (l : List UInt8) (j : Nat) : List UInt8 := (l.take j).map low1 ++ l.drop j
theorem keyTo_length (l : List UInt8) (j : Nat) : (keyTo l j).length = l.length := by simp [keyTo]; omega
theorem keyTo_zero (l : List UInt8) : keyTo l 0 = l := by simp [keyTo]
theorem keyTo_all (l : List UInt8) : keyTo l l.length = l.map low1 := by simp [keyTo]
theorem keyTo_get (l : List UInt8) (j : Nat) (h : j < l.length) : (keyTo l j)[j]'(by rw [keyTo_length]; exact h) = l[j] := by
  have h1 : ((l.take j).map low1).length = j := by simp; omega
  unfold keyTo
  rw [List.getElem_append_right (by omega), List.getElem_drop]
  congr 1
  omega
theorem keyTo_set (l : List UInt8) (j : Nat) (h : j < l.length) : (keyTo l j).set j (low1 l[j]) = keyTo l (j + 1) := by
  have h1 : ((l.take j).map low1).length = j := by simp; omega
  unfold keyTo
  rw [List.set_append_right _ _ (by omega), h1, Nat.sub_self, List.drop_eq_getElem_cons h, List.set_cons_zero, take_snoc l j h, List.map_append]
  simp
theorem keyTo_same (l : List UInt8) (j : Nat) (h : j < l.length) (hs : low1 l[j] = l[j]) : keyTo l (j + 1) = keyTo l j := by
  rw [← keyTo_set l j h, hs]
  have h2 : j < (keyTo l j).length := by rw [keyTo_length]; exact h
  have h3 : (keyTo l j).set j (keyTo l j)[j] = keyTo l j := List.set_getElem_self h2
  rw [keyTo_get l j h] at h3
  exact h3

theorem indexByte_neg (l : List UInt8) (c : UInt8) : (Lib.indexByte l c < 0) = (l.contains c = false) := by
  induction l with
  | nil => simp [Lib.indexByte]
  | cons b l ih =>
    have hg := Lib.indexByte_ge l c
    unfold Lib.indexByte
    by_cases h : b = c
    · subst h
      simp
    · have h' : (b == c) = false := by simpa using h
      have h2 : (c == b) = false := by simpa using Ne.symm h
      rw [h', List.contains_cons, h2, Bool.false_or, ← ih]
      by_cases h3 : Lib.indexByte l c = -1
      · simp [h3]
      · simp [h3]
        omega

theorem ty_u8 : (Tryd.prog.info? 5).map (fun i => (i.zero, i.size, i.bytes)) = some (some (.int .u8 0), 1, 1) := by kernel_rfl

set_option maxRecDepth 100000 in
set_option maxHeartbeats 2000000 in
theorem fold_Key (l : List UInt8) (w : World) (hm : l.length ≤ 140737488351232) :
    Calls Tryd.prog 16 #[.string (S l)] w fun e w' => e = .returned (.string (S (keyF l))) ∧ Below w.heap.size w w' := by
  have hd : (convert 9 22 (.string (S l))).run Tryd.prog w = .ok (.slice (some ⟨w.heap.size, 0, none⟩) (S l).size (grownCap w (S l).size 0 5)) (Lib.bytesWorld w 5 (S l)) :=
    Lib.run_convert_string_bytes w _ _ 5 (S l) Tryd.underlying9 Tryd.underlying22 Tryd.underlying5
  have ho := ownB_bytes w l (by omega)
  have hb := bytesWorld_below w 5 (S l)
  rw [S_size l] at hd
  obtain ⟨cp, hcp⟩ : ∃ c, grownCap w l.length 0 5 = c := ⟨_, rfl⟩
  rw [hcp] at hd ho
  obtain ⟨w1, hw1⟩ : ∃ w1, Lib.bytesWorld w 5 (S l) = w1 := ⟨_, rfl⟩
  rw [hw1] at hd ho hb
  have hlt : w.heap.size < w1.heap.size := by rw [← hw1, Lib.bytesWorld_size]; omega
  obtain ⟨g, hg⟩ : ∃ g, w.heap.size = g := ⟨_, rfl⟩
  have HG := hid hg
  have HO := hid ho
  have HB := hid hb
  have hix := indexByte_neg l 46
  have HK : Hid (keyF l = l.map low1 ++ if l.contains 46 then [] else [46, 100, 108, 108]) := rfl
  obtain ⟨n, hn⟩ : ∃ n, l.length = n := ⟨_, rfl⟩
  have HN := hid hn
  rw [hn] at hd HO
  rw [hg] at hd HO HB hlt ⊢
  clear ho hb hcp hw1 hg hn
  go_enter Tryd.func16, Tryd.ntmps16
  go_wp2
  go_loopg [10] n (fun k i wr => ∃ j : Nat, i = .int .i64 j ∧ j + k = n ∧ OwnB wr g (.slice (some ⟨g, 0, none⟩) n cp) (keyTo l j) ∧ Below g w wr)
  case atStart => exact ⟨0, rfl, by omega, by rw [keyTo_zero]; exact HO.out, HB.out⟩
  case round =>
    obtain ⟨j, rfl, hj, ho, hb⟩ := hrel
    have HO := hid ho
    have HB := hid hb
    clear ho hb
    rcases gk with _ | m
    · have hjn : ((j : Int) < (n : Int)) = False := by simp; omega
      obtain rfl : j = l.length := by have := HN.out; omega
      have o2 := HO.out
      rw [keyTo_all] at o2
      have O2 := hid o2
      clear o2 HO
      have hgl : g ≤ wr.heap.size := by have h := HB.out.size; rw [HG.out] at h; exact h
      obtain ⟨g', cp', e', hg', hlt', hbs'⟩ := O2.out.bs
      simp at e'
      obtain ⟨rfl, hcn, rfl⟩ := e'
      have hcv : (convert 22 9 (.slice (some ⟨g, 0, none⟩) n cp)).run Tryd.prog wr = .ok (.string (S (l.map low1))) wr :=
        run_str wr _ _ 5 Tryd.underlying22 Tryd.underlying5 Tryd.underlying9 _ n cp (l.map low1) (by rw [List.length_map]; exact HN.out) hbs'.row
      obtain ⟨x, hx⟩ : ∃ x, Lib.indexByte l 46 = x := ⟨_, rfl⟩
      rw [hx] at hix
      have HI : Hid (Calls Tryd.prog 34 #[.string (S l), .int .u8 46] wr fun e w' => e = .returned (.int .i64 x) ∧ w' = wr) := by
        have h := Tryd.strings_IndexByte (S l) 46 wr
        rw [show Lib.indexByte (S l).data.toList (46 : Int).toNat.toUInt8 = x from hx] at h
        exact h
      clear hx hbs' hcn hg' hlt'
      cases hc : l.contains 46 with
      | true =>
        have hk := HK.out
        rw [hc] at hk hix
        have hxn : ¬ x < 0 := by rw [hix]; simp
        have HKK := hid hk
        clear hc hk hix HK
        go_wp2_with fail
        refine HI.out.mono ?_
        rintro e w2 ⟨rfl, rfl⟩
        go_wp2_with fail
        go_ret
        refine ⟨?_, HG.out ▸ HB.out⟩
        rw [HKK.out]
        simp
      | false =>
        have hk := HK.out
        rw [hc] at hk hix
        have hxn : x < 0 := by rw [hix]
        have HKK := hid hk
        clear hc hk hix HK
        go_wp2_with fail
        refine HI.out.mono ?_
        rintro e w2 ⟨rfl, rfl⟩
        go_wp2_with (refine wp_appStr (by rfl) (.tmp 30) (.const (.string ⟨#[46, 100, 108, 108]⟩)) (by rfl) ty_u8 g _ (l.map low1) [46, 100, 108, 108] (by rfl) O2.out (by rfl) (by simp; omega) hgl ?_; intro v2 w3 o3 h3; obtain ⟨g3, cp3, rfl, hg3, hlt3, hbs3⟩ := o3.bs; have hcv3 := run_str w3 22 9 5 Tryd.underlying22 Tryd.underlying5 Tryd.underlying9 (some ⟨g3, 0, none⟩) (l.length + 4) cp3 (l.map low1 ++ [46, 100, 108, 108]) (by simp) hbs3.row; have HB3 := hid (h3 w HB.out); clear h3 o3 hbs3 hg3)
        go_ret
        refine ⟨?_, HG.out ▸ HB3.out⟩
        rw [HKK.out]
        simp
    · have hjn : ((j : Int) < (n : Int)) = True := by simp; omega
      have hjl : j < l.length := by have := HN.out; omega
      obtain ⟨g', cp', e', hg', hlt', hle', hcell⟩ := HO.out.cell
      simp at e'
      obtain ⟨rfl, hcn, rfl⟩ := e'
      obtain ⟨hc1, hc2, hc3⟩ := hcell j (by rw [keyTo_length]; exact hjl)
      rw [keyTo_get l j hjl] at hc1
      have hset := hc3 (low1 l[j])
      rw [keyTo_set l j hjl] at hset
      have hlow := low1_toNat l[j]
      have hsame : low1 l[j] = l[j] → keyTo l (j + 1) = keyTo l j := keyTo_same l j hjl
      obtain ⟨b, hb⟩ : ∃ b, l[j] = b := ⟨_, rfl⟩
      rw [hb] at hc1 hset hlow hsame
      have hsame' : ¬ (65 ≤ b.toNat ∧ b.toNat ≤ 90) → keyTo l (j + 1) = keyTo l j := fun h => hsame (by unfold low1; rw [if_neg h])
      obtain ⟨c, hcb⟩ : ∃ c, b.toNat = c := ⟨_, rfl⟩
      have hc256 : c < 256 := by rw [← hcb]; exact b.toNat_lt
      rw [hcb] at hc1 hlow hsame'
      have HS := hid hset
      have HSM := hid hsame'
      clear hc3 hset hb hsame hsame' hcell hcn hle' hg' hlt' hix hcb
      by_cases h1 : 65 ≤ c
      · by_cases h2 : c ≤ 90
        · have hwr : IntKind.u8.wrap ((c : Int) + 32) = (c : Int) + 32 := by simp [IntKind.wrap, IntKind.bits, IntKind.signed]; omega
          rw [if_pos ⟨h1, h2⟩] at hlow
          have hs2 := HS.out
          rw [hlow] at hs2
          have HS2 := hid hs2
          clear hlow hs2 HS
          go_wp2_with fail
          go_roundg m
          case measure => omega
          case rel => exact ⟨j + 1, by go_num, by omega, HS2.out, HB.out.setCell (Nat.le_refl _) _⟩
        · clear hlow HS
          go_wp2_with fail
          go_roundg m
          case measure => omega
          case rel => exact ⟨j + 1, by go_num, by omega, by rw [HSM.out (by omega)]; exact HO.out, HB.out⟩
      · clear hlow HS
        go_wp2_with fail
        go_roundg m
        case measure => omega
        case rel => exact ⟨j + 1, by go_num, by omega, by rw [HSM.out (by omega)]; exact HO.out, HB.out⟩

set_option maxRecDepth 100000 in
set_option maxHeartbeats 1000000 in
theorem fold_Same (a b : List UInt8) (w : World) (ha : a.length ≤ 140737488351232) (hb : b.length ≤ 140737488351232) :
    Calls Tryd.prog 15 #[.string (S a), .string (S b)] w fun e w' => e = .returned (.bool (keyF a == keyF b)) ∧ Below w.heap.size w w' := by
  have hKa := fun w => fold_Key a w ha
  have hKb := fun w => fold_Key b w hb
  obtain ⟨x, hx⟩ : ∃ x, keyF a = x := ⟨_, rfl⟩
  obtain ⟨y, hy⟩ : ∃ y, keyF b = y := ⟨_, rfl⟩
  rw [hx] at hKa
  rw [hy] at hKb
  rw [hx, hy]
  have HA := hid hKa
  have HB := hid hKb
  clear hKa hKb hx hy
  go_enter Tryd.func15, Tryd.ntmps15
  go_wp2_with fail
  refine (HA.out w).mono ?_
  rintro e w1 ⟨rfl, b1⟩
  have U1 := hid b1
  clear b1
  go_wp2_with fail
  refine (HB.out w1).mono ?_
  rintro e w2 ⟨rfl, b2⟩
  have U2 := hid (Below.trans U1.out (b2.mono U1.out.size))
  clear b2
  go_wp2_with fail
  go_ret
  exact ⟨by rw [S_toList, S_toList]; rfl, U2.out⟩

set_option maxRecDepth 100000 in
set_option maxHeartbeats 1000000 in
theorem fold_SymOk (l : List UInt8) (w : World) (hm : l.length ≤ 140737488355328) :
    Calls Tryd.prog 13 #[.string (S l)] w fun e w' => e = .returned (.bool (symOkF l)) ∧ w = w' := by
  have hs := S_size l
  by_cases h1 : 1 ≤ l.length
  · by_cases h2 : l.length ≤ 60
    · have hx0 : (S l)[0]'(by rw [hs]; omega) = l[0] := rfl
      by_cases h35 : l[0].toNat = 35
      · have hk : symOkF l = false := by
          unfold symOkF
          have : l.head? = some 35 := by
            rw [List.head?_eq_getElem?, List.getElem?_eq_getElem (by omega)]
            congr 1
            exact UInt8.toNat_inj.1 h35
          rw [this]
          simp
        rw [hk]
        clear hk
        go_enter Tryd.func13, Tryd.ntmps13
        go_wp2
        go_ret
        exact ⟨rfl, rfl⟩
      · have hk : symOkF l = (l.drop 0).all fun b => decide (33 ≤ b.toNat ∧ b.toNat ≤ 126) := by
          unfold symOkF
          have : (l.head? != some 35) = true := by
            rw [List.head?_eq_getElem?, List.getElem?_eq_getElem (by omega)]
            simp only [bne_iff_ne, ne_eq, Option.some.injEq]
            intro h
            exact h35 (by rw [h]; rfl)
          rw [decide_eq_true ⟨h1, h2⟩, this, Bool.true_and, Bool.true_and, List.drop_zero]
        rw [hk]
        have h35' : ((l[0].toNat : Int) == 35) = false := by simp; omega
        obtain ⟨R, hR⟩ : ∃ R, ((l.drop 0).all fun b => decide (33 ≤ b.toNat ∧ b.toNat ≤ 126)) = R := ⟨_, rfl⟩
        rw [hR]
        have HR := hid hR
        clear hk hR
        go_enter Tryd.func13, Tryd.ntmps13
        go_wp2
        go_loopg [19] l.length (fun g i wr => ∃ j : Nat, i = .int .i64 j ∧ j + g = l.length ∧ Hid (((l.drop j).all fun b => decide (33 ≤ b.toNat ∧ b.toNat ≤ 126)) = R) ∧ w = wr)
        case atStart => exact ⟨0, rfl, by omega, HR, rfl⟩
        case round =>
          obtain ⟨j, rfl, hj, HJ, rfl⟩ := hrel
          rcases gk with _ | m
          · have hjn : ((j : Int) < (l.length : Int)) = False := by simp; omega
            obtain rfl : R = true := by
              rw [← HJ.out, List.drop_of_length_le (by omega)]
              rfl
            go_wp2_with fail
            go_ret
            exact ⟨rfl, rfl⟩
          · have hlt : j < l.length := by omega
            have hjn : ((j : Int) < (l.length : Int)) = True := by simp; omega
            have hx := HJ.out
            rw [all_drop _ l j hlt] at hx
            have HX := hid hx
            have hxj : (S l)[j]'(by rw [hs]; omega) = l[j] := rfl
            clear hx HJ
            by_cases hb1 : 33 ≤ l[j].toNat
            · by_cases hb2 : l[j].toNat ≤ 126
              · have hn : ((l.drop (j + 1)).all fun b => decide (33 ≤ b.toNat ∧ b.toNat ≤ 126)) = R := by
                  have h := HX.out
                  rw [decide_eq_true ⟨hb1, hb2⟩, Bool.true_and] at h
                  exact h
                have HN := hid hn
                clear hn HX
                go_wp2_with fail
                go_roundg m
                case measure => omega
                case rel => exact ⟨j + 1, by go_num, by omega, HN, rfl⟩
              · obtain rfl : R = false := by
                  have h := HX.out
                  rw [decide_eq_false (by omega)] at h
                  exact h.symm
                go_wp2_with fail
                go_ret
                exact ⟨rfl, rfl⟩
            · obtain rfl : R = false := by
                have h := HX.out
                rw [decide_eq_false (by omega)] at h
                exact h.symm
              go_wp2_with fail
              go_ret
              exact ⟨rfl, rfl⟩
    · have hk : symOkF l = false := by
        unfold symOkF
        rw [decide_eq_false (by omega), Bool.false_and, Bool.false_and]
      rw [hk]
      clear hk
      go_enter Tryd.func13, Tryd.ntmps13
      go_wp2
      go_ret
      exact ⟨rfl, rfl⟩
  · have hk : symOkF l = false := by
      unfold symOkF
      rw [decide_eq_false (by omega), Bool.false_and, Bool.false_and]
    rw [hk]
    clear hk
    go_enter Tryd.func13, Tryd.ntmps13
    go_wp2
    go_ret
    exact ⟨rfl, rfl⟩

end Go.Proofs.YtapllnnconpieaaDoor
