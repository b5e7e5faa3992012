/- FoldLetters, walked. -/
import Derived.Test.YtapllnnconpieaaDoorLetters
set_option linter.unusedVariables false
namespace Go.Proofs.YtapllnnconpieaaDoor
open Go.RowKit

set_option maxRecDepth 100000 in
set_option maxHeartbeats 8000000 in
theorem walk_FoldLetters (w : World) (hk : LibOk w) (a0 : ByteArray) (w0 : a0.size ≤ 140737488351232) (a1 : Int) (h1 : (Lit.int .u64 a1).wf = true) :
    Calls Tryd.prog 4 #[.string a0, .int .u64 a1] w fun e w' => e = .returned (.bool true) ∧ Below w.heap.size w w' := by
  obtain ⟨l, rfl⟩ : ∃ d, a0 = S d := ⟨a0.data.toList, (S_of a0).symm⟩
  rw [S_size] at w0
  have hsz := S_size l
  have HK := hid hk
  have HO := hid (fold_Ok l w (by omega))
  clear hk
  cases ho : okF l with
  | false =>
    rw [ho] at HO
    clear ho
    go_enter Tryd.func4, Tryd.ntmps4
    go_wp2_with fail
    refine HO.out.mono ?_
    rintro e w3 ⟨rfl, rfl⟩
    go_wp2_with fail
    refine (law2_awake _ HK.out).mono ?_
    rintro e w3 ⟨rfl, b3⟩
    have B3 := hid b3
    clear b3
    go_wp2_with fail
    go_ret
    exact ⟨rfl, B3.out⟩
  | true =>
    have HOK := hid ho
    rw [ho] at HO
    clear ho
    by_cases h36 : 36 < l.length
    · go_enter Tryd.func4, Tryd.ntmps4
      go_wp2_with fail
      refine HO.out.mono ?_
      rintro e w3 ⟨rfl, rfl⟩
      go_wp2_with fail
      refine (law2_awake _ HK.out).mono ?_
      rintro e w3 ⟨rfl, b3⟩
      have B3 := hid b3
      clear b3
      go_wp2_with fail
      go_ret
      exact ⟨rfl, B3.out⟩
    · have hd : (convert 9 22 (.string (S l))).run Tryd.prog w = .ok (.slice (some ⟨w.heap.size, 0, none⟩) (S l).size (grownCap w (S l).size 0 5)) (Lib.bytesWorld w 5 (S l)) :=
        Lib.run_convert_string_bytes w _ _ 5 (S l) Tryd.underlying9 Tryd.underlying22 Tryd.underlying5
      have ho := ownB_bytes w l (by omega)
      have hb := bytesWorld_below w 5 (S l)
      rw [S_size l] at hd
      obtain ⟨cp, hcp⟩ : ∃ c, grownCap w l.length 0 5 = c := ⟨_, rfl⟩
      rw [hcp] at hd ho
      obtain ⟨w1, hw1⟩ : ∃ w1, Lib.bytesWorld w 5 (S l) = w1 := ⟨_, rfl⟩
      rw [hw1] at hd ho hb
      obtain ⟨g, hg⟩ : ∃ g, w.heap.size = g := ⟨_, rfl⟩
      obtain ⟨n, hn⟩ : ∃ n, l.length = n := ⟨_, rfl⟩
      rw [hn] at hd ho
      rw [hg] at hd ho hb ⊢
      rw [hn] at hsz
      have HG := hid hg
      have HN := hid hn
      have HOW := hid ho
      have HB := hid hb
      clear ho hb hcp hw1 hg
      have n36 : n ≤ 36 := by omega
      clear hn w0
      go_enter Tryd.func4, Tryd.ntmps4
      go_wp2_with fail
      refine HO.out.mono ?_
      rintro e w3 ⟨rfl, rfl⟩
      go_wp2_with fail
      go_loopg [6, 7] n (fun k b i wr => ∃ (j : Nat) (m : List UInt8), i = .int .i64 j ∧ j + k = n ∧ b = .bool ((l.take j).contains 46) ∧ OwnB wr g (.slice (some ⟨g, 0, none⟩) n cp) m ∧ Turned l m j ∧ Below g w wr)
      case atStart => exact ⟨0, l, rfl, by omega, rfl, HOW.out, Turned.start l, HB.out⟩
      case round =>
        obtain ⟨j, m, rfl, hj, rfl, ho, ht, hb⟩ := hrel
        have HM := hid ho
        have HT := hid ht
        have HB2 := hid hb
        clear ho ht hb
        rcases gk with _ | k
        · have hjn : ((j : Int) < (n : Int)) = False := by simp; omega
          obtain rfl : j = l.length := by have := HN.out; omega
          rw [List.take_length]
          have hml : m.length = n := by have := HT.out.len; have := HN.out; omega
          obtain ⟨g', cp', e', hg', hlt', hbs'⟩ := HM.out.bs
          simp only [Value.slice.injEq, Option.some.injEq, Addr.mk.injEq, and_true, true_and] at e'
          obtain ⟨rfl, -, rfl⟩ := e'
          have hcv : (convert 22 9 (.slice (some ⟨g, 0, none⟩) n cp)).run Tryd.prog wr = .ok (.string (S m)) wr :=
            run_str wr _ _ 5 Tryd.underlying22 Tryd.underlying5 Tryd.underlying9 _ n cp m hml hbs'.row
          have hszm : (S m).size = n := by rw [S_size]; exact hml
          have U1 := hid (show Below w.heap.size w wr from HG.out ▸ HB2.out)
          have KR := hid (HK.out.below U1.out)
          have hll : l.length ≤ 140737488351232 := by have := HN.out; omega
          have hkm := HT.out.key
          have hkk := keyF_key l
          have hkl : (keyF l).length ≤ 140737488351232 := by
            have : (keyF l).length ≤ l.length + 4 := by
              unfold keyF
              rw [List.length_append, List.length_map]
              split <;> simp
            have := HN.out
            omega
          have hs1 := fun w => fold_Same l m w hll (by omega)
          have hk1 := fun w => fold_Key l w hll
          have hk2 := fun w => fold_Key m w (by omega)
          have hk3 := fun w => fold_Key (keyF l) w hkl
          have ho2 := fun w => fold_Ok m w (by omega)
          have hs2 := fun w => fold_Same l (m ++ [46, 68, 76, 76]) w hll (by simp; omega)
          have hdd := fun hp => HT.out.dll hp
          rw [HT.out.ok HOK.out] at ho2
          rw [hkm] at hs1 hk2
          rw [hkk] at hk3
          obtain ⟨K, hK⟩ : ∃ K, keyF l = K := ⟨_, rfl⟩
          rw [hK] at hs1 hk1 hk2 hk3 hs2 hdd
          rw [show (K == K) = true by simp] at hs1
          have hx : S m ++ ⟨#[46, 68, 76, 76]⟩ = S (m ++ [46, 68, 76, 76]) := S_append _ _
          obtain ⟨pt, hpt⟩ : ∃ b, l.contains 46 = b := ⟨_, rfl⟩
          rw [hpt] at hdd ⊢
          have S1 := hid hs1
          have K1 := hid hk1
          have K2 := hid hk2
          have K3 := hid hk3
          have O2 := hid ho2
          have S2 := hid hs2
          have DD := hid hdd
          clear hs1 hk1 hk2 hk3 ho2 hs2 hK hkk hkm hkl hll hpt hbs' hlt' hg' hml hdd
          go_wp2_with fail
          refine (S1.out _).mono ?_
          rintro e w4 ⟨rfl, b4⟩
          have U4 := hid (up_trans U1.out b4)
          clear b4
          go_wp2_with fail
          refine (K1.out _).mono ?_
          rintro e w5 ⟨rfl, b5⟩
          have U5 := hid (up_trans U4.out b5)
          clear b5
          go_wp2_with fail
          refine (K2.out _).mono ?_
          rintro e w6 ⟨rfl, b6⟩
          have U6 := hid (up_trans U5.out b6)
          clear b6
          go_wp2_with fail
          refine (O2.out _).mono ?_
          rintro e w7 ⟨rfl, rfl⟩
          go_wp2_with fail
          refine (K1.out _).mono ?_
          rintro e w8 ⟨rfl, b8⟩
          have U8 := hid (up_trans U6.out b8)
          clear b8
          go_wp2_with fail
          refine (K3.out _).mono ?_
          rintro e w9 ⟨rfl, b9⟩
          have U9 := hid (up_trans U8.out b9)
          clear b9
          go_wp2_with fail
          refine (K1.out _).mono ?_
          rintro e w10 ⟨rfl, b10⟩
          have U10 := hid (up_trans U9.out b10)
          clear b10
          cases pt with
          | true =>
            go_wp2_with fail
            refine (law2_awake _ (HK.out.below U10.out)).mono ?_
            rintro e w11 ⟨rfl, b11⟩
            have U11 := hid (up_trans U10.out b11)
            clear b11
            go_wp2_with fail
            go_ret
            exact ⟨rfl, HG.out ▸ U11.out⟩
          | false =>
            have S3 := S2.out
            rw [DD.out rfl, show (K == K) = true by simp] at S3
            have S4 := hid S3
            clear S3
            go_wp2_with fail
            refine (S4.out _).mono ?_
            rintro e w11 ⟨rfl, b11⟩
            have U11 := hid (up_trans U10.out b11)
            clear b11
            go_wp2_with fail
            refine (law2_awake _ (HK.out.below U11.out)).mono ?_
            rintro e w12 ⟨rfl, b12⟩
            have U12 := hid (up_trans U11.out b12)
            clear b12
            go_wp2_with fail
            go_ret
            exact ⟨rfl, HG.out ▸ U12.out⟩
        · have hjn : ((j : Int) < (n : Int)) = True := by simp; omega
          have hjl : j < l.length := by have := HN.out; omega
          have hml : m.length = l.length := HT.out.len
          obtain ⟨hc1, hc2, hc3⟩ := HM.out.get1 (j := j) (by omega) l[j] (HT.out.far j hjl (Nat.le_refl _))
          have hfl := HT.out.flip hjl
          have hst := contains_step l j hjl
          obtain ⟨c, hcc⟩ : ∃ c, l[j] = c := ⟨_, rfl⟩
          rw [hcc] at hc1 hst hfl
          have hc4 := hc3 (c ^^^ 32)
          have hx := xor_u8 c
          obtain ⟨d, hd⟩ : ∃ d, c ^^^ 32 = d := ⟨_, rfl⟩
          rw [hd] at hc4 hx hfl
          obtain ⟨y, hy⟩ : ∃ y : Int, (d.toNat : Int) = y := ⟨_, rfl⟩
          rw [hy] at hx
          have hc5 := hc4 y hy.symm
          have hand := and63 j (by omega)
          have HC5 := hid hc5
          have HFL : Hid (isLet c → Turned l (m.set j d) (j + 1)) := hid hfl
          have hisl : isLet c ↔ ((97 ≤ c.toNat ∧ c.toNat ≤ 122) ∨ (65 ≤ c.toNat ∧ c.toNat ≤ 90)) := Iff.rfl
          have HIS := hid hisl
          obtain ⟨cn, hcn⟩ : ∃ n, c.toNat = n := ⟨_, rfl⟩
          rw [hcn] at hc1 hx hst HIS
          obtain ⟨q, hq⟩ : ∃ q, bits .and .u64 (a1 / 2 ^ j) 1 = q := ⟨_, rfl⟩
          clear hc3 hc4 hc5 hy hd hcc hcn hfl hisl
          cases hb : (l.take j).contains 46 with
          | true =>
            rw [hb, Bool.true_or] at hst
            have HST := hid hst
            clear hst hb
            go_wp2_with fail
            all_goals
              go_roundg k
              case measure => omega
              case rel => first | exact ⟨j + 1, m.set j d, by go_num, by omega, by rw [HST.out], HC5.out, HFL.out (HIS.out.2 (by omega)), HB2.out.setCell (Nat.le_refl _) _⟩ | exact ⟨j + 1, m, by go_num, by omega, by rw [HST.out], HM.out, HT.out.skip, HB2.out⟩
          | false =>
            rw [hb, Bool.false_or] at hst
            by_cases h46 : (cn : Int) = 46
            · rw [decide_eq_true h46] at hst
              have HST := hid hst
              clear hst hb
              go_wp2_with fail
              all_goals
                go_roundg k
                case measure => omega
                case rel => first | exact ⟨j + 1, m.set j d, by go_num, by omega, by rw [HST.out], HC5.out, HFL.out (HIS.out.2 (by omega)), HB2.out.setCell (Nat.le_refl _) _⟩ | exact ⟨j + 1, m, by go_num, by omega, by rw [HST.out], HM.out, HT.out.skip, HB2.out⟩
            · rw [decide_eq_false h46] at hst
              have HST := hid hst
              clear hst hb
              go_wp2_with fail
              all_goals
                go_roundg k
                case measure => omega
                case rel => first | exact ⟨j + 1, m.set j d, by go_num, by omega, by rw [HST.out]; simp [h46], HC5.out, HFL.out (HIS.out.2 (by omega)), HB2.out.setCell (Nat.le_refl _) _⟩ | exact ⟨j + 1, m, by go_num, by omega, by rw [HST.out]; simp [h46], HM.out, HT.out.skip, HB2.out⟩
end Go.Proofs.YtapllnnconpieaaDoor
