/- HdrTells: the walk. -/
import Derived.Test.YtajcihcbgmpdjaaRefHead
import Derived.Test.YtajcihcbgmpdjaaAwake5
import Derived.Test.YtajcihcbgmpdjaaMadeR
import Derived.Test.YtajcihcbgmpdjaaBits
import Derived.Test.YtajcihcbgmpdjaaSameHead
import Derived.Test.YtajcihcbgmpdjaaRounds
import Derived.Test.YtajcihcbgmpdjaaRows3
import Derived.Outline
set_option linter.unusedVariables false
namespace Go.Proofs.Ytajcihcbgmpdjaa
open Go.RowKit

attribute [-go_sem] storeVar loadVar
theorem loadVar_e : type_of% (loadVar.eq_1 23) := loadVar.eq_1 _
attribute [local go_sem] loadVar_e

def headOf : Except Int HeadD → HeadD
  | .error _ => ⟨0, 0, 0, 0, 0, 0, fun _ => 0, []⟩
  | .ok h => h
def errOf : Except Int HeadD → Int
  | .error n => n
  | .ok _ => 0
/-- What Parse and Head answer, as one form. -/
theorem parseOk_row {r : Except Int HeadD} {w w' : World} {e : Ending} (h : ParseOk r w e w') : ∃ (A : Option Addr) (c : Nat),
    e = .returned (.tuple #[.agg (headV (headOf r).base (headOf r).stamp (headOf r).chars (headOf r).entry (headOf r).size (headOf r).headers (fun k => (headOf r).d k) (.slice A (headOf r).sects.length c)), .int .i64 (errOf r)]) ∧
      Row w' A (scells (headOf r).sects) ∧ (headOf r).sects.length ≤ c ∧ (headOf r).sects.length ≤ 9223372036854775807 ∧ Below w.heap.size w w' := by
  obtain ⟨hb, h⟩ := h
  cases r with
  | error n => exact ⟨none, 0, h, .inl (by rfl), Nat.le_refl _, Nat.zero_le _, hb⟩
  | ok hd =>
    obtain ⟨v, he, ho⟩ := h
    have hm : hd.sects.length ≤ 9223372036854775807 := by
      obtain ⟨-, ⟨-, h0⟩ | ⟨g, cap, cur, -, -, -, h1, h2, -⟩⟩ := ho
      · omega
      · unfold maxLen at h2; omega
    obtain ⟨A, c, rfl, hc, hr⟩ := own_row ho
    exact ⟨A, c, he, hr, hc, hm, hb⟩
theorem turnsF_len : ∀ (ts : List (Int × Int × Nat)) (b : List UInt8), (turnsF ts b).length = b.length
  | [], b => rfl
  | t :: ts, b => by rw [turnsF, turnsF_len ts, putF_length]
theorem madeF_len (xs : List (Int × Int × Int)) (ts : List (Int × Int × Nat)) : (madeF xs ts).length ≤ 60000 ∧ 1 ≤ (madeF xs ts).length := by
  have h0 : (madeF xs ts).length = (madeF xs []).length := by
    unfold madeF
    rw [turnsF_len, turnsF_len]
  obtain ⟨-, h1⟩ := madeF_L xs
  have h2 := secsLen_le (sectsOf xs)
  obtain ⟨-, h3⟩ := sectsOf_length xs
  omega

set_option maxRecDepth 100000 in
set_option maxHeartbeats 16000000 in
theorem walk_HdrTells (w : World) (A0 : Option Addr) (c0 : Nat) (l0 : List UInt8) (h0 : Bs w A0 c0 l0) (h0l : l0.length ≤ 140737488351232)
    (A : Option Addr) (c : Nat) (xs : List (Int × Int × Int)) (ht : Trip w A xs.length c (tcells xs)) (B : Option Addr) (d : Nat) (ts : List (Int × Int × Nat)) (hu : Trip w B ts.length d (ucells ts)) (hv : ∀ t ∈ ts, t.2.2 < 18446744073709551616) (cut : Int) (wcut : (Lit.int .i64 cut).wf = true) :
    Calls Try.prog 5 #[.slice A0 l0.length c0, .slice A xs.length c, .slice B ts.length d, .int .i64 cut] w fun e w' => e = .returned (.bool true) ∧ Below w.heap.size w w' := by
  have H0 := hid h0
  have HT := hid ht
  have HU := hid hu
  have HV := hid hv
  clear h0 ht hu hv wcut
  by_cases hl : 600 < l0.length
  · have hl2 : decide ((600 : Int) < (l0.length : Int)) = true := decide_eq_true (by omega)
    clear hl
    go_enter Try.func5, Try.ntmps5
    go_wp2_with fail
    refine (law_awake _).mono ?_
    rintro e w16 ⟨rfl, b16⟩
    have U16 := hid b16
    clear b16
    go_wp2_with fail
    go_ret
    exact ⟨rfl, U16.out⟩
  · have hl2 : decide ((600 : Int) < (l0.length : Int)) = false := decide_eq_false (by omega)
    have e5 : 0 ≤ bits .and .i64 cut 65535 ∧ bits .and .i64 cut 65535 ≤ 65535 := and_le_i64 cut 65535 (by omega)
    obtain ⟨b5, hb5⟩ := Int.eq_ofNat_of_zero_le e5.1
    have hb5' : bits .and .i64 cut 65535 = (b5 : Int) := hb5
    have b5l : b5 ≤ 65535 := by omega
    have HB5 := hid hb5'
    clear e5 hb5 hb5' hl
    go_enter Try.func5, Try.ntmps5
    go_wp2_with fail
    refine (law_Made A c xs none 0 [] w HT.out (Trip.none _) (by simp)).mono ?_
    have hm1 := madeF_len xs []
    obtain ⟨L1, hL1⟩ : ∃ z, madeF xs [] = z := ⟨_, rfl⟩
    rw [hL1] at hm1 ⊢
    obtain ⟨m1, m1'⟩ := hm1
    rintro e w1 ⟨v1, rfl, o1, b1⟩
    obtain ⟨g1, p1, rfl, -, -, hbs1⟩ := o1.bs
    have BS1 := hid hbs1
    have U1 := hid b1
    have HT1 := hid (HT.out.below b1)
    have HU1 := hid (HU.out.below b1)
    clear o1 b1 hbs1 hL1
    go_wp2_with fail
    refine (law_Made A c xs B d ts w1 HT1.out HU1.out HV.out).mono ?_
    have hm2 := madeF_len xs ts
    obtain ⟨L2, hL2⟩ : ∃ z, madeF xs ts = z := ⟨_, rfl⟩
    rw [hL2] at hm2 ⊢
    obtain ⟨m2, m2'⟩ := hm2
    rintro e w2 ⟨v2, rfl, o2, b2⟩
    obtain ⟨g2, p2, rfl, -, -, hbs2⟩ := o2.bs
    have BS2 := hid hbs2
    have BS1' := hid (BS1.out.below b2)
    have U2 := hid (up_trans U1.out b2)
    clear o2 b2 hbs2 hL2
    obtain ⟨r, hr⟩ : ∃ r, b5 % (L1.length + 1) = r := ⟨_, rfl⟩
    have hrl : r ≤ L1.length := by
      have : b5 % (L1.length + 1) < L1.length + 1 := Nat.mod_lt _ (by omega)
      omega
    have hmod : (b5 : Int) % ((L1.length : Int) + 1) = (r : Int) := by
      have : (L1.length : Int) + 1 = ((L1.length + 1 : Nat) : Int) := by omega
      rw [this, ← hr]
      rfl
    have htm : (b5 : Int).tmod ((L1.length : Int) + 1) = (r : Int) := by rw [Int.tmod_eq_emod_of_nonneg (by omega)]; exact hmod
    have hp1 : L1.length ≤ p1 := BS1.out.le
    have HMD := hid hmod
    have HTM := hid htm
    clear hr hmod htm
    go_wp2_with fail
    go_loopg [11] 4 (fun k i wx => ∃ q : Nat, i = .int .i64 q ∧ q + k = 4 ∧ Below w2.heap.size w2 wx)
    case atStart => exact ⟨0, rfl, by omega, up_refl _⟩
    case round =>
      obtain ⟨q, rfl, hq, hub⟩ := hrel
      have HUB := hid hub
      have UR := hid (up_trans U2.out hub)
      clear hub
      rcases gk with _ | k
      · have hqn : ((q : Int) < 4) = False := by simp; omega
        go_wp2_with fail
        refine (law_awake _).mono ?_
        rintro e w16 ⟨rfl, b16⟩
        have U16 := hid (up_trans UR.out b16)
        clear b16
        go_wp2_with fail
        go_ret
        exact ⟨rfl, U16.out⟩
      · have hqn : ((q : Int) < 4) = True := by simp; omega
        have hq4 : q < 4 := by omega
        go_upto_region 8 with fail
        go_cut [12] (fun u wb => ∃ (A : Option Addr) (c : Nat) (l : List UInt8), u = .slice A l.length c ∧ Bs w2 A c l ∧ l.length ≤ 140737488351232 ∧ Below wr.heap.size wr wb)
        case first => as_aux_lemma =>
          have hb5' := HB5.out
          have hmod := HMD.out
          have htm := HTM.out
          have hzz : ((L1.length : Int) + 1 = 0) = False := eq_false (by omega)
          have hzx : (((L1.length : Int) + 1) == 0) = false := by rw [beq_eq_false_iff_ne]; omega
          have hsl := slice_h (P := Try.prog) 23 5 1 Try.underlying23 info_u8 (some ⟨g1, 0, none⟩) L1.length p1 .i64 (r : Int) r rfl hrl hp1
          have hcutbs : Bs w2 (some ⟨g1, 0, none⟩) p1 (L1.take r) := by
            refine ⟨?_, by rw [List.length_take]; omega, by rw [List.length_take]; omega⟩
            have := BS1'.out.row.take r
            rwa [bcells, ← List.map_take] at this
          have hpick : ∃ (A : Option Addr) (c : Nat) (l : List UInt8), Bs w2 A c l ∧ l.length ≤ 140737488351232 ∧ (#[Value.slice A0 l0.length c0, .slice (some ⟨g1, 0, none⟩) L1.length p1, .slice (some ⟨g2, 0, none⟩) L2.length p2, .slice (some ⟨g1, 0, none⟩) r p1] : Array Value)[q]? = some (.slice A l.length c) := by
            obtain rfl | rfl | rfl | rfl : q = 0 ∨ q = 1 ∨ q = 2 ∨ q = 3 := by omega
            · exact ⟨_, _, _, H0.out.below U2.out, h0l, rfl⟩
            · exact ⟨_, _, _, BS1'.out, by omega, rfl⟩
            · exact ⟨_, _, _, BS2.out, by omega, rfl⟩
            · exact ⟨_, _, _, hcutbs, by rw [List.length_take]; omega, by rw [List.length_take, Nat.min_eq_left hrl]; rfl⟩
          obtain ⟨A, c, l, hbs, hll, hval⟩ := hpick
          have HB := hid hbs
          obtain ⟨g20, hg20⟩ : ∃ g, wr.heap.size = g := ⟨_, rfl⟩
          obtain ⟨x20, hx20⟩ : ∃ zz, wr.alloc (.cells #[Value.slice A0 l0.length c0, .slice (some ⟨g1, 0, none⟩) L1.length p1, .slice (some ⟨g2, 0, none⟩) L2.length p2, .slice (some ⟨g1, 0, none⟩) r p1] 23) = zz := ⟨_, rfl⟩
          have V20 : Hid (Below wr.heap.size wr x20) := hid (hx20 ▸ up_alloc (up_refl _) _)
          have hcell : x20.cell? ⟨g20, q, none⟩ = some (.slice A l.length c) := by
            rw [← hx20, ← hg20]
            exact ((Blk.new wr _ _).cell q).trans hval
          clear hbs hval hcutbs
          go_wp2_with fail
          go_meet
          exact ⟨A, c, l, rfl, HB.out, hll, V20.out⟩
        case rest => as_aux_lemma =>
          obtain ⟨A, c, l, rfl, hbs, hll, hub⟩ := hcut
          have ZC := hid (up_trans HUB.out hub)
          have UC := hid (up_trans UR.out hub)
          have HB := hid hbs
          have HPA := hid (hdr_Parse A c l wc (hbs.below ZC.out))
          have HRE := hid (fun w => ref_Head l w hll)
          obtain ⟨R, hR⟩ : ∃ R, parseF l = R := ⟨_, rfl⟩
          rw [hR] at HPA HRE
          clear hbs hub hR
          go_wp2_with fail
          refine HPA.out.mono ?_
          intro e w30 hres
          obtain ⟨F1, f1, rfl, row1, q1, q2, b30⟩ := parseOk_row hres
          have U30 := hid (up_trans UC.out b30)
          have Z30 := hid (up_trans ZC.out b30)
          obtain ⟨V1, hV1⟩ : ∃ z, headV (headOf R).base (headOf R).stamp (headOf R).chars (headOf R).entry (headOf R).size (headOf R).headers (fun k => (headOf R).d k) (.slice F1 (headOf R).sects.length f1) = z := ⟨_, rfl⟩
          have hone1 : V1.all (·.oneCell') = true := by rw [← hV1]; exact headV_one _ _ _ _ _ _ _ _ rfl
          have hs1 : V1.size = 39 := by rw [← hV1]; rfl
          rw [hV1]
          have HV1 := hid hV1
          have R1 := hid row1
          obtain ⟨err, herr⟩ : ∃ z, errOf R = z := ⟨_, rfl⟩
          rw [herr]
          have HERR := hid herr
          clear hres b30 HPA hV1 row1 herr
          obtain ⟨g31, hg31⟩ : ∃ g, w30.heap.size = g := ⟨_, rfl⟩
          obtain ⟨x31, hx31⟩ : ∃ zz, w30.alloc (.cells #[.int .u64 0, .int .i64 0, .int .i64 0, .int .i64 0, .int .i64 0, .int .i64 0, .int .i64 0, .int .i64 0, .int .i64 0, .int .i64 0, .int .i64 0, .int .i64 0, .int .i64 0, .int .i64 0, .int .i64 0, .int .i64 0, .int .i64 0, .int .i64 0, .int .i64 0, .int .i64 0, .int .i64 0, .int .i64 0, .int .i64 0, .int .i64 0, .int .i64 0, .int .i64 0, .int .i64 0, .int .i64 0, .int .i64 0, .int .i64 0, .int .i64 0, .int .i64 0, .int .i64 0, .int .i64 0, .int .i64 0, .int .i64 0, .int .i64 0, .int .i64 0, .slice none 0 0] 32) = zz := ⟨_, rfl⟩
          have K31 : Hid (Blk x31 g31 headZ 32) := hid (hg31 ▸ hx31 ▸ Blk.new _ _ _)
          have V31 : Hid (Below w30.heap.size w30 x31) := hid (hx31 ▸ up_alloc (up_refl _) _)
          obtain ⟨w32, hw32⟩ : ∃ zz, x31.setRow g31 V1 = zz := ⟨_, rfl⟩
          have V32 : Hid (Below w30.heap.size w30 w32) := hid (hw32 ▸ below_setRow V31.out _ (by rw [hg31]; exact Nat.le_refl _) _)
          have K32 : Hid (Blk w32 g31 V1 32) := hid (hw32 ▸ K31.out.setRow _)
          have U32 := hid (up_trans U30.out V32.out)
          have Z32 := hid (up_trans Z30.out V32.out)
          have R32 := hid (R1.out.below V32.out)
          have hcv : (convert 23 9 (.slice A l.length c)).run Try.prog w32 = .ok (.string (S l)) w32 := run_str w32 _ _ 5 Try.underlying23 Try.underlying5 Try.underlying9 A l.length c l rfl (HB.out.below Z32.out).row
          go_upto_region 10 with (refine wpList_store_row (by rfl) 32 (.tmp 13) (.tmp 48) (by rfl) g31 V1 (by rfl) (by rfl) 32 headZ K31.out (by rw [hs1]; exact headInfo) (by rw [hs1]; rfl) hone1 ?_)
          first | go_frame | skip
          try rw [hw32]
          clear hw32 hx31 hg31 K31
          go_wp2_with fail
          refine (HRE.out _).mono ?_
          intro e w33 hres
          obtain ⟨F2, f2, rfl, row2, q3, q4, b33⟩ := parseOk_row hres
          have U33 := hid (up_trans U32.out b33)
          have Z33 := hid (up_trans Z32.out b33)
          have K33 := hid (K32.out.below b33)
          have R33 := hid (R32.out.below b33)
          obtain ⟨V2, hV2⟩ : ∃ z, headV (headOf R).base (headOf R).stamp (headOf R).chars (headOf R).entry (headOf R).size (headOf R).headers (fun k => (headOf R).d k) (.slice F2 (headOf R).sects.length f2) = z := ⟨_, rfl⟩
          have hone2 : V2.all (·.oneCell') = true := by rw [← hV2]; exact headV_one _ _ _ _ _ _ _ _ rfl
          have hs2 : V2.size = 39 := by rw [← hV2]; rfl
          rw [hV2, HERR.out]
          have HV2 := hid hV2
          have R2 := hid row2
          clear hres b33 hV2 row2 hcv HRE
          obtain ⟨g34, hg34⟩ : ∃ g, w33.heap.size = g := ⟨_, rfl⟩
          obtain ⟨x34, hx34⟩ : ∃ zz, w33.alloc (.cells #[.int .u64 0, .int .i64 0, .int .i64 0, .int .i64 0, .int .i64 0, .int .i64 0, .int .i64 0, .int .i64 0, .int .i64 0, .int .i64 0, .int .i64 0, .int .i64 0, .int .i64 0, .int .i64 0, .int .i64 0, .int .i64 0, .int .i64 0, .int .i64 0, .int .i64 0, .int .i64 0, .int .i64 0, .int .i64 0, .int .i64 0, .int .i64 0, .int .i64 0, .int .i64 0, .int .i64 0, .int .i64 0, .int .i64 0, .int .i64 0, .int .i64 0, .int .i64 0, .int .i64 0, .int .i64 0, .int .i64 0, .int .i64 0, .int .i64 0, .int .i64 0, .slice none 0 0] 32) = zz := ⟨_, rfl⟩
          have K34 : Hid (Blk x34 g34 headZ 32) := hid (hg34 ▸ hx34 ▸ Blk.new _ _ _)
          have V34 : Hid (Below w33.heap.size w33 x34) := hid (hx34 ▸ up_alloc (up_refl _) _)
          obtain ⟨w35, hw35⟩ : ∃ zz, x34.setRow g34 V2 = zz := ⟨_, rfl⟩
          have V35 : Hid (Below w33.heap.size w33 w35) := hid (hw35 ▸ below_setRow V34.out _ (by rw [hg34]; exact Nat.le_refl _) _)
          have K35 : Hid (Blk w35 g34 V2 32) := hid (hw35 ▸ K34.out.setRow _)
          have K36 := hid (K33.out.below V35.out)
          have U35 := hid (up_trans U33.out V35.out)
          have Z35 := hid (up_trans Z33.out V35.out)
          have HSA := ref_SameHead w35 (headOf R).base (headOf R).stamp (headOf R).chars (headOf R).entry (headOf R).size (headOf R).headers (fun k => (headOf R).d k) (headOf R).sects F1 F2 f1 f2 (R33.out.below V35.out) (R2.out.below V35.out) q1 q3 q2
          rw [HV1.out, HV2.out] at HSA
          have HSA := hid HSA
          have hld1 := run_loadVar_row (P := Try.prog) w35 g31 32 32 V1 (0, 0) _ K36.out Try.underlying32 (by rfl) (by rw [hs1]; exact headInfo)
          have hld2 := run_loadVar_row (P := Try.prog) w35 g34 32 32 V2 (0, 0) _ K35.out Try.underlying32 (by rfl) (by rw [hs2]; exact headInfo)
          go_upto_region 11 with (refine wpList_store_row (by rfl) 32 (.tmp 15) (.tmp 54) (by rfl) g34 V2 (by rfl) (by rfl) 32 headZ K34.out (by rw [hs2]; exact headInfo) (by rw [hs2]; rfl) hone2 ?_)
          first | go_frame | skip
          try rw [hw35]
          clear hw35 hx34 hg34 K34
          go_wp2_with fail
          refine HSA.out.mono ?_
          rintro e w36 ⟨rfl, b36⟩
          have Z36 := hid (up_trans Z35.out b36)
          clear b36 hld1 hld2 HSA
          go_wp2_with fail
          go_roundg k
          case measure => omega
          case rel => exact ⟨q + 1, by go_num, by omega, Z36.out⟩
end Go.Proofs.Ytajcihcbgmpdjaa
