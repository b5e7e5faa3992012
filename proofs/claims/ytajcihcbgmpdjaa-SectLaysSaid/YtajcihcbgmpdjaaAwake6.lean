/- slipwaylaw6.awake, walked. -/
import Derived.Test.YtajcihcbgmpdjaaLay
namespace Go.Proofs.Ytajcihcbgmpdjaa
open Go.RowKit

attribute [-go_sem] storeVar loadVar

/-- A head in memory: its block, its sections. -/
structure HeadAt (w : World) (b : Nat) (cs : Array Value) (size headers : Nat) (A : Option Addr) (c : Nat) (xs : List SectD) : Prop where
  blk : Blk w b cs 32
  row : Row w A (scells xs)
  c : HeadC cs size headers A xs.length c
  small : ∀ s ∈ xs, s.small

theorem HeadAt.below {w w' : World} {b : Nat} {cs : Array Value} {size headers : Nat} {A : Option Addr} {c : Nat} {xs : List SectD} (h : HeadAt w b cs size headers A c xs) (hb : Below w.heap.size w w') : HeadAt w' b cs size headers A c xs :=
  ⟨h.blk.below hb, h.row.below hb, h.c, h.small⟩

theorem HeadAt.info {w : World} {b : Nat} {cs : Array Value} {size headers : Nat} {A : Option Addr} {c : Nat} {xs : List SectD} (h : HeadAt w b cs size headers A c xs) : (Try.prog.info? 32).map (·.size) = some cs.size := by
  rw [h.c.sz]
  exact headInfo

theorem headC_of {h : HeadD} {A : Option Addr} {c : Nat} {cs : Array Value} (hcs : headV h.base h.stamp h.chars h.entry h.size h.headers (fun k => h.d k) (.slice A h.sects.length c) = cs) (h1 : h.size ≤ 4294967295) (h2 : h.headers ≤ 4294967295) (h3 : h.sects.length ≤ 140737488355328) :
    HeadC cs h.size h.headers A h.sects.length c := by
  subst hcs
  exact ⟨rfl, rfl, rfl, rfl, headV_one _ _ _ _ _ _ _ _ rfl, h1, h2, h3⟩

set_option maxRecDepth 100000 in
set_option maxHeartbeats 8000000 in
theorem law6_awake (w : World) : Calls Try.prog 20 #[] w fun e w' => e = .returned (.bool true) ∧ Below w.heap.size w w' := by
  obtain ⟨h, s, hp, p1, p2, p3, p4, p5, p6, p7, p8, p9, p10, p11, p12⟩ := parse_made_nil
  obtain ⟨L, hLe⟩ : ∃ L, madeF [] [] = L := ⟨_, rfl⟩
  obtain ⟨hL, hLl⟩ := madeF_L []
  rw [hLe] at hp hL hLl
  have hl1 := hL.len
  have hl2 : L.length ≤ 60000 := by
    have h1 := secsLen_le (sectsOf [])
    have h2 := (sectsOf_length []).2
    omega
  have h2b : L.take 2 = [77, 90] := by
    have hn := hL.nums
    simp only [headNums, List.cons.injEq, and_true] at hn
    exact two_of L 0 (by omega) 77 90 hn.2.2.2.2.2.2.2.2.2.2.2.2.2.1
  have hof : ofF h.sects 0 4096 = some 0 := by rw [p7, ofF, p8, p9]; rfl
  have hof2 : offF h.headers h.sects 4097 = some 1025 := by
    have e1 : ofF h.sects 0 4097 = some 0 := by rw [p7, ofF, p8, p9]; rfl
    rw [offF, p4, if_neg (by decide), e1, p7]
    simp only [List.getElem?_cons_zero, p9, p10, p11]
    rfl
  have hof3 : offF h.headers h.sects 4608 = none := by
    have e1 : ofF h.sects 0 4608 = some 0 := by rw [p7, ofF, p8, p9]; rfl
    rw [offF, p4, if_neg (by decide), e1, p7]
    simp only [List.getElem?_cons_zero, p9, p10, p11]
    rfl
  have hpr : protAtF h.headers h.sects 0 = 1 := by
    have e1 : ofF h.sects 0 0 = none := by rw [p7, ofF, p8, p9]; rfl
    rw [protAtF, e1, p4]
    rfl
  have hlay : (layF h.size h.headers h.sects L).take 2 = [77, 90] ∧ (layF h.size h.headers h.sects L).length = 8192 := by
    have hl0 : (lay0 8192 1024 L).length = 8192 := by rw [lay0, splL_length _ _ _ (by rw [List.length_take, zer_length]; omega), zer_length]
    have e : layF h.size h.headers h.sects L = layTo 8192 L (lay0 8192 1024 L) s 8192 := by rw [p2, p4, p7]; rfl
    rw [e]
    refine ⟨?_, layTo_length _ _ _ _ _⟩
    have hg : ∀ k, k < 2 → (layTo 8192 L (lay0 8192 1024 L) s 8192)[k]? = L[k]? := fun k hk => by
      rw [layTo_get _ _ _ _ _ _ (by omega), if_neg (by rw [p9]; omega), List.getD_eq_getElem?_getD, List.getElem?_eq_getElem (by omega), Option.getD_some, ← List.getElem?_eq_getElem]
      rw [lay0, splL, List.take_zero, List.nil_append, List.getElem?_append_left (by rw [List.length_take]; omega), List.getElem?_take, if_pos (by omega)]
    have := seg_congr (l := layTo 8192 L (lay0 8192 1024 L) s 8192) (m := L) (a := 0) (n := 2) (fun k hk => by rw [Nat.zero_add]; exact hg k hk)
    rw [← h2b]
    exact this
  have hsm : ∀ s' ∈ h.sects, s'.small := by
    rw [p7]
    intro s' hs'
    simp at hs'
    subst hs'
    unfold SectD.small
    omega
  have HP := hid hp
  have HLe := hid hLe
  have HOF := hid hof
  have HOF2 := hid hof2
  have HOF3 := hid hof3
  have HPR := hid hpr
  have HLAY := hid hlay
  have HSM := hid hsm
  have HB := hid (⟨by omega, by omega, by omega, by omega, by rw [p7]; simp⟩ : h.size ≤ 262144 ∧ h.size ≤ 4294967295 ∧ h.headers ≤ 4294967295 ∧ h.headers ≤ h.size ∧ h.sects.length ≤ 140737488355328)
  clear hp hLe hof hof2 hof3 hpr hlay hsm p1 p2 p3 p4 p5 p6 p7 p8 p9 p10 p11 p12 hL hLl h2b
  obtain ⟨N, hN⟩ : ∃ N, L.length = N := ⟨_, rfl⟩
  have HNL := hid hN
  rw [hN] at hl1 hl2
  clear hN
  go_enter Try.func20, Try.ntmps20
  go_wp2_with fail
  refine (law_Made none 0 [] none 0 [] _ (Trip.none _) (Trip.none _) (by simp)).mono ?_
  rw [HLe.out]
  rintro e w1 ⟨v1, rfl, o1, b1⟩
  obtain ⟨g1, p1, hv1, hg1, hlt1, hbs1⟩ := o1.bs
  have hpz := hdr_Parse _ _ L w1 hbs1
  rw [HNL.out, HP.out] at hpz
  rw [HNL.out] at hv1
  subst hv1
  have BS1 := hid hbs1
  have HPZ := hid hpz
  have U1 := hid b1
  clear o1 b1 hbs1 hpz hg1 hlt1
  go_wp2_with fail
  refine HPZ.out.mono ?_
  rintro e w2 ⟨b2, v2, rfl, o2⟩
  have U2 := hid (up_trans U1.out b2)
  obtain ⟨A2, c2, rfl, -, r2⟩ := own_row o2
  have R2 := hid r2
  obtain ⟨cs2, hcs2⟩ : ∃ cs, headV h.base h.stamp h.chars h.entry h.size h.headers (fun k => h.d k) (.slice A2 h.sects.length c2) = cs := ⟨_, rfl⟩
  rw [show h.val (.slice A2 h.sects.length c2) = .agg cs2 by rw [HeadD.val, hcs2]]
  have HS2 : Hid (cs2.size = 39) := by rw [← hcs2]; exact headV_size _ _ _ _ _ _ _ _
  have HO2 : Hid (cs2.all (·.oneCell') = true) := by rw [← hcs2]; exact headV_one _ _ _ _ _ _ _ _ rfl
  have HCS2 := hid hcs2
  have D2 := hid b2
  clear b2 o2 r2 hcs2
  have HC := hid (headC_of HCS2.out HB.out.2.1 HB.out.2.2.1 HB.out.2.2.2.2)
  go_wp2_with (first | (refine wpList_store_row (by rfl) 32 (.tmp 2) (.tmp 15) (by rfl) w2.heap.size cs2 (by rfl) (by rfl) 32 headZ (Blk.new _ _ _) (by rw [HS2.out]; exact headInfo) (by rw [HS2.out]; rfl) HO2.out ?_; obtain ⟨w3, hw3⟩ : ∃ w3, w3 = (w2.alloc (.cells headZ 32)).setRow w2.heap.size cs2 := ⟨_, rfl⟩; have B3 : Hid (Blk w3 w2.heap.size cs2 32) := hw3 ▸ (Blk.new w2 headZ 32).setRow cs2; have U3 := hid (show Below w.heap.size w w3 from hw3 ▸ below_setRow (up_alloc U2.out _) _ U2.out.size _); have V3 := hid (show Below w2.heap.size w2 w3 from hw3 ▸ below_setRow (up_alloc (up_refl _) _) _ (Nat.le_refl _) _); rw [show (w2.alloc (.cells #[.int .u64 0, .int .i64 0, .int .i64 0, .int .i64 0, .int .i64 0, .int .i64 0, .int .i64 0, .int .i64 0, .int .i64 0, .int .i64 0, .int .i64 0, .int .i64 0, .int .i64 0, .int .i64 0, .int .i64 0, .int .i64 0, .int .i64 0, .int .i64 0, .int .i64 0, .int .i64 0, .int .i64 0, .int .i64 0, .int .i64 0, .int .i64 0, .int .i64 0, .int .i64 0, .int .i64 0, .int .i64 0, .int .i64 0, .int .i64 0, .int .i64 0, .int .i64 0, .int .i64 0, .int .i64 0, .int .i64 0, .int .i64 0, .int .i64 0, .int .i64 0, .slice none 0 0] 32)).setRow w2.heap.size cs2 = w3 from hw3.symm]; clear hw3; have D3 := hid (up_trans D2.out V3.out); have H3 := hid (⟨B3.out, R2.out.below V3.out, HC.out, HSM.out⟩ : HeadAt w3 w2.heap.size cs2 h.size h.headers A2 c2 h.sects)) | (refine wpList_load_row (by rfl) 32 (.tmp 2) (by rfl) w2.heap.size (by rfl) 32 cs2 (0, 0) _ H3.out.blk Try.underlying32 (by rfl) H3.out.info ?_))
  refine (sect_Of cs2 h.size h.headers A2 c2 h.sects 4096 w3 HC.out H3.out.row HSM.out (by omega) (by omega)).mono ?_
  rw [HOF.out]
  rintro e w4 ⟨rfl, b4⟩
  have H4 := hid (H3.out.below b4)
  have U4 := hid (up_trans U3.out b4)
  have D4 := hid (up_trans D3.out b4)
  clear b4 H3
  go_wp2_with (refine wpList_load_row (by rfl) 32 (.tmp 2) (by rfl) w2.heap.size (by rfl) 32 cs2 (0, 0) _ H4.out.blk Try.underlying32 (by rfl) H4.out.info ?_)
  refine (sect_Offset cs2 h.size h.headers A2 c2 h.sects 4097 w4 HC.out H4.out.row HSM.out (by omega) (by omega)).mono ?_
  rw [HOF2.out]
  rintro e w5 ⟨rfl, b5⟩
  have H5 := hid (H4.out.below b5)
  have U5 := hid (up_trans U4.out b5)
  have D5 := hid (up_trans D4.out b5)
  clear b5 H4
  go_wp2_with (refine wpList_load_row (by rfl) 32 (.tmp 2) (by rfl) w2.heap.size (by rfl) 32 cs2 (0, 0) _ H5.out.blk Try.underlying32 (by rfl) H5.out.info ?_)
  refine (sect_Offset cs2 h.size h.headers A2 c2 h.sects 4608 w5 HC.out H5.out.row HSM.out (by omega) (by omega)).mono ?_
  rw [HOF3.out]
  rintro e w6 ⟨rfl, b6⟩
  have H6 := hid (H5.out.below b6)
  have U6 := hid (up_trans U5.out b6)
  have D6 := hid (up_trans D5.out b6)
  clear b6 H5
  go_wp2_with (refine wpList_load_row (by rfl) 32 (.tmp 2) (by rfl) w2.heap.size (by rfl) 32 cs2 (0, 0) _ H6.out.blk Try.underlying32 (by rfl) H6.out.info ?_)
  have hla := sect_Lay cs2 h.size h.headers A2 c2 h.sects ⟨g1, 0, none⟩ p1 L w6 HC.out H6.out.row HSM.out (BS1.out.below D6.out) HB.out.1 HB.out.2.2.2.1
  rw [HNL.out] at hla
  refine hla.mono ?_
  rintro e w7 ⟨v7, rfl, o7, b7⟩
  have H7 := hid (H6.out.below b7)
  have U7 := hid (up_trans U6.out b7)
  obtain ⟨g7, p7, hv7, -, -, hbs7⟩ := o7.bs
  have hle7 := hbs7.le
  rw [HLAY.out.2] at hv7 hle7
  subst hv7
  have hsl := slice_h (P := Try.prog) 23 5 1 Try.underlying23 info_u8 (some ⟨g7, 0, none⟩) 8192 p7 .i64 2 2 rfl (by omega) hle7
  have hst : ∀ w', Below w7.heap.size w7 w' → (convert 23 9 (.slice (some ⟨g7, 0, none⟩) 2 p7)).run Try.prog w' = .ok (.string (S [77, 90])) w' := fun w' hb' => by
    refine run_str _ _ _ 5 Try.underlying23 Try.underlying5 Try.underlying9 _ _ _ [77, 90] rfl ?_
    have h1 := (hbs7.below hb').row.take 2
    rw [bcells, ← List.map_take, HLAY.out.1] at h1
    exact h1
  have HST := hid hst
  clear hla o7 b7 H6 hbs7 hst
  go_wp2_with fail
  refine (sect_Prot 1610612736 w7).mono ?_
  rintro e w' ⟨rfl, rfl⟩
  rw [show protF 1610612736 = 5 by decide]
  have hld := run_loadVar_row (P := Try.prog) w7 w2.heap.size 32 32 cs2 (0, 0) _ H7.out.blk Try.underlying32 (by rfl) H7.out.info
  go_wp2_with fail
  refine (sect_ProtAt cs2 h.size h.headers A2 c2 h.sects 0 w7 HC.out H7.out.row HSM.out (by omega) (by omega)).mono ?_
  rw [HPR.out]
  rintro e w8 ⟨rfl, b8⟩
  have hst := HST.out w8 b8
  have U8 := hid (up_trans U7.out b8)
  clear b8 hld
  have hS : ((S [77, 90]).toList == [77, 90]) = true := by rw [S_toList]; rfl
  go_wp2_with fail
  go_ret
  exact ⟨rfl, U8.out⟩
end Go.Proofs.Ytajcihcbgmpdjaa
