/- HdrCuts, walked. -/
import Derived.Test.YtajcihcbgmpdjaaCutsP
namespace Go.Proofs.Ytajcihcbgmpdjaa
open Go.RowKit

attribute [-go_sem] storeVar

set_option maxRecDepth 100000 in
set_option maxHeartbeats 8000000 in
theorem walk_HdrCuts (w : World) (A : Option Addr) (c : Nat) (xs : List (Int × Int × Int)) (ht : Trip w A xs.length c (tcells xs)) (cut : Int) (wcut : (Lit.int .i64 cut).wf = true)
    (B : Option Addr) (d : Nat) (more : List UInt8) (hm0 : Bs w B d more) (hm1 : more.length ≤ 140737488351232) :
    Calls Try.prog 3 #[.slice A xs.length c, .int .i64 cut, .slice B more.length d] w fun e w' => e = .returned (.bool true) ∧ Below w.heap.size w w' := by
  by_cases h300 : 300 < more.length
  · have d0 : decide ((300 : Int) < (more.length : Int)) = true := by simp; omega
    clear ht wcut hm0 hm1
    go_enter Try.func3, Try.ntmps3
    go_wp2_with fail
    refine (law_awake _).mono ?_
    rintro e w' ⟨rfl, hb⟩
    have HB := hid hb
    clear hb
    go_wp2_with fail
    go_ret
    exact ⟨rfl, HB.out⟩
  · obtain ⟨h, hp, hm⟩ := parse_madeF xs
    obtain ⟨hL, hLl⟩ := madeF_L xs
    obtain ⟨zo, zi⟩ := sectsOf_length xs
    obtain ⟨zs, hz⟩ : ∃ zs, sectsOf xs = zs := ⟨_, rfl⟩
    obtain ⟨L, hLe⟩ : ∃ L, madeF xs [] = L := ⟨_, rfl⟩
    rw [hz] at hm zo zi hL hLl
    rw [hLe] at hp hL hLl
    have hslen := secsLen_le zs
    obtain ⟨sl, hsl⟩ : ∃ s, secsLen zs = s := ⟨_, rfl⟩
    obtain ⟨h2, hp2, hm2⟩ := (parse_madeL (hL.append more)).1 (.inl (by rw [List.length_append, hLl]; omega))
    rw [hsl] at hLl hslen
    have hs4 : h2.size = h.size := by rw [hm.size, hm2.size]
    have hs5 : h.headers = 1024 := hm.headers
    have hn1 : h.sects.length = zs.length := by rw [hm.sects, secsD_length]
    have hn2 : h2.sects.length = zs.length := by rw [hm2.sects, secsD_length]
    have hlf : LeftF h.sects zs (1024 + sl) 0 1024 := by rw [hm.sects, ← hsl]; exact LeftF.zero zs
    obtain ⟨n, hn⟩ : ∃ n, zs.length = n := ⟨_, rfl⟩
    rw [hn] at hn1 hn2 zo zi hslen
    obtain ⟨N, hN⟩ : ∃ N, L.length = N := ⟨_, rfl⟩
    rw [hN] at hLl
    have hN1 : 1024 ≤ N ∧ N ≤ 60000 := by omega
    obtain ⟨hN1, hN2⟩ := hN1
    have a0 : 0 ≤ bits .and .i64 cut 65535 ∧ bits .and .i64 cut 65535 ≤ 65535 := and_le_i64 cut 65535 (by omega)
    obtain ⟨q, hq⟩ := Int.eq_ofNat_of_zero_le a0.1
    have hq1 : q ≤ 65535 := by omega
    obtain ⟨k, hk⟩ : ∃ k : Nat, (q : Int) % (N : Int) = (k : Int) := ⟨q % N, by simp⟩
    have hkN : k < N := by
      have := Int.emod_lt_of_pos (q : Int) (show (0 : Int) < (N : Int) by omega)
      omega
    obtain ⟨ce, hce, hcut⟩ := cut_none L zs hL (by rw [hsl]; omega) k (by omega)
    have dce : (ce == 0) = false := by rw [beq_eq_false_iff_ne]; exact hce
    have d0 : decide ((300 : Int) < (more.length : Int)) = false := by simp; omega
    have HP := hid hp
    have HP2 := hid hp2
    have HCUT := hid hcut
    have HS4 := hid hs4
    have HS5 := hid hs5
    have HN1 := hid hn1
    have HN2 := hid hn2
    have HN := hid hn
    have HNL := hid hN
    have HLF := hid hlf
    have HLl := hid hLl
    have HLe := hid hLe
    have HMore := hid hm0
    have HT := hid ht
    have HQ := hid hq
    have mlen : more.length ≤ 300 := by omega
    obtain ⟨size, hsize⟩ : ∃ s, h.size = s := ⟨_, rfl⟩
    have HSIZE := hid hsize
    clear hp hp2 hcut hs4 hs5 hn1 hn2 hn hN hlf hLl hLe hm0 hm ht hm2 hL hsl hz hce a0 hq wcut hslen hsize
    have e1 := HQ.out
    go_enter Try.func3, Try.ntmps3
    go_wp2_with fail
    refine (law_Made A c xs none 0 [] w HT.out (Trip.none _) (by simp)).mono ?_
    rw [HLe.out]
    rintro e w1 ⟨v1, rfl, o1, b1⟩
    obtain ⟨g1, p1, hv1, hg1, hlt1, hbs1⟩ := o1.bs
    have hpz := hdr_Parse _ _ L w1 hbs1
    rw [HNL.out, HP.out] at hpz
    rw [HNL.out] at hv1
    subst hv1
    have BS1 := hid hbs1
    have HPZ := hid hpz
    have U1 := hid b1
    have hp1 : N ≤ p1 := by have := hbs1.le; rw [HNL.out] at this; exact this
    have hsl := slice_h (P := Try.prog) 23 5 1 Try.underlying23 info_u8 (some ⟨g1, 0, none⟩) N p1 .i64 (k : Int) k rfl (by omega) hp1
    clear o1 b1 hbs1 hpz hg1 hlt1
    go_wp2_with fail
    refine HPZ.out.mono ?_
    rintro e w2 ⟨b2, v2, rfl, o2⟩
    have U2 := hid (up_trans U1.out b2)
    obtain ⟨A2, c2, rfl, -, r2⟩ := own_row o2
    have R2 := hid r2
    obtain ⟨cs2, hcs2⟩ : ∃ cs, headV h.base h.stamp h.chars h.entry h.size h.headers (fun k => h.d k) (.slice A2 h.sects.length c2) = cs := ⟨_, rfl⟩
    rw [show h.val (.slice A2 h.sects.length c2) = .agg cs2 by rw [HeadD.val, hcs2]]
    have HS2 : Hid (cs2.size = 39) := by rw [← hcs2]; exact headV_size _ _ _ _ _ _ _ _
    have HO2 : Hid (cs2.all (·.oneCell') = true) := by rw [← hcs2]; exact headV_one _ _ _ _ _ _ _ _ rfl
    have HCS2 := hid hcs2
    have D2 := hid b2
    clear b2 o2 r2 hcs2
    have c4 : cs2[4]? = some (.int .i64 size) := by rw [← HCS2.out, HSIZE.out]; rfl
    have c5 : cs2[5]? = some (.int .i64 1024) := by rw [← HCS2.out, HS5.out]; rfl
    have c38 : cs2[38]? = some (.slice A2 n c2) := by rw [← HCS2.out, HN1.out]; rfl
    go_wp2_with (first | (refine wpList_store_row (by rfl) 32 (.tmp 8) (.tmp 26) (by rfl) w2.heap.size cs2 (by rfl) (by rfl) 32 headZ (Blk.new _ _ _) (by rw [HS2.out]; exact headInfo) (by rw [HS2.out]; rfl) HO2.out ?_; obtain ⟨w3, hw3⟩ : ∃ w3, w3 = (w2.alloc (.cells headZ 32)).setRow w2.heap.size cs2 := ⟨_, rfl⟩; have B3 : Hid (Blk w3 w2.heap.size cs2 32) := hw3 ▸ (Blk.new w2 headZ 32).setRow cs2; have U3 := hid (show Below w.heap.size w w3 from hw3 ▸ below_setRow (up_alloc U2.out _) _ U2.out.size _); have V3 := hid (show Below w2.heap.size w2 w3 from hw3 ▸ below_setRow (up_alloc (up_refl _) _) _ (Nat.le_refl _) _); rw [show (w2.alloc (.cells #[.int .u64 0, .int .i64 0, .int .i64 0, .int .i64 0, .int .i64 0, .int .i64 0, .int .i64 0, .int .i64 0, .int .i64 0, .int .i64 0, .int .i64 0, .int .i64 0, .int .i64 0, .int .i64 0, .int .i64 0, .int .i64 0, .int .i64 0, .int .i64 0, .int .i64 0, .int .i64 0, .int .i64 0, .int .i64 0, .int .i64 0, .int .i64 0, .int .i64 0, .int .i64 0, .int .i64 0, .int .i64 0, .int .i64 0, .int .i64 0, .int .i64 0, .int .i64 0, .int .i64 0, .int .i64 0, .int .i64 0, .int .i64 0, .int .i64 0, .int .i64 0, .slice none 0 0] 32)).setRow w2.heap.size cs2 = w3 from hw3.symm]; clear hw3; have D3 := hid (up_trans D2.out V3.out)) | (refine wp_appBs (by rfl) (.tmp 31) (.tmp 32) (by rfl) w3.heap.size (.slice (some ⟨w3.heap.size, 0, none⟩) 0 0) [] L (some ⟨g1, 0, none⟩) p1 (by rfl) (ownB_empty w3) (by rw [HNL.out]; rfl) (BS1.out.below (up_alloc D3.out _)) (by rw [HNL.out]; simp; omega) (by simp) ?_; intro v5 w5 o5 b5; have D5 := hid (D3.out.trans ((b5 w3 (up_alloc (up_refl _) _)).mono D3.out.size)); have X5 := hid (b5 w3 (up_alloc (up_refl _) _))) | (refine wp_appBs (by rfl) (.tmp 33) (.tmp 34) (by rfl) w3.heap.size v5 ([] ++ L) more B d (by rfl) o5 (by rfl) (HMore.out.below (up_trans U1.out D5.out)) (by rw [List.nil_append, HNL.out]; omega) X5.out.size ?_; intro v6 w6 o6 b6; have X6 := hid (b6 w3 X5.out); have O6 := hid o6; clear o6 b6 o5 b5))
    have C := hid (⟨c4, c5, c38⟩ : cs2[4]? = some (.int .i64 size) ∧ cs2[5]? = some (.int .i64 1024) ∧ cs2[38]? = some (.slice A2 n c2))
    have D6 := hid (D3.out.trans (X6.out.mono D3.out.size))
    have U6 := hid (up_trans U1.out D6.out)
    have B6 := hid (B3.out.below X6.out)
    have R6 := hid ((R2.out.below V3.out).below X6.out)
    clear c4 c5 c38 B3 R2 X5 D5
    refine (parse_own w6 _ v6 _ O6.out).mono ?_
    rw [List.nil_append, HP2.out]
    rintro e w7 ⟨b7, v7, rfl, o7⟩
    have U7 := hid (up_trans U6.out b7)
    obtain ⟨A7, c7, rfl, -, r7⟩ := own_row o7
    have R7 := hid r7
    obtain ⟨cs7, hcs7⟩ : ∃ cs, headV h2.base h2.stamp h2.chars h2.entry h2.size h2.headers (fun k => h2.d k) (.slice A7 h2.sects.length c7) = cs := ⟨_, rfl⟩
    rw [show h2.val (.slice A7 h2.sects.length c7) = .agg cs7 by rw [HeadD.val, hcs7]]
    have HS7 : Hid (cs7.size = 39) := by rw [← hcs7]; exact headV_size _ _ _ _ _ _ _ _
    have HO7 : Hid (cs7.all (·.oneCell') = true) := by rw [← hcs7]; exact headV_one _ _ _ _ _ _ _ _ rfl
    have HCS7 := hid hcs7
    have D7 := hid b7
    clear b7 o7 r7 hcs7
    have e4 : cs7[4]? = some (.int .i64 size) := by rw [← HCS7.out, HS4.out, HSIZE.out]; rfl
    have e38 : cs7[38]? = some (.slice A7 n c7) := by rw [← HCS7.out, HN2.out]; rfl
    go_wp2_with (refine wpList_store_row (by rfl) 32 (.tmp 10) (.tmp 37) (by rfl) w7.heap.size cs7 (by rfl) (by rfl) 32 headZ (Blk.new _ _ _) (by rw [HS7.out]; exact headInfo) (by rw [HS7.out]; rfl) HO7.out ?_; obtain ⟨w8, hw8⟩ : ∃ w8, w8 = (w7.alloc (.cells headZ 32)).setRow w7.heap.size cs7 := ⟨_, rfl⟩; have B8 : Hid (Blk w8 w7.heap.size cs7 32) := hw8 ▸ (Blk.new w7 headZ 32).setRow cs7; have U8 := hid (show Below w.heap.size w w8 from hw8 ▸ below_setRow (up_alloc U7.out _) _ U7.out.size _); have V8 := hid (show Below w7.heap.size w7 w8 from hw8 ▸ below_setRow (up_alloc (up_refl _) _) _ (Nat.le_refl _) _); rw [show (w7.alloc (.cells #[.int .u64 0, .int .i64 0, .int .i64 0, .int .i64 0, .int .i64 0, .int .i64 0, .int .i64 0, .int .i64 0, .int .i64 0, .int .i64 0, .int .i64 0, .int .i64 0, .int .i64 0, .int .i64 0, .int .i64 0, .int .i64 0, .int .i64 0, .int .i64 0, .int .i64 0, .int .i64 0, .int .i64 0, .int .i64 0, .int .i64 0, .int .i64 0, .int .i64 0, .int .i64 0, .int .i64 0, .int .i64 0, .int .i64 0, .int .i64 0, .int .i64 0, .int .i64 0, .int .i64 0, .int .i64 0, .int .i64 0, .int .i64 0, .int .i64 0, .int .i64 0, .slice none 0 0] 32)).setRow w7.heap.size cs7 = w8 from hw8.symm]; clear hw8; have Y8 := hid (up_trans D7.out V8.out); have B68 := hid (B6.out.below Y8.out); have r4 := (B68.out.cell 4).trans C.out.1; have r5 := (B68.out.cell 5).trans C.out.2.1; have r38 := (B68.out.cell 38).trans C.out.2.2; have t4 := (B8.out.cell 4).trans e4; have t38 := (B8.out.cell 38).trans e38)
    have hltk : (L.take k).length = k := by rw [List.length_take, HNL.out]; omega
    have hbs8 : Bs w8 (some ⟨g1, 0, none⟩) p1 (L.take k) := by
      have hb := BS1.out.below (D6.out.trans (Y8.out.mono D6.out.size))
      refine ⟨?_, by omega, by omega⟩
      have := hb.row.take k
      rwa [bcells, ← List.map_take] at this
    have hpc := hdr_Parse (some ⟨g1, 0, none⟩) p1 (L.take k) w8 hbs8
    rw [hltk, HCUT.out] at hpc
    have HPC := hid hpc
    clear hltk hbs8 hpc
    refine HPC.out.mono ?_
    rintro e w9 ⟨b9, rfl⟩
    have U9 := hid (up_trans U8.out b9)
    have Z9 := hid b9
    have U9' := U9
    clear b9 r4 r5 r38 t4 t38
    go_wp2_with (refine wpList_store_row (by rfl) 32 (.tmp 13) (.tmp 67) (by rfl) w9.heap.size headZ (by rfl) (by rfl) 32 headZ (Blk.new _ _ _) headInfo (by rfl) (headV_one _ _ _ _ _ _ _ _ rfl) ?_; obtain ⟨w10, hw10⟩ : ∃ w10, w10 = (w9.alloc (.cells headZ 32)).setRow w9.heap.size headZ := ⟨_, rfl⟩; have B10 : Hid (Blk w10 w9.heap.size headZ 32) := hw10 ▸ (Blk.new w9 headZ 32).setRow headZ; have U10 := hid (show Below w.heap.size w w10 from hw10 ▸ below_setRow (up_alloc U9.out _) _ U9.out.size _); have V10 := hid (show Below w9.heap.size w9 w10 from hw10 ▸ below_setRow (up_alloc (up_refl _) _) _ (Nat.le_refl _) _); rw [show (w9.alloc (.cells #[.int .u64 0, .int .i64 0, .int .i64 0, .int .i64 0, .int .i64 0, .int .i64 0, .int .i64 0, .int .i64 0, .int .i64 0, .int .i64 0, .int .i64 0, .int .i64 0, .int .i64 0, .int .i64 0, .int .i64 0, .int .i64 0, .int .i64 0, .int .i64 0, .int .i64 0, .int .i64 0, .int .i64 0, .int .i64 0, .int .i64 0, .int .i64 0, .int .i64 0, .int .i64 0, .int .i64 0, .int .i64 0, .int .i64 0, .int .i64 0, .int .i64 0, .int .i64 0, .int .i64 0, .int .i64 0, .int .i64 0, .int .i64 0, .int .i64 0, .int .i64 0, .slice none 0 0] 32)).setRow w9.heap.size headZ = w10 from hw10.symm]; clear hw10; have B10s := hid ((B68.out.below Z9.out).below V10.out); have R10 := hid (((R6.out.below Y8.out).below Z9.out).below V10.out); have r5 := (B10s.out.cell 5).trans C.out.2.1; have r38 := (B10s.out.cell 38).trans C.out.2.2)
    go_loopg [15, 16] n (fun g a i wr => ∃ (j pt en : Nat), i = .int .i64 j ∧ a = .int .i64 en ∧ j + g = n ∧ Hid (LeftF h.sects zs (1024 + sl) j pt) ∧ pt ≤ en ∧ en ≤ 1024 + 8191 * j ∧ ∃ nd, wr = w10.drewN nd)
    case atStart => exact ⟨0, 1024, 1024, rfl, rfl, by omega, HLF, by omega, by omega, 0, rfl⟩
    case round =>
      obtain ⟨j, pt, en, rfl, rfl, hjg, hL, hpe, hen, nd, rfl⟩ := hrel
      rcases gk with _ | m
      · have hjn : ((j : Int) < (n : Int)) = False := by simp; omega
        have hpt := hL.out.last (by have := HN.out; omega)
        have hkN2 : k < en := by have := HLl.out; omega
        have hkq : q % N = k := by omega
        have f1 : decide (en ≤ k) = false := by simp; omega
        have f2 : decide ((en : Int) ≤ (k : Int)) = false := by simp; omega
        have f3 : decide ((en : Int) ≤ (q : Int) % (N : Int)) = false := by rw [hk]; exact f2
        have f4 : decide (en ≤ q % N) = false := by rw [hkq]; exact f1
        clear hpt hL hkq
        go_wp2_with fail
        refine (law_awake _).mono ?_
        rintro e w' ⟨rfl, hb⟩
        have HB := hid hb
        clear hb
        go_wp2_with fail
        go_ret
        exact ⟨rfl, up_trans (up_drewN U10.out nd) HB.out⟩
      · have hjn : ((j : Int) < (n : Int)) = True := by simp; omega
        obtain ⟨ad, rfl⟩ := R10.out.sect_ad (j := j) (by have := HN1.out; omega)
        obtain ⟨s, hs, hsp, hraw, hL2⟩ := hL.out.next (by have := HN.out; omega)
        obtain ⟨-, -, -, k3, k4, -, -⟩ := R10.out.sect hs
        rw [hsp] at k4
        have HL2 := hid hL2
        clear hL hL2 hs hsp
        by_cases h0 : 0 < s.raw
        · have h0i : (0 : Int) < (s.raw : Int) := by omega
          have k1 : IntKind.i64.wrap ((pt : Int) + (s.raw : Int)) = (pt : Int) + (s.raw : Int) := wrap_i64_id (by omega) (by omega)
          obtain ⟨mx, hmx⟩ : ∃ mx, max en (pt + s.raw) = mx := ⟨_, rfl⟩
          have hmi : max (en : Int) ((pt : Int) + (s.raw : Int)) = (mx : Int) := by omega
          go_wp2_with fail
          go_quiet (fail)
          go_wp2_with fail
          go_roundg m
          case measure => omega
          case rel => exact ⟨j + 1, pt + s.raw, mx, by go_num, rfl, by omega, HL2, by omega, by omega, _, rfl⟩
        · have h0i : ¬ (0 : Int) < (s.raw : Int) := by omega
          go_wp2_with fail
          go_roundg m
          case measure => omega
          case rel => exact ⟨j + 1, pt + s.raw, en, by go_num, rfl, by omega, HL2, by omega, by omega, _, rfl⟩
end Go.Proofs.Ytajcihcbgmpdjaa
