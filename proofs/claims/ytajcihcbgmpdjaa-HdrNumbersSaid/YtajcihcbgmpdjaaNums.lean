/- HdrNumbers, walked. -/
import Derived.Test.YtajcihcbgmpdjaaNumsP
import Derived.Test.YtajcihcbgmpdjaaSecRow
namespace Go.Proofs.Ytajcihcbgmpdjaa
open Go.RowKit

attribute [-go_sem] storeVar

theorem headV_at (base stamp chars entry size headers : Int) (d : Nat → Int) (v : Value) (k : Nat) (hk : k < 16) :
    (headV base stamp chars entry size headers d v)[6 + k * 2]? = some (.int .i64 (d (2 * k))) ∧ (headV base stamp chars entry size headers d v)[6 + k * 2 + 1]? = some (.int .i64 (d (2 * k + 1))) := by
  have : k = 0 ∨ k = 1 ∨ k = 2 ∨ k = 3 ∨ k = 4 ∨ k = 5 ∨ k = 6 ∨ k = 7 ∨ k = 8 ∨ k = 9 ∨ k = 10 ∨ k = 11 ∨ k = 12 ∨ k = 13 ∨ k = 14 ∨ k = 15 := by omega
  rcases this with rfl | rfl | rfl | rfl | rfl | rfl | rfl | rfl | rfl | rfl | rfl | rfl | rfl | rfl | rfl | rfl <;> exact ⟨rfl, rfl⟩

theorem low_u64 (x : Nat) (i : Nat) (hi : i ≤ 64) (hx : x < 18446744073709551616) : bits .and .u64 (x : Int) (2 ^ i - 1) = ((x % 2 ^ i : Nat) : Int) := by
  rw [bits_mask .u64 64 (by decide) (fun n h0 h1 => wrap_u64_id h0 (by omega)) i hi x (by omega) (by omega)]
  simp

theorem wf_u64' {n : Int} (h : (Lit.int .u64 n).wf = true) : ∃ k : Nat, n = k ∧ k < 18446744073709551616 := by
  simp [Lit.wf, IntKind.min, IntKind.max, IntKind.bits, IntKind.signed] at h
  exact ⟨n.toNat, by omega, by omega⟩

set_option maxRecDepth 100000 in
set_option maxHeartbeats 8000000 in
theorem walk_HdrNumbers (w : World) (a0 : Int) (h0 : (Lit.int .u64 a0).wf = true) (a1 : Int) (h1 : (Lit.int .u64 a1).wf = true) (a2 : Int) (h2 : (Lit.int .u64 a2).wf = true) (a3 : Int) (h3 : (Lit.int .i64 a3).wf = true) (a4 : Int) (h4 : (Lit.int .i64 a4).wf = true)
    (a5 : Int) (h5 : (Lit.int .u64 a5).wf = true) (a6 : Int) (h6 : (Lit.int .u64 a6).wf = true) :
    Calls Try.prog 8 #[.int .u64 a0, .int .u64 a1, .int .u64 a2, .int .i64 a3, .int .i64 a4, .int .u64 a5, .int .u64 a6] w fun e w' => e = .returned (.bool true) ∧ Below w.heap.size w w' := by
  obtain ⟨n1, rfl, b1⟩ := wf_u64' h1
  obtain ⟨n2, rfl, b2⟩ := wf_u64' h2
  obtain ⟨n5, rfl, b5⟩ := wf_u64' h5
  obtain ⟨n6, rfl, b6⟩ := wf_u64' h6
  have e0 : 0 ≤ bits .and .u64 a0 65535 ∧ bits .and .u64 a0 65535 ≤ 65535 := and_le_u64 a0 65535 (by omega)
  have e3 : 0 ≤ bits .and .i64 a3 8191 ∧ bits .and .i64 a3 8191 ≤ 8191 := and_le_i64 a3 8191 (by omega)
  have e4 : 0 ≤ bits .and .i64 a4 15 ∧ bits .and .i64 a4 15 ≤ 15 := and_le_i64 a4 15 (by omega)
  obtain ⟨q, hq⟩ := Int.eq_ofNat_of_zero_le e0.1
  obtain ⟨en, hen⟩ := Int.eq_ofNat_of_zero_le e3.1
  obtain ⟨k, hk⟩ := Int.eq_ofNat_of_zero_le e4.1
  have hq' : bits .and .u64 a0 65535 = (q : Int) := hq
  have hen' : bits .and .i64 a3 8191 = (en : Int) := hen
  have hk' : bits .and .i64 a4 15 = (k : Int) := hk
  have qb : q ≤ 65535 := by omega
  have enb : en ≤ 8191 := by omega
  have kb : k < 16 := by omega
  have m1 : bits .and .u64 (n1 : Int) 4294967295 = ((n1 % 4294967296 : Nat) : Int) := low_u64 n1 32 (by omega) b1
  have m2 : bits .and .u64 (n2 : Int) 65535 = ((n2 % 65536 : Nat) : Int) := low_u64 n2 16 (by omega) b2
  have m5 : bits .and .u64 (n5 : Int) 4294967295 = ((n5 % 4294967296 : Nat) : Int) := low_u64 n5 32 (by omega) b5
  have m6 : bits .and .u64 (n6 : Int) 4294967295 = ((n6 % 4294967296 : Nat) : Int) := low_u64 n6 32 (by omega) b6
  obtain ⟨k1, hk1⟩ : ∃ x, n1 % 4294967296 = x := ⟨_, rfl⟩
  obtain ⟨k2, hk2⟩ : ∃ x, n2 % 65536 = x := ⟨_, rfl⟩
  obtain ⟨k5, hk5⟩ : ∃ x, n5 % 4294967296 = x := ⟨_, rfl⟩
  obtain ⟨k6, hk6⟩ : ∃ x, n6 % 4294967296 = x := ⟨_, rfl⟩
  rw [hk1] at m1
  rw [hk2] at m2
  rw [hk5] at m5
  rw [hk6] at m6
  obtain ⟨h, s, hp, g1, g2, g3, g4, g5, g6, g7, g8⟩ := parse_nums6 (q * 65536 + 65536) n1 n2 en k n5 n6 kb (by omega) (by omega) (by omega) (by omega)
  rw [hk1] at g2
  rw [hk2] at g3
  rw [hk5] at g5
  rw [hk6] at g6
  obtain ⟨hM, hMl⟩ := madeF_L []
  have hsll := secsLen_le (sectsOf [])
  have hs6 := (sectsOf_length []).2
  obtain ⟨M, hMe⟩ : ∃ M, madeF [] [] = M := ⟨_, rfl⟩
  rw [hMe] at hp hMl hM
  obtain ⟨N, hN⟩ : ∃ N, M.length = N := ⟨_, rfl⟩
  have hNb : 1024 ≤ N ∧ N ≤ 60000 := by have := hM.len; omega
  obtain ⟨nb1, nb2⟩ := hNb
  have kb1 : k1 < 4294967296 := by omega
  have kb2 : k2 < 65536 := by omega
  have kb5 : k5 < 4294967296 := by omega
  have kb6 : k6 < 4294967296 := by omega
  have HP := hid hp
  have G := hid (⟨g1, g2, g3, g4, g5, g6, g7, g8⟩ : h.base = q * 65536 + 65536 ∧ h.stamp = k1 ∧ h.chars = k2 ∧ h.entry = en ∧ h.d (2 * k) = k5 ∧ h.d (2 * k + 1) = k6 ∧ h.sects = [s] ∧ s.name = [115, 48])
  have HMe := hid hMe
  have L0 := hid hN
  clear h0 h1 h2 h3 h4 h5 h6 e0 e3 e4 hq hen hk hk1 hk2 hk5 hk6 hp g1 g2 g3 g4 g5 g6 g7 g8 hM hMl hsll hs6 hMe hN
  go_enter Try.func8, Try.ntmps8
  go_wp2_with fail
  refine (law_Made none 0 [] none 0 [] _ (Trip.none _) (Trip.none _) (by simp)).mono ?_
  rw [HMe.out]
  rintro e x0 ⟨v0, rfl, o0, b0⟩
  have O0 := hid o0
  have U0 := hid b0
  skip
  clear o0 b0
  go_wp2_with fail
  -- PUTS
  refine (law_putO _ _ _ 112 8 ((q : Int) * 65536 + 65536) _ O0.out (by rw [L0.out]; omega) (by omega) (by omega) (by omega) (by omega) (by omega) (by omega)).mono ?_
  rintro e x1 ⟨y1, rfl, o1, b1⟩
  obtain ⟨m1, hm1⟩ : ∃ m, m = putF M 112 8 (q * 65536 + 65536) := ⟨_, rfl⟩
  have E1 := hid hm1
  have L1 : Hid (m1.length = N) := by rw [hm1, putF_length]; exact L0.out
  have U1 := hid (up_trans U0.out b1)
  have O1 : Hid (OwnB x1 w.heap.size y1 m1) := by
    rw [hm1]
    have e1 : ((112 : Int)).toNat = 112 := by omega
    have e2 : ((((q : Int) * 65536 + 65536) : Int)).toNat = (q * 65536 + 65536) := by omega
    rw [e1, e2] at o1
    exact o1.mono U0.out.size
  clear o1 b1 hm1
  go_wp2_with fail
  refine (law_putO _ _ _ 72 4 (n1 : Int) _ O1.out (by rw [L1.out]; omega) (by omega) (by omega) (by omega) (by omega) (by omega) (by omega)).mono ?_
  rintro e x2 ⟨y2, rfl, o2, b2⟩
  obtain ⟨m2, hm2⟩ : ∃ m, m = putF m1 72 4 n1 := ⟨_, rfl⟩
  have E2 := hid hm2
  have L2 : Hid (m2.length = N) := by rw [hm2, putF_length]; exact L1.out
  have U2 := hid (up_trans U1.out b2)
  have O2 : Hid (OwnB x2 w.heap.size y2 m2) := by
    rw [hm2]
    have e1 : ((72 : Int)).toNat = 72 := by omega
    have e2 : (((n1 : Int) : Int)).toNat = n1 := by omega
    rw [e1, e2] at o2
    exact o2.mono U1.out.size
  clear o2 b2 hm2
  go_wp2_with fail
  refine (law_putO _ _ _ 86 2 (n2 : Int) _ O2.out (by rw [L2.out]; omega) (by omega) (by omega) (by omega) (by omega) (by omega) (by omega)).mono ?_
  rintro e x3 ⟨y3, rfl, o3, b3⟩
  obtain ⟨m3, hm3⟩ : ∃ m, m = putF m2 86 2 n2 := ⟨_, rfl⟩
  have E3 := hid hm3
  have L3 : Hid (m3.length = N) := by rw [hm3, putF_length]; exact L2.out
  have U3 := hid (up_trans U2.out b3)
  have O3 : Hid (OwnB x3 w.heap.size y3 m3) := by
    rw [hm3]
    have e1 : ((86 : Int)).toNat = 86 := by omega
    have e2 : (((n2 : Int) : Int)).toNat = n2 := by omega
    rw [e1, e2] at o3
    exact o3.mono U2.out.size
  clear o3 b3 hm3
  go_wp2_with fail
  refine (law_putO _ _ _ 104 4 (en : Int) _ O3.out (by rw [L3.out]; omega) (by omega) (by omega) (by omega) (by omega) (by omega) (by omega)).mono ?_
  rintro e x4 ⟨y4, rfl, o4, b4⟩
  obtain ⟨m4, hm4⟩ : ∃ m, m = putF m3 104 4 en := ⟨_, rfl⟩
  have E4 := hid hm4
  have L4 : Hid (m4.length = N) := by rw [hm4, putF_length]; exact L3.out
  have U4 := hid (up_trans U3.out b4)
  have O4 : Hid (OwnB x4 w.heap.size y4 m4) := by
    rw [hm4]
    have e1 : ((104 : Int)).toNat = 104 := by omega
    have e2 : (((en : Int) : Int)).toNat = en := by omega
    rw [e1, e2] at o4
    exact o4.mono U3.out.size
  clear o4 b4 hm4
  go_wp2_with fail
  refine (law_putO _ _ _ (200 + 8 * (k : Int)) 4 (n5 : Int) _ O4.out (by rw [L4.out]; omega) (by omega) (by omega) (by omega) (by omega) (by omega) (by omega)).mono ?_
  rintro e x5 ⟨y5, rfl, o5, b5⟩
  obtain ⟨m5, hm5⟩ : ∃ m, m = putF m4 (200 + 8 * k) 4 n5 := ⟨_, rfl⟩
  have E5 := hid hm5
  have L5 : Hid (m5.length = N) := by rw [hm5, putF_length]; exact L4.out
  have U5 := hid (up_trans U4.out b5)
  have O5 : Hid (OwnB x5 w.heap.size y5 m5) := by
    rw [hm5]
    have e1 : (((200 + 8 * (k : Int)) : Int)).toNat = (200 + 8 * k) := by omega
    have e2 : (((n5 : Int) : Int)).toNat = n5 := by omega
    rw [e1, e2] at o5
    exact o5.mono U4.out.size
  clear o5 b5 hm5
  go_wp2_with fail
  refine (law_putO _ _ _ (204 + 8 * (k : Int)) 4 (n6 : Int) _ O5.out (by rw [L5.out]; omega) (by omega) (by omega) (by omega) (by omega) (by omega) (by omega)).mono ?_
  rintro e x6 ⟨y6, rfl, o6, b6⟩
  obtain ⟨m6, hm6⟩ : ∃ m, m = putF m5 (204 + 8 * k) 4 n6 := ⟨_, rfl⟩
  have E6 := hid hm6
  have L6 : Hid (m6.length = N) := by rw [hm6, putF_length]; exact L5.out
  have U6 := hid (up_trans U5.out b6)
  have O6 : Hid (OwnB x6 w.heap.size y6 m6) := by
    rw [hm6]
    have e1 : (((204 + 8 * (k : Int)) : Int)).toNat = (204 + 8 * k) := by omega
    have e2 : (((n6 : Int) : Int)).toNat = n6 := by omega
    rw [e1, e2] at o6
    exact o6.mono U5.out.size
  clear o6 b6 hm6
  go_wp2_with fail
  -- PUTS END
  have hfin : m6 = nums6 M (q * 65536 + 65536) n1 n2 en k n5 n6 := by rw [E6.out, E5.out, E4.out, E3.out, E2.out, E1.out]; rfl
  have hpp := parse_own x6 _ y6 _ O6.out
  rw [hfin, HP.out] at hpp
  refine hpp.mono ?_
  clear hpp hfin
  rintro e w7 ⟨b7, v7, rfl, o7⟩
  have U7 := hid (up_trans U6.out b7)
  obtain ⟨A7, c7, rfl, -, r7⟩ := own_row o7
  have R7 := hid r7
  obtain ⟨cs7, hcs7⟩ : ∃ cs, headV h.base h.stamp h.chars h.entry h.size h.headers (fun k => h.d k) (.slice A7 h.sects.length c7) = cs := ⟨_, rfl⟩
  rw [show h.val (.slice A7 h.sects.length c7) = .agg cs7 by rw [HeadD.val, hcs7]]
  have HS7 : Hid (cs7.size = 39) := by rw [← hcs7]; exact headV_size _ _ _ _ _ _ _ _
  have HO7 : Hid (cs7.all (·.oneCell') = true) := by rw [← hcs7]; exact headV_one _ _ _ _ _ _ _ _ rfl
  have HCS7 := hid hcs7
  have D7 := hid b7
  clear b7 o7 r7 hcs7
  have c0 : cs7[0]? = some (.int .u64 ((q : Int) * 65536 + 65536)) := by rw [← HCS7.out, G.out.1]; exact congrArg (fun x => some (Value.int .u64 x)) (by omega)
  have c1 : cs7[1]? = some (.int .i64 k1) := by rw [← HCS7.out, G.out.2.1]; rfl
  have c2 : cs7[2]? = some (.int .i64 k2) := by rw [← HCS7.out, G.out.2.2.1]; rfl
  have c3 : cs7[3]? = some (.int .i64 en) := by rw [← HCS7.out, G.out.2.2.2.1]; rfl
  have c38 : cs7[38]? = some (.slice A7 1 c7) := by rw [← HCS7.out, G.out.2.2.2.2.2.2.1]; rfl
  have hd := headV_at h.base h.stamp h.chars h.entry h.size h.headers (fun k => (h.d k : Int)) (.slice A7 h.sects.length c7) k kb
  rw [HCS7.out] at hd
  have cd0 : cs7[6 + k * 2]? = some (.int .i64 k5) := by rw [hd.1]; exact congrArg (fun x : Nat => some (Value.int .i64 (x : Int))) G.out.2.2.2.2.1
  have cd1 : cs7[6 + k * 2 + 1]? = some (.int .i64 k6) := by rw [hd.2]; exact congrArg (fun x : Nat => some (Value.int .i64 (x : Int))) G.out.2.2.2.2.2.1
  have hsec : h.sects[0]? = some s := by rw [G.out.2.2.2.2.2.2.1]; rfl
  obtain ⟨ads, hA7⟩ := R7.out.sect_ad (j := 0) (by rw [G.out.2.2.2.2.2.2.1]; simp)
  subst hA7
  have HD := hid (⟨c0, c1, c2, c3, c38, cd0, cd1⟩ : cs7[0]? = some (.int .u64 ((q : Int) * 65536 + 65536)) ∧ cs7[1]? = some (.int .i64 k1) ∧ cs7[2]? = some (.int .i64 k2) ∧ cs7[3]? = some (.int .i64 en) ∧ cs7[38]? = some (.slice (some ads) 1 c7) ∧ cs7[6 + k * 2]? = some (.int .i64 k5) ∧ cs7[6 + k * 2 + 1]? = some (.int .i64 k6))
  have HSEC := hid hsec
  have hnm : ((S [115, 48]).toList == [115, 48]) = true := by rw [S_toList]; rfl
  clear c0 c1 c2 c3 c38 cd0 cd1 hd hsec
  go_wp2_with (refine wpList_store_row (by rfl) 32 (.tmp 17) (.tmp 56) (by rfl) w7.heap.size cs7 (by rfl) (by rfl) 32 headZ (Blk.new _ _ _) (by rw [HS7.out]; exact headInfo) (by rw [HS7.out]; rfl) HO7.out ?_; obtain ⟨w8, hw8⟩ : ∃ w8, w8 = (w7.alloc (.cells headZ 32)).setRow w7.heap.size cs7 := ⟨_, rfl⟩; have B8 : Hid (Blk w8 w7.heap.size cs7 32) := hw8 ▸ (Blk.new w7 headZ 32).setRow cs7; have U8 := hid (show Below w.heap.size w w8 from hw8 ▸ below_setRow (up_alloc U7.out _) _ U7.out.size _); have V8 := hid (show Below w7.heap.size w7 w8 from hw8 ▸ below_setRow (up_alloc (up_refl _) _) _ (Nat.le_refl _) _); rw [show (w7.alloc (.cells #[.int .u64 0, .int .i64 0, .int .i64 0, .int .i64 0, .int .i64 0, .int .i64 0, .int .i64 0, .int .i64 0, .int .i64 0, .int .i64 0, .int .i64 0, .int .i64 0, .int .i64 0, .int .i64 0, .int .i64 0, .int .i64 0, .int .i64 0, .int .i64 0, .int .i64 0, .int .i64 0, .int .i64 0, .int .i64 0, .int .i64 0, .int .i64 0, .int .i64 0, .int .i64 0, .int .i64 0, .int .i64 0, .int .i64 0, .int .i64 0, .int .i64 0, .int .i64 0, .int .i64 0, .int .i64 0, .int .i64 0, .int .i64 0, .int .i64 0, .int .i64 0, .slice none 0 0] 32)).setRow w7.heap.size cs7 = w8 from hw8.symm]; clear hw8; have z0 := (B8.out.cell 0).trans HD.out.1; have z1 := (B8.out.cell 1).trans HD.out.2.1; have z2 := (B8.out.cell 2).trans HD.out.2.2.1; have z3 := (B8.out.cell 3).trans HD.out.2.2.2.1; have z38 := (B8.out.cell 38).trans HD.out.2.2.2.2.1; have zd0 := (B8.out.cell (6 + k * 2)).trans HD.out.2.2.2.2.2.1; have zd1 := (B8.out.cell (6 + k * 2 + 1)).trans HD.out.2.2.2.2.2.2; obtain ⟨zs, -, -, -, -, -, -⟩ := (R7.out.below V8.out).sect HSEC.out; rw [Nat.zero_mul, G.out.2.2.2.2.2.2.2] at zs; have zs' : w8.cell? ads = some (.string (S [115, 48])) := zs; clear zs)
  refine (law_awake w8).mono ?_
  rintro e w9 ⟨rfl, hb⟩
  have HB := hid hb
  clear hb
  go_wp2_with fail
  go_ret
  exact ⟨rfl, up_trans U8.out HB.out⟩
end Go.Proofs.Ytajcihcbgmpdjaa
