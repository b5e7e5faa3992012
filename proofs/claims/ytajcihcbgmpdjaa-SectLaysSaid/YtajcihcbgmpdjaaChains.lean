/- HdrChains, walked. -/
import Derived.Test.YtajcihcbgmpdjaaSecRow
namespace Go.Proofs.Ytajcihcbgmpdjaa
open Go.RowKit

attribute [-go_sem] storeVar

/-- What is left of the sections behind some of them. -/
def Left (xs : List SectD) (zs : List (Int × Int × Int)) (size j rva : Nat) : Prop := ∃ pt, xs.drop j = secsD (zs.drop j) j rva pt ∧ secsEnd (zs.drop j) rva = size ∧ rva ≤ 4096 + 20480 * j

theorem Left.zero (zs : List (Int × Int × Int)) : Left (secsD zs 0 4096 1024) zs (secsEnd zs 4096) 0 4096 := ⟨1024, rfl, rfl, by omega⟩

theorem secsD_length : ∀ (zs : List (Int × Int × Int)) (i rva pt : Nat), (secsD zs i rva pt).length = zs.length
  | [], _, _, _ => rfl
  | x :: zs, i, rva, pt => by simp [secsD, secsD_length zs]

theorem Left.next {xs : List SectD} {zs : List (Int × Int × Int)} {size j rva : Nat} (h : Left xs zs size j rva) (hj : j < zs.length) :
    ∃ s fl, xs[j]? = some s ∧ s.rva = rva ∧ 1 ≤ s.vs ∧ s.vs ≤ 16384 ∧ roundF s.vs 4096 = (fl : Nat) ∧ fl ≤ 20480 ∧ Left xs zs size (j + 1) (rva + fl) := by
  obtain ⟨pt, h1, h2, h3⟩ := h
  have hd : zs.drop j = zs[j] :: zs.drop (j + 1) := List.drop_eq_getElem_cons hj
  obtain ⟨x, hx⟩ : ∃ x, zs[j] = x := ⟨_, rfl⟩
  obtain ⟨s1, s2, s3, s4, s5, s6, -⟩ := sec_bd x
  rw [hx] at hd
  rw [hd, secsD] at h1
  rw [hd, secsEnd] at h2
  obtain ⟨f, hf⟩ : ∃ f, secFull x = f := ⟨_, rfl⟩
  obtain ⟨v, hv⟩ : ∃ v, secV x = v := ⟨_, rfl⟩
  obtain ⟨r, hr⟩ : ∃ r, secRaw x = r := ⟨_, rfl⟩
  obtain ⟨q, hq⟩ : ∃ q, secCh x = q := ⟨_, rfl⟩
  rw [hf] at h1 h2 s4 s6
  rw [hv] at h1 s1 s2 s6
  rw [hr, hq] at h1
  have hj0 : xs[j]? = some ⟨[115, UInt8.ofNat (48 + j)], v, rva, r, pt, q⟩ := by
    have : (xs.drop j)[0]? = xs[j]? := by rw [List.getElem?_drop, Nat.add_zero]
    rw [← this, h1]
    rfl
  have hj1 : xs.drop (j + 1) = secsD (zs.drop (j + 1)) (j + 1) (rva + f) (pt + r) := by
    have : xs.drop (j + 1) = (xs.drop j).drop 1 := by rw [List.drop_drop]
    rw [this, h1]
    rfl
  have hb : rva + f ≤ 4096 + 20480 * (j + 1) := by clear h1 h2 hj0 hj1 hf hv hr hq hx hd; omega
  exact ⟨_, f, hj0, rfl, s1, s2, s6, s4, pt + r, hj1, h2, hb⟩

theorem Left.last {xs : List SectD} {zs : List (Int × Int × Int)} {size j rva : Nat} (h : Left xs zs size j rva) (hj : zs.length ≤ j) : rva = size := by
  obtain ⟨pt, h1, h2, h3⟩ := h
  rw [List.drop_of_length_le hj] at h2
  exact h2

set_option maxRecDepth 100000 in
set_option maxHeartbeats 4000000 in
theorem walk_HdrChains (w : World) (A : Option Addr) (c : Nat) (xs : List (Int × Int × Int)) (ht : Trip w A xs.length c (tcells xs)) :
    Calls Try.prog 4 #[.slice A xs.length c] w fun e w' => e = .returned (.bool true) ∧ Below w.heap.size w w' := by
  obtain ⟨h, hp, hm⟩ := parse_madeF xs
  obtain ⟨zo, zi⟩ := sectsOf_length xs
  obtain ⟨zs, hz⟩ : ∃ zs, sectsOf xs = zs := ⟨_, rfl⟩
  rw [hz] at hm zo zi
  have HP := hid hp
  have HM := hid hm
  have h5 := hm.headers
  have h4 := hm.size
  obtain ⟨e1, e2, e3, e4⟩ := secsEnd_ge zs 4096
  obtain ⟨n, hn⟩ : ∃ n, zs.length = n := ⟨_, rfl⟩
  have hsl : h.sects.length = n := by rw [hm.sects, secsD_length, hn]
  rw [hn] at zo zi e2
  have hl0 : Left h.sects zs h.size 0 4096 := by rw [hm.sects, h4]; exact Left.zero zs
  obtain ⟨size, hsz⟩ : ∃ s, h.size = s := ⟨_, rfl⟩
  rw [hsz] at hl0
  have s1 : size ≤ 4294967295 := by omega
  have HL0 := hid hl0
  have HN := hid hn
  have HSL := hid hsl
  have H5 := hid h5
  have HSZ := hid hsz
  clear hp hm h4 h5 hz e1 e2 e3 e4 hn hsl hsz hl0
  have dn : ((n : Int) == 0) = false := by rw [beq_eq_false_iff_ne]; omega
  go_enter Try.func4, Try.ntmps4
  go_wp2_with fail
  refine (law_Made A c xs none 0 [] w ht (Trip.none _) (by simp)).mono ?_
  rintro e w1 ⟨v1, rfl, o1, b1⟩
  have O1 := hid o1
  have U1 := hid b1
  clear o1 b1 ht
  go_wp2_with fail
  refine (parse_own w1 _ v1 _ O1.out).mono ?_
  rw [HP.out]
  rintro e w2 ⟨b2, v2, rfl, o2⟩
  have U2 := hid (up_trans U1.out b2)
  obtain ⟨A2, c2, rfl, -, r2⟩ := own_row o2
  have R2 := hid r2
  obtain ⟨cs2, hcs2⟩ : ∃ cs, headV h.base h.stamp h.chars h.entry h.size h.headers (fun k => h.d k) (.slice A2 h.sects.length c2) = cs := ⟨_, rfl⟩
  rw [show h.val (.slice A2 h.sects.length c2) = .agg cs2 by rw [HeadD.val, hcs2]]
  have HS2 : Hid (cs2.size = 39) := by rw [← hcs2]; exact headV_size _ _ _ _ _ _ _ _
  have HO2 : Hid (cs2.all (·.oneCell') = true) := by rw [← hcs2]; exact headV_one _ _ _ _ _ _ _ _ rfl
  have HCS2 := hid hcs2
  clear b2 o2 r2 hcs2
  have c4 : cs2[4]? = some (.int .i64 size) := by rw [← HCS2.out, HSZ.out]; rfl
  have c5 : cs2[5]? = some (.int .i64 1024) := by rw [← HCS2.out, H5.out]; rfl
  have c38 : cs2[38]? = some (.slice A2 n c2) := by rw [← HCS2.out, HSL.out]; rfl
  go_wp2_with (refine wpList_store_row (by rfl) 32 (.tmp 3) (.tmp 11) (by rfl) w2.heap.size cs2 (by rfl) (by rfl) 32 headZ (Blk.new _ _ _) (by rw [HS2.out]; exact headInfo) (by rw [HS2.out]; rfl) HO2.out ?_; obtain ⟨w3, hw3⟩ : ∃ w3, w3 = (w2.alloc (.cells headZ 32)).setRow w2.heap.size cs2 := ⟨_, rfl⟩; have B3 : Hid (Blk w3 w2.heap.size cs2 32) := hw3 ▸ (Blk.new w2 headZ 32).setRow cs2; have U3 := hid (show Below w.heap.size w w3 from hw3 ▸ below_setRow (up_alloc U2.out _) _ U2.out.size _); have V3 := hid (show Below w2.heap.size w2 w3 from hw3 ▸ below_setRow (up_alloc (up_refl _) _) _ (Nat.le_refl _) _); rw [show (w2.alloc (.cells #[.int .u64 0, .int .i64 0, .int .i64 0, .int .i64 0, .int .i64 0, .int .i64 0, .int .i64 0, .int .i64 0, .int .i64 0, .int .i64 0, .int .i64 0, .int .i64 0, .int .i64 0, .int .i64 0, .int .i64 0, .int .i64 0, .int .i64 0, .int .i64 0, .int .i64 0, .int .i64 0, .int .i64 0, .int .i64 0, .int .i64 0, .int .i64 0, .int .i64 0, .int .i64 0, .int .i64 0, .int .i64 0, .int .i64 0, .int .i64 0, .int .i64 0, .int .i64 0, .int .i64 0, .int .i64 0, .int .i64 0, .int .i64 0, .int .i64 0, .int .i64 0, .slice none 0 0] 32)).setRow w2.heap.size cs2 = w3 from hw3.symm]; clear hw3; have q4 := (B3.out.cell 4).trans c4; have q5 := (B3.out.cell 5).trans c5; have q38 := (B3.out.cell 38).trans c38; have R3 := hid (R2.out.below V3.out); clear c4 c5 c38)
  refine (hdr_Round 1024 4096 _ (by omega)).mono ?_
  rintro e w' ⟨rfl, rfl⟩
  rw [show roundF 1024 4096 = 4096 by decide]
  go_wp2_with fail
  go_loopg [5, 6] n (fun k a i wr => ∃ (j at' : Nat), i = .int .i64 j ∧ a = .int .i64 at' ∧ j + k = n ∧ Hid (Left h.sects zs size j at') ∧ at' ≤ 4096 + 20480 * j ∧ w3 = wr)
  case atStart => exact ⟨0, 4096, rfl, rfl, by omega, HL0, by omega, rfl⟩
  case round =>
    obtain ⟨j, at', rfl, rfl, hjk, hL, hat, rfl⟩ := hrel
    rcases gk with _ | m
    · have hjn : ((j : Int) < (n : Int)) = False := by simp; omega
      have he : at' = size := hL.out.last (by have := HN.out; omega)
      subst he
      go_wp2_with fail
      refine (law_awake _).mono ?_
      rintro e w' ⟨rfl, hb⟩
      have HB := hid hb
      clear hb
      go_wp2_with fail
      go_ret
      exact ⟨rfl, up_trans U3.out HB.out⟩
    · have hjn : ((j : Int) < (n : Int)) = True := by simp; omega
      obtain ⟨ad, rfl⟩ := R3.out.sect_ad (j := j) (by have := HSL.out; omega)
      obtain ⟨s, fl, hs, hsr, hv1, hv2, hfl, hfl2, hL2⟩ := hL.out.next (by have := HN.out; omega)
      obtain ⟨-, k1, k2, -, -, -, -⟩ := R3.out.sect hs
      rw [hsr] at k2
      have HF := hid hfl
      have HL2 := hid hL2
      clear hL hL2 hs hsr hfl
      go_wp2_with fail
      refine (hdr_Round s.vs 4096 _ (by omega)).mono ?_
      rintro e w' ⟨rfl, rfl⟩
      rw [HF.out]
      go_wp2_with fail
      go_roundg m
      case measure => omega
      case rel => exact ⟨j + 1, at' + fl, by go_num, by go_num, by omega, HL2, by omega, rfl⟩
end Go.Proofs.Ytajcihcbgmpdjaa
