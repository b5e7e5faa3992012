/- hdr: sects, walked. -/
import Derived.Test.YtajcihcbgmpdjaaSect
import Derived.Deep.DrawnRows
namespace Go.Proofs.Ytajcihcbgmpdjaa
open Go.RowKit

attribute [local go_sem ↓] Go.wp_at_zero Go.wp_at_succ

theorem infoSect : (Try.prog.info? 37).map (fun i => (i.zero, i.size, i.bytes)) = some (some (.agg #[.string ⟨#[]⟩, .int .i64 0, .int .i64 0, .int .i64 0, .int .i64 0, .int .i64 0]), 6, 56) := by kernel_rfl

/-- What sects answers. -/
def SectsOk (r : Option (List SectD)) (W0 : World) (b : Nat) (base stamp chars entry size headers : Int) (own : Nat) (e : Ending) (w' : World) : Prop :=
  Below W0.heap.size W0 w' ∧
    ((r = none ∧ e = .returned (.int .i64 7)) ∨
     ∃ xs v, r = some xs ∧ e = .returned (.int .i64 0) ∧ Blk w' b #[.int .u64 base, .int .i64 stamp, .int .i64 chars, .int .i64 entry, .int .i64 size, .int .i64 headers, .int .i64 0, .int .i64 0, .int .i64 0, .int .i64 0, .int .i64 0, .int .i64 0, .int .i64 0, .int .i64 0, .int .i64 0, .int .i64 0, .int .i64 0, .int .i64 0, .int .i64 0, .int .i64 0, .int .i64 0, .int .i64 0, .int .i64 0, .int .i64 0, .int .i64 0, .int .i64 0, .int .i64 0, .int .i64 0, .int .i64 0, .int .i64 0, .int .i64 0, .int .i64 0, .int .i64 0, .int .i64 0, .int .i64 0, .int .i64 0, .int .i64 0, .int .i64 0, v] 32 ∧ w'.ownsRow own 37 6 v xs.length (scells xs))

set_option maxRecDepth 100000 in
set_option maxHeartbeats 16000000 in
theorem hdr_sects (A : Option Addr) (c : Nat) (l : List UInt8) (p base stamp chars entry size headers : Int) (b : Nat) (W0 w : World) (hr : Bs W0 A c l) (hw : Below W0.heap.size W0 w) (hb0 : W0.heap.size ≤ b)
    (hB : Blk w b #[.int .u64 base, .int .i64 stamp, .int .i64 chars, .int .i64 entry, .int .i64 size, .int .i64 headers, .int .i64 0, .int .i64 0, .int .i64 0, .int .i64 0, .int .i64 0, .int .i64 0, .int .i64 0, .int .i64 0, .int .i64 0, .int .i64 0, .int .i64 0, .int .i64 0, .int .i64 0, .int .i64 0, .int .i64 0, .int .i64 0, .int .i64 0, .int .i64 0, .int .i64 0, .int .i64 0, .int .i64 0, .int .i64 0, .int .i64 0, .int .i64 0, .int .i64 0, .int .i64 0, .int .i64 0, .int .i64 0, .int .i64 0, .int .i64 0, .int .i64 0, .int .i64 0, .slice none 0 0] 32) (hp : 0 ≤ p) (hpl : p + 264 ≤ l.length) (hs : 0 ≤ size) (hs1 : size ≤ 4294967295) (hh : 0 ≤ headers) (hh1 : headers ≤ 4294967295) :
    Calls Try.prog 29 #[.agg #[.slice A l.length c, .int .i64 p], .pointer (some ⟨b, 0, none⟩)] w fun e w' => SectsOk (sectsF l p size headers) W0 b base stamp chars entry size headers w.heap.size e w' := by
  obtain ⟨r, hrr⟩ : ∃ r, r = sectsF l p size headers := ⟨_, rfl⟩
  rw [← hrr]
  have HR := hid hrr
  clear hrr
  have hm := hr.mx
  have hle := hr.le
  obtain ⟨n, hn⟩ : ∃ n, numAt l (p + 6) 2 = n := ⟨_, rfl⟩
  have hn2 : n < 65536 := hn ▸ numAt_lt l (p + 6) 2
  -- the box, and the head's cells
  obtain ⟨w1, hw1⟩ : ∃ w1, w1 = w.alloc (.cells #[.slice A l.length c, .int .i64 p] 63) := ⟨_, rfl⟩
  have hT1 : Blk w1 w.heap.size #[.slice A l.length c, .int .i64 p] 63 := hw1 ▸ Blk.new _ _ _
  have hB1 : Blk w1 b #[.int .u64 base, .int .i64 stamp, .int .i64 chars, .int .i64 entry, .int .i64 size, .int .i64 headers, .int .i64 0, .int .i64 0, .int .i64 0, .int .i64 0, .int .i64 0, .int .i64 0, .int .i64 0, .int .i64 0, .int .i64 0, .int .i64 0, .int .i64 0, .int .i64 0, .int .i64 0, .int .i64 0, .int .i64 0, .int .i64 0, .int .i64 0, .int .i64 0, .int .i64 0, .int .i64 0, .int .i64 0, .int .i64 0, .int .i64 0, .int .i64 0, .int .i64 0, .int .i64 0, .int .i64 0, .int .i64 0, .int .i64 0, .int .i64 0, .int .i64 0, .int .i64 0, .slice none 0 0] 32 := hw1 ▸ hB.alloc _
  have hu1 : Below W0.heap.size W0 w1 := hw1 ▸ up_alloc hw _
  have hs1' : w1.heap.size = w.heap.size + 1 := by rw [hw1]; simp
  have hbw := hB.lt
  obtain ⟨w2, hw2⟩ : ∃ w2, w2 = w1.alloc (.cells #[.slice A l.length c, .int .i64 p] 63) := ⟨_, rfl⟩
  have hT2 : Blk w2 w.heap.size #[.slice A l.length c, .int .i64 p] 63 := hw2 ▸ hT1.alloc _
  have hB2 : Blk w2 b #[.int .u64 base, .int .i64 stamp, .int .i64 chars, .int .i64 entry, .int .i64 size, .int .i64 headers, .int .i64 0, .int .i64 0, .int .i64 0, .int .i64 0, .int .i64 0, .int .i64 0, .int .i64 0, .int .i64 0, .int .i64 0, .int .i64 0, .int .i64 0, .int .i64 0, .int .i64 0, .int .i64 0, .int .i64 0, .int .i64 0, .int .i64 0, .int .i64 0, .int .i64 0, .int .i64 0, .int .i64 0, .int .i64 0, .int .i64 0, .int .i64 0, .int .i64 0, .int .i64 0, .int .i64 0, .int .i64 0, .int .i64 0, .int .i64 0, .int .i64 0, .int .i64 0, .slice none 0 0] 32 := hw2 ▸ hB1.alloc _
  have hu2 : Below W0.heap.size W0 w2 := hw2 ▸ up_alloc hu1 _
  have hs2' : w2.heap.size = w.heap.size + 2 := by rw [hw2]; simp [hs1']
  have hrd := rd_two A c l p 6 w1 (hr.below hu1) hp (by omega) (by omega) (by omega)
  rw [hn, ← hw2] at hrd
  have RD := hid hrd
  have HW1 := hid hw1.symm
  clear hrd hw2 hB1 hw1
  obtain ⟨t, ht⟩ : ∃ t, t = w.heap.size := ⟨_, rfl⟩
  have HU2 := hid hu2
  have HB2 := hid hB2
  have HT2 := hid hT2
  have f4 := hB2.cell 4
  have f5 := hB2.cell 5
  have t0 := hT2.cell 0
  have t1 := hT2.cell 1
  have u0 := hT1.cell 0
  have u1 := hT1.cell 1
  simp at f4 f5 t0 t1 u0 u1
  clear hB2 hT2 hT1 hu1 hu2 hB hw
  have hu := HW1.out
  by_cases hbad : n < 1 ∨ 16 < n ∨ headers < p + 264 + 40 * (n : Int) ∨ 4096 < headers ∨ (l.length : Int) < headers
  · have hrn : r = none := by rw [HR.out, sectsF, hn, if_pos hbad]
    subst hrn
    clear HR
    have hcase : (decide ((n : Int) < 1) = true) ∨
        (decide ((n : Int) < 1) = false ∧ decide (16 < (n : Int)) = true) ∨
        (decide ((n : Int) < 1) = false ∧ decide (16 < (n : Int)) = false ∧ decide (headers < p + 264 + 40 * (n : Int)) = true) ∨
        (decide ((n : Int) < 1) = false ∧ decide (16 < (n : Int)) = false ∧ decide (headers < p + 264 + 40 * (n : Int)) = false ∧ decide (4096 < headers) = true) ∨
        (decide ((n : Int) < 1) = false ∧ decide (16 < (n : Int)) = false ∧ decide (headers < p + 264 + 40 * (n : Int)) = false ∧ decide (4096 < headers) = false ∧ decide ((l.length : Int) < headers) = true) := by
      simp only [decide_eq_false_iff_not, decide_eq_true_eq]
      omega
    clear hbad
    rcases hcase with g1 | ⟨g1, g2⟩ | ⟨g1, g2, g3⟩ | ⟨g1, g2, g3, g4⟩ | ⟨g1, g2, g3, g4, g5⟩
    all_goals
      go_enter Try.func29, Try.ntmps29
      go_wp2_with fail
      refine RD.mono ?_
      rintro e w' ⟨rfl, rfl⟩
      go_wp2_with fail
      go_quiet (fail)
      go_wp2
      go_ret
      exact ⟨up_drewN HU2.out _, .inl ⟨rfl, rfl⟩⟩
  · have hrs : sectsGo l p size n 0 (roundF headers 4096) = r := by rw [HR.out, sectsF, hn, if_neg hbad]
    have HRS := hid hrs
    clear HR hrs
    have d1 : decide ((n : Int) < 1) = false := decide_eq_false (by omega)
    have d2 : decide (16 < (n : Int)) = false := decide_eq_false (by omega)
    have d3 : decide (headers < p + 264 + 40 * (n : Int)) = false := decide_eq_false (by omega)
    have d4 : decide (4096 < headers) = false := decide_eq_false (by omega)
    have d5 : decide ((l.length : Int) < headers) = false := decide_eq_false (by omega)
    have g16 : n ≤ 16 := by omega
    have hln : p + 264 + 40 * (n : Int) ≤ l.length := by omega
    obtain ⟨rb1, rb2, -⟩ := round_bounds headers hh (by omega)
    obtain ⟨x0, hx0⟩ : ∃ x, roundF headers 4096 = x := ⟨_, rfl⟩
    rw [hx0] at rb1 rb2
    have HX0 := hid hx0
    rw [hx0] at HRS
    clear hbad hx0
    go_enter Try.func29, Try.ntmps29
    go_wp2_with fail
    refine RD.mono ?_
    rintro e w' ⟨rfl, rfl⟩
    go_wp2_with fail
    go_quiet (fail)
    go_wp2_with fail
    refine (hdr_Round headers 4096 _ (by omega)).mono ?_
    rintro e w' ⟨rfl, rfl⟩
    rw [HX0.out]
    go_wp2_with fail
    go_loopg [6, 58] n (fun k x i wr => ∃ (y : Int) (j : Nat) (v : Value) (xs : List SectD), x = .int .i64 y ∧ i = .int .i64 j ∧ j + k = n ∧ 0 ≤ y ∧ y ≤ 8589940000 ∧ Below W0.heap.size W0 wr ∧ w.heap.size < wr.heap.size ∧
      Blk wr w.heap.size #[.slice A l.length c, .int .i64 p] 63 ∧ Blk wr b #[.int .u64 base, .int .i64 stamp, .int .i64 chars, .int .i64 entry, .int .i64 size, .int .i64 headers, .int .i64 0, .int .i64 0, .int .i64 0, .int .i64 0, .int .i64 0, .int .i64 0, .int .i64 0, .int .i64 0, .int .i64 0, .int .i64 0, .int .i64 0, .int .i64 0, .int .i64 0, .int .i64 0, .int .i64 0, .int .i64 0, .int .i64 0, .int .i64 0, .int .i64 0, .int .i64 0, .int .i64 0, .int .i64 0, .int .i64 0, .int .i64 0, .int .i64 0, .int .i64 0, .int .i64 0, .int .i64 0, .int .i64 0, .int .i64 0, .int .i64 0, .int .i64 0, v] 32 ∧ wr.ownsRow (w.heap.size + 1) 37 6 v j (scells xs) ∧ xs.length = j ∧
      Hid ((sectsGo l p size k j y).map (xs ++ ·) = r))
    case atStart =>
      refine ⟨x0, 0, _, [], rfl, rfl, by omega, by omega, by omega, up_drewN HU2.out _, ?_, HT2.out.drewN _, HB2.out.drewN _, World.ownsRow_nil _ _ _ _, rfl, ?_⟩
      · simp [hs2']
      · rw [HRS.out]
        cases r <;> simp [Hid]
    case round =>
      obtain ⟨y, j, v, xs, rfl, rfl, hjk, hy0, hy1, hU, hsz, hT, hB, hown, hxl, hf⟩ := hrel
      have f4 := hB.cell 4
      have f38 := hB.cell 38
      have t0 := hT.cell 0
      have t1 := hT.cell 1
      simp at f4 f38 t0 t1
      rcases gk with _ | k
      · -- behind the last
        have hjn : ((j : Int) < (n : Int)) = False := by simp; omega
        have HF := hid hf
        have HB := hid hB
        have HU := hid hU
        have HO := hid hown
        have HL := hid hxl
        clear hf hB hT hU hown hxl
        by_cases hz : y = size
        · have dz : (y != size) = false := by simp [hz]
          have hr1 : r = some xs := by
            have h : (sectsGo l p size 0 j y).map (xs ++ ·) = r := HF.out
            rw [sectsGo, if_pos hz] at h
            simpa using h.symm
          have HR1 := hid hr1
          clear hr1 hz
          go_wp2_with fail
          go_wp2
          go_ret
          refine ⟨HU.out, .inr ⟨xs, v, HR1.out, rfl, HB.out, ?_⟩⟩
          rw [HL.out]
          exact own_mono HO.out (by omega)
        · have dz : (y != size) = true := by simp [hz]
          have hr1 : r = none := by
            have h : (sectsGo l p size 0 j y).map (xs ++ ·) = r := HF.out
            rw [sectsGo, if_neg hz] at h
            exact h.symm
          have HR1 := hid hr1
          clear hr1 hz
          go_wp2_with fail
          go_wp2
          go_ret
          exact ⟨HU.out, .inl ⟨HR1.out, rfl⟩⟩
      · -- one more
        have hjn : ((j : Int) < (n : Int)) = True := by simp; omega
        have hj15 : (j : Int) ≤ 15 := by omega
        obtain ⟨q, hq⟩ : ∃ q, 264 + 40 * (j : Int) = q := ⟨_, rfl⟩
        have hq1 : p + q + 40 ≤ l.length := by omega
        have hq2 : 264 ≤ q ∧ q ≤ 864 := by omega
        obtain ⟨z, hz⟩ := Int.eq_ofNat_of_zero_le (show 0 ≤ p + q by omega)
        obtain ⟨A', hc1, hc2⟩ := slice_lh (P := Try.prog) 23 5 1 Try.underlying23 info_u8 A l.length c .i64 .i64 (p + q) (p + q + 8) z 8 hz (by omega) (by omega) hle
        obtain ⟨m, hmm⟩ : ∃ m, m = (l.drop z).take 8 := ⟨_, rfl⟩
        have hs3 : (convert 23 9 (.slice A' 8 (c - z))).run Try.prog wr = .ok (.string (S m)) wr :=
          run_str _ _ _ 5 Try.underlying23 Try.underlying5 Try.underlying9 A' 8 (c - z) m (by rw [hmm]; simp; omega) (by
            have := hc2 _ _ (by rw [bcells_length, Nat.mul_one]) (hr.below hU).row
            rw [Nat.mul_one, Nat.mul_one, bcells, ← List.map_drop, ← List.map_take, ← hmm] at this
            exact this)
        have hml : m.length ≤ 140737488355328 := by rw [hmm]; simp; omega
        clear hc2
        obtain ⟨s, hse⟩ : ∃ s, s = sectAt l p q := ⟨_, rfl⟩
        have hnm : s.name = cutHead m 0 := by rw [hse, sectAt, hmm, hz]; rfl
        have n1 : numAt l (p + (q + 8)) 4 = s.vs := by rw [hse]; rfl
        have n2 : numAt l (p + (q + 12)) 4 = s.rva := by rw [hse]; rfl
        have n3 : numAt l (p + (q + 16)) 4 = s.raw := by rw [hse]; rfl
        have n4 : numAt l (p + (q + 20)) 4 = s.pt := by rw [hse]; rfl
        have n5 : numAt l (p + (q + 36)) 4 = s.ch := by rw [hse]; rfl
        have b1 : s.vs < 4294967296 := n1 ▸ numAt_lt l _ 4
        have b2 : s.rva < 4294967296 := n2 ▸ numAt_lt l _ 4
        have b3 : s.raw < 4294967296 := n3 ▸ numAt_lt l _ 4
        have b4 : s.pt < 4294967296 := n4 ▸ numAt_lt l _ 4
        have hgo : Hid ((if sectBad l size y s then none else (sectsGo l p size k (j + 1) (s.rva + roundF s.vs 4096)).map (s :: ·)).map (xs ++ ·) = r) := by
          have h : (sectsGo l p size (k + 1) j y).map (xs ++ ·) = r := hf
          rw [sectsGo, hq, ← hse] at h
          exact h
        have HN := hid (⟨n1, n2, n3, n4, n5⟩ : numAt l (p + (q + 8)) 4 = s.vs ∧ numAt l (p + (q + 12)) 4 = s.rva ∧ numAt l (p + (q + 16)) 4 = s.raw ∧ numAt l (p + (q + 20)) 4 = s.pt ∧ numAt l (p + (q + 36)) 4 = s.ch)
        have HNM := hid hnm
        have HB := hid hB
        have HT := hid hT
        have HU := hid hU
        have HO := hid hown
        have HL := hid hxl
        have Hz := hid hz
        clear hf hmm hse n1 n2 n3 n4 n5 hnm hB hT hU hown hxl hz
        go_wp2_with fail
        refine (strings_Cut m 0 wr hml).mono ?_
        rintro e w' ⟨rfl, nn, rfl⟩
        rw [← HNM.out]
        obtain ⟨wa, hwa⟩ : ∃ wa, wa = wr.drewN nn := ⟨_, rfl⟩
        rw [← hwa]
        have HBa : Hid (Blk wa b #[.int .u64 base, .int .i64 stamp, .int .i64 chars, .int .i64 entry, .int .i64 size, .int .i64 headers, .int .i64 0, .int .i64 0, .int .i64 0, .int .i64 0, .int .i64 0, .int .i64 0, .int .i64 0, .int .i64 0, .int .i64 0, .int .i64 0, .int .i64 0, .int .i64 0, .int .i64 0, .int .i64 0, .int .i64 0, .int .i64 0, .int .i64 0, .int .i64 0, .int .i64 0, .int .i64 0, .int .i64 0, .int .i64 0, .int .i64 0, .int .i64 0, .int .i64 0, .int .i64 0, .int .i64 0, .int .i64 0, .int .i64 0, .int .i64 0, .int .i64 0, .int .i64 0, v] 32) := hwa ▸ HB.out.drewN _
        have HTa : Hid (Blk wa w.heap.size #[.slice A l.length c, .int .i64 p] 63) := hwa ▸ HT.out.drewN _
        have HUa : Hid (Below W0.heap.size W0 wa) := hwa ▸ up_drewN HU.out _
        have HOa : Hid (wa.ownsRow (w.heap.size + 1) 37 6 v j (scells xs)) := hwa ▸ (show (wr.drewN nn).ownsRow _ _ _ _ _ _ from HO.out)
        have hsza : w.heap.size < wa.heap.size := by rw [hwa]; exact hsz
        have t0a := HTa.out.cell 0
        have t1a := HTa.out.cell 1
        simp at t0a t1a
        clear HB HT HU HO f4 f38 t0 t1 hwa hsz hs3 hc1 hu
        have ne0 := World.new_ne wa ⟨w.heap.size, 0, none⟩ t0a
        have ne1 := World.new_ne wa ⟨w.heap.size, 1, none⟩ t1a
        go_upto_region 10 with fail
        go_cut [12] (fun x wb => ∃ sb, x = .pointer (some ⟨sb, 0, none⟩) ∧ wa.heap.size ≤ sb ∧ Below wa.heap.size wa wb ∧ Blk wb sb #[.string (S s.name), .int .i64 s.vs, .int .i64 s.rva, .int .i64 s.raw, .int .i64 s.pt, .int .i64 s.ch] 37)
        case first =>
          obtain ⟨n1, n2, n3, n4, n5⟩ := HN.out
          have k8 : IntKind.i64.wrap (q + 8) = q + 8 := wrap_i64_id (by omega) (by omega)
          have k12 : IntKind.i64.wrap (q + 12) = q + 12 := wrap_i64_id (by omega) (by omega)
          have k16 : IntKind.i64.wrap (q + 16) = q + 16 := wrap_i64_id (by omega) (by omega)
          have k20 : IntKind.i64.wrap (q + 20) = q + 20 := wrap_i64_id (by omega) (by omega)
          have k36 : IntKind.i64.wrap (q + 36) = q + 36 := wrap_i64_id (by omega) (by omega)
          have BSa := hr.below HUa.out
          have UPa : Upw wa wa := ⟨up_refl _⟩
          have UPd : Upw wa wa.drew := ⟨up_drew (up_refl _)⟩
          go_region_held3 (fun w' => w'.cell? ⟨w.heap.size, 0, none⟩ = some (.slice A l.length c) ∧ w'.cell? ⟨w.heap.size, 1, none⟩ = some (.int .i64 p))
            ((refine keepB t0a t1a hsza ?_; repeat (with_reducible (first | exact up_refl _ | refine up_drew ?_ | refine up_alloc ?_ _))))
            (first
              | (go_at_call 26; refine (rd_four A c l p _ _ (BSa.below (by repeat (with_reducible (first | exact up_refl _ | refine up_drew ?_ | refine up_alloc ?_ _)))) hp (by omega) (by omega) (by omega)).mono ?_; rintro e w' ⟨rfl, rfl⟩; first | rw [n1] | rw [n2] | rw [n3] | rw [n4] | rw [n5]))
          all_goals
            go_wp2_with fail
            go_meet
            refine ⟨_, rfl, ?_, ?_, ?_⟩
            · omega
            · exact up_drew (up_alloc (up_alloc (up_alloc (up_alloc (up_alloc (up_alloc (up_refl _) _) _) _) _) _) _)
            · (simp [-World.alloc_eq, Blk.alloc_iff, Blk.drew_iff] <;> omega)
        case rest =>
          obtain ⟨sb, rfl, hsb, hbe, hS⟩ := hcut
          have hSl := hS.lt
          have s1 := hS.cell 1
          have s2 := hS.cell 2
          have s3 := hS.cell 3
          have s4 := hS.cell 4
          simp at s1 s2 s3 s4
          have hUc : Below W0.heap.size W0 wc := up_trans HUa.out hbe
          have HBc := hid (HBa.out.below hbe)
          have HTc := hid (HTa.out.below hbe)
          have HOc := hid (own_below HOa.out hbe)
          have ag : v.ownBlock ≠ some b := fun e => by have := (HOa.out.lt b e).1; omega
          have asb : v.ownBlock ≠ some sb := fun e => by have := (HOa.out.lt sb e).2; omega
          have hszc : wa.heap.size ≤ wc.heap.size := hbe.size
          have s0 := hS.cell 0
          have s5 := hS.cell 5
          simp at s0 s5
          have HUc := hid hUc
          have HBE := hid hbe
          have HS := hid hS
          have f4 := HBc.out.cell 4
          have f38 := HBc.out.cell 38
          have z38 := HBc.out.free 38
          have t0 := HTc.out.cell 0
          have t1 := HTc.out.cell 1
          simp at f4 f38 t0 t1
          clear HBa HTa HUa HOa t0a t1a ne0 ne1
          clear hUc hbe hS
          obtain ⟨lg, hlg⟩ : ∃ x, roundF s.vs 4096 = x := ⟨_, rfl⟩
          obtain ⟨lb1, lb2, -⟩ := round_bounds s.vs (by omega) (by omega)
          rw [hlg] at lb1 lb2
          have HLG := hid hlg
          have hcase := sect_cases l size y lg s hlg
          rcases hcase with ⟨g1, hbad⟩ | ⟨g1, g2, hbad⟩ | ⟨g1, g2, g3, hbad⟩ | ⟨g1, g2, g3, g4, hbad⟩ | ⟨g1, g2, g3, g4, g5, hbad⟩ | ⟨g1, g2, g3, g4, g5, g6, g7, hbad⟩ | ⟨g1, g2, g3, g4, g5, g6, g7, hbad⟩ | ⟨g1, g2, g3, g4, g5, g6, hbad⟩
          case inl | inr.inl =>
            have hrn : r = none := by
              have h := hgo.out
              rw [if_pos hbad] at h
              exact h.symm
            have HRN := hid hrn
            clear hgo hbad hrn hlg
            go_wp2_with fail
            refine (hdr_Round s.vs 4096 _ (by omega)).mono ?_
            rintro e w' ⟨rfl, rfl⟩
            rw [HLG.out]
            go_wp2_with fail
            go_ret
            exact ⟨HUc.out, .inl ⟨HRN.out, rfl⟩⟩
          case inr.inr.inl | inr.inr.inr.inl | inr.inr.inr.inr.inl =>
            have hrn : r = none := by
              have h := hgo.out
              rw [if_pos hbad] at h
              exact h.symm
            have HRN := hid hrn
            clear hgo hbad hrn hlg
            go_wp2_with fail
            refine (hdr_Round s.vs 4096 _ (by omega)).mono ?_
            rintro e w' ⟨rfl, rfl⟩
            rw [HLG.out]
            go_wp2_with fail
            go_quiet (fail)
            go_wp2_with fail
            go_ret
            exact ⟨up_drewN HUc.out _, .inl ⟨HRN.out, rfl⟩⟩
          case inr.inr.inr.inr.inr.inl =>
            have hrn : r = none := by
              have h := hgo.out
              rw [if_pos hbad] at h
              exact h.symm
            have HRN := hid hrn
            clear hgo hbad hrn hlg
            have g6n : 0 < s.raw := by have := of_decide_eq_true g6; omega
            go_wp2_with fail
            refine (hdr_Round s.vs 4096 _ (by omega)).mono ?_
            rintro e w' ⟨rfl, rfl⟩
            rw [HLG.out]
            go_wp2_with fail
            go_quiet (fail)
            go_wp2_with fail
            refine (le_In _ _ _ _ (by omega) (by omega)).mono ?_
            rintro e w' ⟨rfl, rfl⟩
            rw [g7]
            go_wp2_with fail
            go_ret
            exact ⟨up_drewN HUc.out _, .inl ⟨HRN.out, rfl⟩⟩
          case inr.inr.inr.inr.inr.inr.inl =>
            have hg := hgo.out
            rw [if_neg hbad] at hg
            have HG := hid hg
            clear hgo hbad hg hlg
            have g6n : 0 < s.raw := by have := of_decide_eq_true g6; omega
            go_wp2_with fail
            refine (hdr_Round s.vs 4096 _ (by omega)).mono ?_
            rintro e w' ⟨rfl, rfl⟩
            rw [HLG.out]
            go_wp2_with fail
            go_quiet (fail)
            go_wp2_with fail
            refine (le_In _ _ _ _ (by omega) (by omega)).mono ?_
            rintro e w' ⟨rfl, rfl⟩
            rw [g7]
            go_wp2_with fail
            obtain ⟨i0, hi0, hz0, hz1, hz2⟩ := info_parts infoSect
            have hbc : b < wc.heap.size := by omega
            have hfz : ∀ (k : Nat) (o : Obj), ((wc.drewN k).alloc o).frozen? ⟨b, 38, none⟩ = false := fun k o =>
              ((up_alloc (up_refl (wc.drewN k)) o).frozen (p := ⟨b, 38, none⟩) hbc).trans z38
            have hfc : ∀ (k : Nat) (o : Obj), ((wc.drewN k).alloc o).cell? ⟨b, 38, none⟩ = some v := fun k o =>
              ((up_alloc (up_refl (wc.drewN k)) o).cell (p := ⟨b, 38, none⟩) hbc).trans f38
            go_region_law
              ((refine step_append_lies _ (by rfl) _ _ _ (by rfl) (w.heap.size + 1) 37 i0 _ 6 56 Try.underlying30 hi0 hz0 hz1 hz2 rfl (by omega) v j (scells xs) (by rfl) ((own_drewN HOc.out _).alloc _)
                  ⟨wc.heap.size, 0, none⟩ 1 1 s.cells (by rfl) (by rfl) (World.news_of_block (cs := #[.string (S s.name), .int .i64 s.vs, .int .i64 s.rva, .int .i64 s.raw, .int .i64 s.pt, .int .i64 s.ch]) (t := 37) (fr := (0, 0)) (heap_alloc_new _ _)) (by simp [SectD.cells, Value.oneCell'])
                  (by omega) (by unfold maxLen; omega) (by omega) (by simp; omega) (wc.heap.size + 1) (by simp) ?_; intro gg cap w1 hown1 hgrow hat hlt
                have q1 := hgrow.cell_far ⟨b, 38, none⟩ (by simp; omega) (Ne.symm ag)
                have q2 := hgrow.frozen_far ⟨b, 38, none⟩ (by simp; omega) (Ne.symm ag)
                rw [hfc] at q1
                rw [hfz] at q2))
            all_goals
              go_wp2_with fail
              go_roundg k
              case measure => omega
              case rel =>
                have hO := HOc.out
                have hw0 : W0.heap.size ≤ wc.heap.size := HUc.out.size
                have hB1 := ((HBc.out.drewN _).alloc _).grown hgrow (Ne.symm ag)
                have hT1 := ((HTc.out.drewN _).alloc _).grown hgrow (fun e => by have := (hO.lt w.heap.size e.symm).1; omega)
                have hU1 : Below W0.heap.size W0 w1 := (up_alloc (up_drewN HUc.out _) _).grown hgrow (by simp; omega) (fun k hk => by have := (hO.lt k hk).1; omega)
                have hsz1 := hgrow.size
                refine ⟨s.rva + lg, j + 1, _, xs ++ [s], rfl, by simp, by omega, by omega, by omega, up_set hU1 hb0 _, ?_, hT1.apart _ (by simp; omega) _, hB1.set 38 _, ?_, ?_, ?_⟩
                · simp at hsz1 ⊢
                  omega
                · rw [scells_snoc]
                  exact Go.RowKit.ownsRow_setCell_below hown1 (by simp; omega) _
                · simp [HL.out]
                · have hg := HG.out
                  rw [HLG.out, Option.map_map] at hg
                  have e : ((xs ++ [s]) ++ ·) = ((xs ++ ·) ∘ (s :: ·)) := by funext zs; simp
                  rw [e]
                  exact hg
          case inr.inr.inr.inr.inr.inr.inr =>
            have hg := hgo.out
            rw [if_neg hbad] at hg
            have HG := hid hg
            clear hgo hbad hg hlg
            have g6n : ¬ 0 < s.raw := by have := of_decide_eq_false g6; omega
            go_wp2_with fail
            refine (hdr_Round s.vs 4096 _ (by omega)).mono ?_
            rintro e w' ⟨rfl, rfl⟩
            rw [HLG.out]
            go_wp2_with fail
            go_quiet (fail)
            go_wp2_with fail
            obtain ⟨i0, hi0, hz0, hz1, hz2⟩ := info_parts infoSect
            have hbc : b < wc.heap.size := by omega
            have hfz : ∀ (k : Nat) (o : Obj), ((wc.drewN k).alloc o).frozen? ⟨b, 38, none⟩ = false := fun k o =>
              ((up_alloc (up_refl (wc.drewN k)) o).frozen (p := ⟨b, 38, none⟩) hbc).trans z38
            have hfc : ∀ (k : Nat) (o : Obj), ((wc.drewN k).alloc o).cell? ⟨b, 38, none⟩ = some v := fun k o =>
              ((up_alloc (up_refl (wc.drewN k)) o).cell (p := ⟨b, 38, none⟩) hbc).trans f38
            go_region_law
              ((refine step_append_lies _ (by rfl) _ _ _ (by rfl) (w.heap.size + 1) 37 i0 _ 6 56 Try.underlying30 hi0 hz0 hz1 hz2 rfl (by omega) v j (scells xs) (by rfl) ((own_drewN HOc.out _).alloc _)
                  ⟨wc.heap.size, 0, none⟩ 1 1 s.cells (by rfl) (by rfl) (World.news_of_block (cs := #[.string (S s.name), .int .i64 s.vs, .int .i64 s.rva, .int .i64 s.raw, .int .i64 s.pt, .int .i64 s.ch]) (t := 37) (fr := (0, 0)) (heap_alloc_new _ _)) (by simp [SectD.cells, Value.oneCell'])
                  (by omega) (by unfold maxLen; omega) (by omega) (by simp; omega) (wc.heap.size + 1) (by simp) ?_; intro gg cap w1 hown1 hgrow hat hlt
                have q1 := hgrow.cell_far ⟨b, 38, none⟩ (by simp; omega) (Ne.symm ag)
                have q2 := hgrow.frozen_far ⟨b, 38, none⟩ (by simp; omega) (Ne.symm ag)
                rw [hfc] at q1
                rw [hfz] at q2))
            all_goals
              go_wp2_with fail
              go_roundg k
              case measure => omega
              case rel =>
                have hO := HOc.out
                have hw0 : W0.heap.size ≤ wc.heap.size := HUc.out.size
                have hB1 := ((HBc.out.drewN _).alloc _).grown hgrow (Ne.symm ag)
                have hT1 := ((HTc.out.drewN _).alloc _).grown hgrow (fun e => by have := (hO.lt w.heap.size e.symm).1; omega)
                have hU1 : Below W0.heap.size W0 w1 := (up_alloc (up_drewN HUc.out _) _).grown hgrow (by simp; omega) (fun k hk => by have := (hO.lt k hk).1; omega)
                have hsz1 := hgrow.size
                refine ⟨s.rva + lg, j + 1, _, xs ++ [s], rfl, by simp, by omega, by omega, by omega, up_set hU1 hb0 _, ?_, hT1.apart _ (by simp; omega) _, hB1.set 38 _, ?_, ?_, ?_⟩
                · simp at hsz1 ⊢
                  omega
                · rw [scells_snoc]
                  exact Go.RowKit.ownsRow_setCell_below hown1 (by simp; omega) _
                · simp [HL.out]
                · have hg := HG.out
                  rw [HLG.out, Option.map_map] at hg
                  have e : ((xs ++ [s]) ++ ·) = ((xs ++ ·) ∘ (s :: ·)) := by funext zs; simp
                  rw [e]
                  exact hg
end Go.Proofs.Ytajcihcbgmpdjaa
