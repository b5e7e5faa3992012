/- sect.Lay. -/
import Derived.Test.YtajcihcbgmpdjaaSectOff
import Derived.Test.YtajcihcbgmpdjaaCutsP
import Derived.Laws.IdiomCopy
namespace Go.Proofs.Ytajcihcbgmpdjaa
open Go.RowKit

theorem Blk.low {w w' : World} {B b : Nat} {cs : Array Value} {t : TypeId} (h : Blk w b cs t) (hb : Below B w w') (hlt : b < B) : Blk w' b cs t := by
  have := hb.block b hlt
  unfold Blk at h ⊢
  rw [this, h]

/-- 'copy(b[o:], m)', a plain region's operation. -/
theorem wp_copySl {ops : Array Oper} {rest : List Oper} {o : Oper} {a : Act} {w : World} {Q : Exit → Act → World → Prop} (hgd : o.guard = none) (s x : Operand)
    (ho : o.op = .call { callee := .builtin .copy, args := #[s, x], argTypes := #[23, 23] })
    (base g n cap k dl dc : Nat) (l t : List UInt8) (ad : Addr) (c : Nat) (hv : OwnB w base (.slice (some ⟨g, 0, none⟩) n cap) l) (hs : a.eval s = .slice (some ⟨g, k, none⟩) dl dc) (hx : a.eval x = .slice (some ad) t.length c) (ht : Bs w (some ad) c t)
    (hle : t.length ≤ dl) (hk : k + t.length ≤ l.length)
    (h : ∀ w', OwnB w' base (.slice (some ⟨g, 0, none⟩) n cap) (splL l k t) → (∀ w0, Below base w0 w → Below base w0 w') → wpList Try.prog ops Q rest (a.put o.dst (goInt t.length)) w') : wpList Try.prog ops Q (o :: rest) a w := by
  obtain ⟨g', cap', e, hg, hlt, _, hc⟩ := hv.cell
  simp at e
  obtain ⟨rfl, rfl, rfl⟩ := e
  have hmin : Nat.min t.length dl = t.length := Nat.min_eq_left hle
  have hrun := run_copy_cells (P := Try.prog) w 23 23 o.type 5 g k dl dc ad t.length c (bcells t) Try.underlying23 info_u8 (by rw [bcells_length, hmin])
    (fun j u hj => by
      obtain ⟨hlt, he⟩ := List.getElem?_eq_some_iff.1 hj
      obtain ⟨ad', e, hcc⟩ := ht.row.cell hlt
      obtain rfl := Option.some.inj e
      rw [hcc, he])
    (fun j hj => by rw [bcells_length] at hj; rw [(hc (k + j) (by omega)).1]; rfl) (fun j hj => by rw [bcells_length] at hj; exact (hc (k + j) (by omega)).2.1)
    (fun u hu => by
      simp only [bcells, List.mem_map] at hu
      obtain ⟨b, _, rfl⟩ := hu
      rfl)
  rw [bcells_length] at hrun
  have h3 := hv.over t k l w hk
  refine wpList_plain hgd fun K hK => ?_
  unfold Oper.wp
  simp [execOp, ho, resolve, invoke, builtin, hs, hx, hrun, Result.andThen]
  exact hK _ _ (h _ h3 (fun w0 hb => below_setCells hg _ _ hb))

/-- A section's bytes laid over an image, as far as one place. -/
def layTo (size : Nat) (l : List UInt8) (out : List UInt8) (s : SectD) (m : Nat) : List UInt8 :=
  (List.range size).map fun (k : Nat) => if s.rva ≤ k ∧ k < s.rva + s.raw ∧ k < m then byteF l ((s.pt : Int) + k - s.rva) else out.getD k 0

def lay0 (size headers : Nat) (l : List UInt8) : List UInt8 := splL (zer size) 0 (l.take (min headers l.length))
def layS (size : Nat) (l : List UInt8) : List SectD → List UInt8 → List UInt8
  | [], out => out
  | s :: xs, out => layS size l xs (layTo size l out s size)
/-- An image as it lies in memory. -/
def layF (size headers : Nat) (xs : List SectD) (l : List UInt8) : List UInt8 := layS size l xs (lay0 size headers l)

theorem layTo_length (size : Nat) (l out : List UInt8) (s : SectD) (m : Nat) : (layTo size l out s m).length = size := by simp [layTo]
theorem layTo_get (size : Nat) (l out : List UInt8) (s : SectD) (m k : Nat) (hk : k < size) : (layTo size l out s m)[k]? = some (if s.rva ≤ k ∧ k < s.rva + s.raw ∧ k < m then byteF l ((s.pt : Int) + k - s.rva) else out.getD k 0) := by
  simp [layTo, hk]
theorem layTo_start (size : Nat) (l out : List UInt8) (s : SectD) (m : Nat) (h : m ≤ s.rva) (ho : out.length = size) : layTo size l out s m = out := by
  apply List.ext_getElem?
  intro k
  by_cases hk : k < size
  · rw [layTo_get _ _ _ _ _ _ hk, if_neg (by omega), List.getD_eq_getElem?_getD, List.getElem?_eq_getElem (by omega)]
    rfl
  · rw [List.getElem?_eq_none (by rw [layTo_length]; omega), List.getElem?_eq_none (by omega)]
theorem layTo_step (size : Nat) (l out : List UInt8) (s : SectD) (m : Nat) (h1 : s.rva ≤ m) (h2 : m < s.rva + s.raw) (h3 : m < size) (ho : out.length = size) :
    (layTo size l out s m).set m (byteF l ((s.pt : Int) + m - s.rva)) = layTo size l out s (m + 1) := by
  apply List.ext_getElem?
  intro k
  by_cases hk : k < size
  · rw [layTo_get _ _ _ _ _ _ hk, List.getElem?_set]
    by_cases hm : m = k
    · subst hm
      rw [if_pos rfl, if_pos (by rw [layTo_length]; exact hk), if_pos ⟨h1, h2, by omega⟩]
    · rw [if_neg hm, layTo_get _ _ _ _ _ _ hk]
      congr 1
      by_cases hc : s.rva ≤ k ∧ k < s.rva + s.raw ∧ k < m
      · rw [if_pos hc, if_pos ⟨hc.1, hc.2.1, by omega⟩]
      · rw [if_neg hc, if_neg (by omega)]
  · rw [List.getElem?_eq_none (by rw [List.length_set, layTo_length]; omega), List.getElem?_eq_none (by rw [layTo_length]; omega)]
theorem layTo_end (size : Nat) (l out : List UInt8) (s : SectD) (m : Nat) (h : size ≤ m ∨ s.rva + s.raw ≤ m) : layTo size l out s m = layTo size l out s size := by
  apply List.ext_getElem?
  intro k
  by_cases hk : k < size
  · rw [layTo_get _ _ _ _ _ _ hk, layTo_get _ _ _ _ _ _ hk]
    congr 1
    by_cases hc : s.rva ≤ k ∧ k < s.rva + s.raw
    · rw [if_pos ⟨hc.1, hc.2, by omega⟩, if_pos ⟨hc.1, hc.2, hk⟩]
    · rw [if_neg (by omega), if_neg (by omega)]
  · rw [List.getElem?_eq_none (by rw [layTo_length]; omega), List.getElem?_eq_none (by rw [layTo_length]; omega)]

set_option maxRecDepth 100000 in
set_option maxHeartbeats 8000000 in
theorem sect_Lay (cs : Array Value) (size headers : Nat) (A : Option Addr) (c : Nat) (xs : List SectD) (ad : Addr) (d : Nat) (l : List UInt8) (w : World) (hc : HeadC cs size headers A xs.length c) (hr : Row w A (scells xs)) (hs : ∀ s ∈ xs, s.small)
    (hb : Bs w (some ad) d l) (hsz : size ≤ 262144) (hhs : headers ≤ size) :
    Calls Try.prog 21 #[.agg cs, .slice (some ad) l.length d] w fun e w' => ∃ v', e = .returned v' ∧ OwnB w' w.heap.size v' (layF size headers xs l) ∧ Below w.heap.size w w' := by
  obtain ⟨R, hR⟩ : ∃ R, layF size headers xs l = R := ⟨_, rfl⟩
  rw [hR]
  have nm := hc.nm
  have hh1 := hc.h1
  have hlm := hb.mx
  have hld := hb.le
  have HC := hid hc
  have HR := hid hr
  have HS := hid hs
  have HB := hid hb
  obtain ⟨n, hn⟩ : ∃ n, xs.length = n := ⟨_, rfl⟩
  have HN := hid hn
  obtain ⟨N, hN⟩ : ∃ N, l.length = N := ⟨_, rfl⟩
  have HNL := hid hN
  rw [hn] at nm
  rw [hN] at hlm hld ⊢
  obtain ⟨w1, hw1⟩ : ∃ w1, w.alloc (.cells cs 32) = w1 := ⟨_, rfl⟩
  have hB1 : Blk w1 w.heap.size cs 32 := hw1 ▸ Blk.new _ _ _
  have hU1 : Below w.heap.size w w1 := hw1 ▸ up_alloc (up_refl _) _
  have q4 := (hB1.cell 4).trans hc.c4
  obtain ⟨w2, hmk, o2, b2, s2⟩ := run_makeB w1 size (by omega)
  have hs1 : w1.heap.size = w.heap.size + 1 := by rw [← hw1]; simp
  have hB2 := hB1.below b2
  have q4' := (hB2.cell 4).trans hc.c4
  have q5' := (hB2.cell 5).trans hc.c5
  have q38' := (hB2.cell 38).trans hc.c38
  rw [hn] at q38'
  obtain ⟨hm, hhm⟩ : ∃ hm, min headers N = hm := ⟨_, rfl⟩
  have hmI : min (headers : Int) (N : Int) = (hm : Int) := by omega
  have hmN : hm ≤ N := by omega
  have hmS : hm ≤ size := by omega
  have hsl := slice_h (P := Try.prog) 23 5 1 Try.underlying23 info_u8 (some ad) N d .i64 (hm : Int) hm rfl hmN hld
  have hmx : max (headers : Int) 0 = (headers : Int) := by omega
  have hu12 := up_trans hU1 b2
  have hbt : Bs w2 (some ad) d (l.take hm) := by
    have hbb := hb.below hu12
    refine ⟨?_, by rw [List.length_take]; omega, by rw [List.length_take]; omega⟩
    have := hbb.row.take hm
    rwa [bcells, ← List.map_take] at this
  have HBT := hid hbt
  have HB2 := hid hB2
  have HB1 := hid hB1
  have HU2 := hid hu12
  have HU1 := hid hU1
  have HB12 := hid b2
  have O2 := hid o2
  have hu2 : w.heap.size < w2.heap.size := by omega
  have HRR : Hid (layS size l xs (lay0 size headers l) = R) := hR
  have HL0 : Hid (lay0 size headers l = splL (zer size) 0 (l.take hm)) := by rw [lay0, hN, hhm]; exact rfl
  have hltk : (l.take hm).length = hm := by rw [List.length_take]; omega
  have HLT := hid hltk
  have HSZ := hid (⟨hs1, s2⟩ : w1.heap.size = w.heap.size + 1 ∧ w2.heap.size = w1.heap.size + 1)
  clear hc hr hs hb hn hN hB1 hU1 b2 hB2 hhm hu12 hbt o2 hR hltk hs1 s2
  go_enter Try.func21, Try.ntmps21
  go_wp2_with (refine wp_copySl (by rfl) (.tmp 20) (.tmp 28) (by rfl) w1.heap.size w1.heap.size size size 0 size size (zer size) (l.take hm) ad d O2.out (by rfl) (by rw [HLT.out]; rfl) HBT.out (by rw [HLT.out]; exact hmS) (by rw [HLT.out, zer_length]; omega) ?_; intro w3 o3 b3; have U13 := hid (b3 w1 HB12.out); have q38 := ((HB1.out.below U13.out).cell 38).trans HC.out.c38; rw [HN.out] at q38; clear q38')
  go_loopg [33] n (fun g i wr => ∃ (j : Nat) (out : List UInt8), i = .int .i64 j ∧ j + g = n ∧ OwnB wr w1.heap.size (.slice (some ⟨w1.heap.size, 0, none⟩) size size) out ∧ Below w1.heap.size w1 wr ∧ out.length = size ∧ Hid (layS size l (xs.drop j) out = R))
  case atStart => exact ⟨0, _, rfl, by omega, o3, U13.out, (splL_length _ _ _ (by rw [HLT.out, zer_length]; omega)).trans (zer_length _), by rw [← HL0.out]; exact HRR⟩
  case round =>
    obtain ⟨j, out, rfl, hj, ho, hu, hol, hf⟩ := hrel
    have HO := hid ho
    have HU := hid hu
    have HOL := hid hol
    clear ho hu hol
    rcases gk with _ | m
    · have hjn : ((j : Int) < (n : Int)) = False := by simp; omega
      have hR : out = R := by
        rw [← hf.out, List.drop_of_length_le (by rw [HN.out]; omega)]
        rfl
      subst hR
      go_wp2_with fail
      go_ret
      exact ⟨_, rfl, HO.out.mono HU1.out.size, up_trans HU1.out HU.out⟩
    · have hjn : ((j : Int) < (n : Int)) = True := by simp; omega
      have hjl : j < xs.length := by have := HN.out; omega
      have hur := up_trans HU1.out HU.out
      obtain ⟨ad2, rfl⟩ := HR.out.sect_ad hjl
      obtain ⟨s, hs⟩ : ∃ s, xs[j]? = some s := ⟨_, List.getElem?_eq_getElem hjl⟩
      obtain ⟨k0, k1, k2, k3, k4, k5, k6⟩ := (HR.out.below hur).sect hs
      obtain ⟨b1, b2', b3', b4, b5⟩ := HS.out s (List.mem_of_getElem? hs)
      have hmr : max (s.rva : Int) 0 = (s.rva : Int) := by omega
      have hd : xs.drop j = s :: xs.drop (j + 1) := by
        rw [List.drop_eq_getElem_cons hjl]
        congr 1
        rw [List.getElem?_eq_getElem hjl] at hs
        exact Option.some.inj hs
      have hf2 : layS size l (xs.drop (j + 1)) (layTo size l out s size) = R := by
        have h := hf.out
        rw [hd] at h
        exact h
      have HF2 := hid hf2
      obtain ⟨w4, hw4⟩ : ∃ w4, wr.alloc (.cells #[.string (S s.name), .int .i64 s.vs, .int .i64 s.rva, .int .i64 s.raw, .int .i64 s.pt, .int .i64 s.ch] 37) = w4 := ⟨_, rfl⟩
      have hB4 : Blk w4 wr.heap.size #[.string (S s.name), .int .i64 s.vs, .int .i64 s.rva, .int .i64 s.raw, .int .i64 s.pt, .int .i64 s.ch] 37 := hw4 ▸ Blk.new _ _ _
      have hr4 : Below wr.heap.size wr w4 := hw4 ▸ up_alloc (up_refl _) _
      have HB4 := hid hB4
      have HO4 := hid (HO.out.below hr4)
      have HU4 := hid (up_trans HU.out hr4)
      have hgw : w1.heap.size ≠ wr.heap.size := by
        obtain ⟨g', cap', e, hg', hlt', _⟩ := HO.out.bs
        simp at e
        have := e.1
        omega
      obtain ⟨sb, hsb⟩ : ∃ sb, wr.heap.size = sb := ⟨_, rfl⟩
      have HSB := hid hsb
      rw [hsb] at hgw
      have HB4' : Hid (Blk w4 sb #[.string (S s.name), .int .i64 s.vs, .int .i64 s.rva, .int .i64 s.raw, .int .i64 s.pt, .int .i64 s.ch] 37) := hsb ▸ hB4
      have c2 := HB4'.out.cell 2
      simp at c2
      clear hur hf hf2 hd hs hB4 hr4
      go_wp2_with fail
      go_loopw [8] (fun k wq => ∃ m : Nat, k = .int .i64 m ∧ s.rva ≤ m ∧ m ≤ 4294967295 + 262144 ∧ OwnB wq w1.heap.size (.slice (some ⟨w1.heap.size, 0, none⟩) size size) (layTo size l out s m) ∧ Below w1.heap.size w1 wq ∧
        Blk wq sb #[.string (S s.name), .int .i64 s.vs, .int .i64 s.rva, .int .i64 s.raw, .int .i64 s.pt, .int .i64 s.ch] 37) (fun k _ => size - (intOf k).toNat)
      case atStart => exact ⟨s.rva, rfl, Nat.le_refl _, by omega, by rw [layTo_start _ _ _ _ _ (Nat.le_refl _) HOL.out]; exact HO4.out, HU4.out, HB4'.out⟩
      case round =>
        obtain ⟨q, rfl, hq1, hq2, hoq, huq, hbq⟩ := hrel
        have z4 := ((HB1.out.below huq).cell 4).trans HC.out.c4
        have z2 := hbq.cell 2
        have z3 := hbq.cell 3
        have z5 := hbq.cell 4
        simp at z2 z3 z5
        have HOQ := hid hoq
        have HUQ := hid huq
        have HBQ := hid hbq
        clear huq hbq
        by_cases hqs : q < size
        · have dqs : decide (q < size) = true := by simp; exact hqs
          by_cases hqr : q < s.rva + s.raw
          · have hwi : withinB q s.rva s.raw = true := by simp only [withinB, decide_eq_true_eq]; omega
            have HWI := hid hwi
            obtain ⟨bb, v0, v1⟩ : ∃ b, wr.cell? ⟨w1.heap.size, q, none⟩ = some b ∧ wr.frozen? ⟨w1.heap.size, q, none⟩ = false := by
              obtain ⟨g', cap', e, -, -, -, hcs⟩ := hoq.cell
              simp at e
              obtain ⟨rfl, -, -⟩ := e
              exact ⟨_, (hcs q (by rw [layTo_length]; exact hqs)).1, (hcs q (by rw [layTo_length]; exact hqs)).2.1⟩
            have hby := sect_byteAt (some ad) d l ((s.pt : Int) + (q : Int) - (s.rva : Int)) wr (HB.out.below (up_trans HU1.out HUQ.out))
            rw [HNL.out] at hby
            have HBY := hid hby
            clear hwi hoq hby
            go_wp2_with fail
            refine (sect_within q s.rva s.raw wr (by omega) (by omega) (by omega) (by omega) (by omega) (by omega)).mono ?_
            rintro e w' ⟨rfl, rfl⟩
            rw [HWI.out]
            go_wp2_with fail
            refine HBY.out.mono ?_
            rintro e w' ⟨rfl, rfl⟩
            go_wp2_with fail
            go_roundw
            case measure => simp [intOf]; omega
            case rel =>
              refine ⟨q + 1, by go_num, by omega, by omega, ?_, HUQ.out.setCell (Nat.le_refl _) _, HBQ.out.apart _ (fun e => hgw e) _⟩
              rw [← layTo_step size l out s q hq1 hqr hqs HOL.out]
              exact HOQ.out.set1 (by rw [layTo_length]; exact hqs) _ _ rfl
          · have hwi : withinB q s.rva s.raw = false := by simp only [withinB, decide_eq_false_iff_not]; omega
            have HWI := hid hwi
            clear hwi hoq
            go_wp2_with fail
            refine (sect_within q s.rva s.raw wr (by omega) (by omega) (by omega) (by omega) (by omega) (by omega)).mono ?_
            rintro e w' ⟨rfl, rfl⟩
            rw [HWI.out]
            go_wp2_with fail
            go_roundg m
            case measure => omega
            case rel => exact ⟨j + 1, layTo size l out s size, by go_num, by omega, by rw [← layTo_end size l out s q (.inr (by omega))]; exact HOQ.out, HUQ.out, layTo_length _ _ _ _ _, HF2⟩
        · have dqs : decide (q < size) = false := by simp; omega
          clear hoq
          go_wp2_with fail
          go_roundg m
          case measure => omega
          case rel => exact ⟨j + 1, layTo size l out s size, by go_num, by omega, by rw [← layTo_end size l out s q (.inl (by omega))]; exact HOQ.out, HUQ.out, layTo_length _ _ _ _ _, HF2⟩
end Go.Proofs.Ytajcihcbgmpdjaa
