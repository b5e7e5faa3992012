/- slipwaylaw5.awake, walked. -/
import Derived.Test.YtajcihcbgmpdjaaMade
import Derived.Test.YtajcihcbgmpdjaaParse
namespace Go.Proofs.Ytajcihcbgmpdjaa
open Go.RowKit

attribute [-go_sem] storeVar

theorem Trip.none (w : World) : Trip w none 0 0 [] := ⟨.nil _ _, rfl, Nat.le_refl _, by decide⟩
theorem Bs.none (w : World) : Bs w none 0 [] := ⟨.nil _ _, Nat.le_refl _, by decide⟩

theorem parse_nil : parseF [] = .error 2 := rfl

/-- The head of the image of one section. -/
theorem parse_made_nil : ∃ h s, parseF (madeF [] []) = .ok h ∧ h.base = 65536 ∧ h.size = 8192 ∧ h.entry = 0 ∧ h.headers = 1024 ∧ h.chars = 8226 ∧ h.stamp = 77 ∧ h.sects = [s] ∧
    s.vs = 17 ∧ s.rva = 4096 ∧ s.raw = 512 ∧ s.pt = 1024 ∧ s.ch = 1610612736 := by
  have h := made_nil
  cases hp : parseF (madeF [] []) with
  | error e => rw [hp] at h; simp [headSays] at h
  | ok x =>
    rw [hp] at h
    simp only [headSays] at h
    have hl : x.sects.length = 1 := by
      have h5 := congrArg (fun l => l[5]?) h
      simp at h5
      omega
    obtain ⟨s, hs⟩ := List.length_eq_one_iff.1 hl
    rw [hs] at h
    simp at h
    refine ⟨x, s, rfl, ?_⟩
    simp [hs]
    omega

theorem round_1 : roundF 1 4096 = 4096 := by decide
theorem round_0 : roundF 0 4096 = 0 := by decide

/-- A made image, parsed. -/
theorem parse_own (w : World) (base : Nat) (v : Value) (l : List UInt8) (h : OwnB w base v l) :
    Calls Try.prog 13 #[v] w fun e w' => ParseOk (parseF l) w e w' := by
  obtain ⟨g, cap, rfl, _, _, hbs⟩ := h.bs
  exact hdr_Parse _ _ _ _ hbs

set_option maxRecDepth 100000 in
set_option maxHeartbeats 4000000 in
theorem law_awake (w : World) : Calls Try.prog 11 #[] w fun e w' => e = .returned (.bool true) ∧ Below w.heap.size w w' := by
  obtain ⟨h, s, hp, p1, p2, p3, p4, p5, p6, p7, p8, p9, p10, p11, p12⟩ := parse_made_nil
  have HP := hid hp
  have HH := hid (⟨p1, p2, p7⟩ : h.base = 65536 ∧ h.size = 8192 ∧ h.sects = [s])
  clear hp p1 p2 p3 p4 p5 p6 p7 p8 p9 p10 p11 p12
  go_enter Try.func11, Try.ntmps11
  go_wp2_with fail
  refine (hdr_Parse none 0 [] w (Bs.none w)).mono ?_
  rw [parse_nil]
  rintro e w1 ⟨b1, rfl⟩
  have U1 := hid b1
  clear b1
  go_wp2_with (refine wpList_store_row (by rfl) 32 (.tmp 1) (.tmp 7) (by rfl) w1.heap.size headZ (by rfl) (by rfl) 32 headZ (Blk.new _ _ _) headInfo (by rfl) (headV_one _ _ _ _ _ _ _ _ rfl) ?_)
  refine (law_Made none 0 [] none 0 [] _ (Trip.none _) (Trip.none _) (by simp)).mono ?_
  rintro e w2 ⟨v2, rfl, o2, b2⟩
  have U2 : Hid (Below w.heap.size w w2) := up_trans (below_setRow (up_alloc U1.out _) _ U1.out.size _) b2
  have O2 : Hid (OwnB w2 0 v2 (madeF [] [])) := o2.mono (Nat.zero_le _)
  clear o2 b2
  go_wp2_with fail
  refine (parse_own w2 0 v2 _ O2.out).mono ?_
  rw [HP.out]
  rintro e w3 ⟨b3, v3, rfl, o3⟩
  have U3 := hid (up_trans U2.out b3)
  obtain ⟨h1, h2, h3⟩ := HH.out
  obtain ⟨A3, c3, rfl, -, -⟩ := own_row o3
  have one3 : (Value.slice A3 h.sects.length c3).oneCell' = true := rfl
  obtain ⟨cs, hcs⟩ : ∃ cs, headV h.base h.stamp h.chars h.entry h.size h.headers (fun k => h.d k) (.slice A3 h.sects.length c3) = cs := ⟨_, rfl⟩
  have hval : h.val (.slice A3 h.sects.length c3) = .agg cs := by rw [HeadD.val, hcs]
  rw [hval]
  have HCS := hid hcs
  have c0 : cs[0]? = some (.int .u64 65536) := by rw [← hcs, h1]; rfl
  have c4 : cs[4]? = some (.int .i64 8192) := by rw [← hcs, h2]; rfl
  have c38 : cs[38]? = some (.slice A3 1 c3) := by rw [← hcs, h3]; rfl
  have hsz : cs.size = 39 := by rw [← hcs]; rfl
  have hone : cs.all (·.oneCell') = true := by rw [← hcs]; exact headV_one _ _ _ _ _ _ _ _ rfl
  have HS := hid hsz
  have HO := hid hone
  clear hcs hval h1 h2 h3 b3 o3 hsz hone
  go_wp2_with (refine wpList_store_row (by rfl) 32 (.tmp 3) (.tmp 12) (by rfl) w3.heap.size cs (by rfl) (by rfl) 32 headZ (Blk.new _ _ _) (by rw [HS.out]; exact headInfo) (by rw [HS.out]; rfl) HO.out ?_; obtain ⟨w4, hw4⟩ : ∃ w4, w4 = (w3.alloc (.cells headZ 32)).setRow w3.heap.size cs := ⟨_, rfl⟩; have B4 : Hid (Blk w4 w3.heap.size cs 32) := hw4 ▸ (Blk.new w3 headZ 32).setRow cs; have U4 : Hid (Below w.heap.size w w4) := hw4 ▸ below_setRow (up_alloc U3.out _) _ U3.out.size _; have q0 := (B4.out.cell 0).trans c0; have q4 := (B4.out.cell 4).trans c4; have q38 := (B4.out.cell 38).trans c38; rw [show (w3.alloc (.cells #[.int .u64 0, .int .i64 0, .int .i64 0, .int .i64 0, .int .i64 0, .int .i64 0, .int .i64 0, .int .i64 0, .int .i64 0, .int .i64 0, .int .i64 0, .int .i64 0, .int .i64 0, .int .i64 0, .int .i64 0, .int .i64 0, .int .i64 0, .int .i64 0, .int .i64 0, .int .i64 0, .int .i64 0, .int .i64 0, .int .i64 0, .int .i64 0, .int .i64 0, .int .i64 0, .int .i64 0, .int .i64 0, .int .i64 0, .int .i64 0, .int .i64 0, .int .i64 0, .int .i64 0, .int .i64 0, .int .i64 0, .int .i64 0, .int .i64 0, .int .i64 0, .slice none 0 0] 32)).setRow w3.heap.size cs = w4 from hw4.symm]; clear hw4 c0 c4 c38)
  refine (hdr_Round 1 4096 _ (by omega)).mono ?_
  rintro e w' ⟨rfl, rfl⟩
  rw [round_1]
  go_wp2_with fail
  refine (hdr_Round 0 4096 _ (by omega)).mono ?_
  rintro e w' ⟨rfl, rfl⟩
  rw [round_0]
  go_wp2_with fail
  go_ret
  exact ⟨rfl, U4.out⟩
end Go.Proofs.Ytajcihcbgmpdjaa
