/- HdrNumbers: a made image with numbers turned, parsed. -/
import Derived.Test.YtajcihcbgmpdjaaAwake5
import Derived.Test.YtajcihcbgmpdjaaMadeS
namespace Go.Proofs.Ytajcihcbgmpdjaa
open Go.RowKit

/-- What Parse tells of a head whose numbers may be. -/
theorem parse_gen (l : List UInt8) (zs : List (Int × Int × Int)) (hl : 1024 ≤ l.length) (o1 : 1 ≤ zs.length) (o6 : zs.length ≤ 6) (t0 : l.take 2 = [77, 90]) (t1 : (l.drop 64).take 4 = [80, 69, 0, 0])
    (n60 : numAt l 60 4 = 64) (n68 : numAt l 68 2 = 34404) (n84 : numAt l 84 2 = 240) (n88 : numAt l 88 2 = 523) (n196 : numAt l 196 4 = 16) (n120 : numAt l 120 4 = 4096) (n124 : numAt l 124 4 = 512) (n148 : numAt l 148 4 = 1024) (n70 : numAt l 70 2 = zs.length)
    (n144 : numAt l 144 4 = secsEnd zs 4096) (hb0 : numAt l 112 8 % 65536 = 0) (hb1 : 65536 ≤ numAt l 112 8) (hb2 : numAt l 112 8 ≤ 35184372088832) (he : numAt l 104 4 < secsEnd zs 4096)
    (hs : ∀ j, j < zs.length → (secsD zs 0 4096 1024)[j]? = some (sectAt l 64 (264 + 40 * ((0 + j : Nat) : Int)))) (hfit : 1024 + secsLen zs ≤ l.length) :
    parseF l = .ok (headAt l ((64 : Nat) : Int) (secsD zs 0 4096 1024)) := by
  obtain ⟨e1, e2, e3, e4⟩ := secsEnd_ge zs 4096
  have e3 := e3 rfl
  have hstart : startE l = 0 := by
    have i0 : inB l.length ((64 : Nat) : Int) 264 = true := by simp only [inB, decide_eq_true_eq]; omega
    unfold startE
    rw [if_neg (by omega), if_neg (by rw [t0]; simp), n60, if_neg (by rw [i0]; simp), if_neg (by rw [t1]; simp)]
  have f4 : numAt l (((64 : Nat) : Int) + 4) 2 = 34404 := n68
  have f20 : numAt l (((64 : Nat) : Int) + 20) 2 = 240 := n84
  have f24 : numAt l (((64 : Nat) : Int) + 24) 2 = 523 := n88
  have f132 : numAt l (((64 : Nat) : Int) + 132) 4 = 16 := n196
  have f56 : numAt l (((64 : Nat) : Int) + 56) 4 = 4096 := n120
  have f60 : numAt l (((64 : Nat) : Int) + 60) 4 = 512 := n124
  have f6 : numAt l (((64 : Nat) : Int) + 6) 2 = zs.length := n70
  have f80 : (headAt l ((64 : Nat) : Int) []).size = secsEnd zs 4096 := n144
  have f84 : (headAt l ((64 : Nat) : Int) []).headers = 1024 := n148
  obtain ⟨bs, hbs⟩ : ∃ b, numAt l 112 8 = b := ⟨_, rfl⟩
  obtain ⟨en, hen⟩ : ∃ b, numAt l 104 4 = b := ⟨_, rfl⟩
  rw [hbs] at hb0 hb1 hb2
  rw [hen] at he
  have f48 : (headAt l ((64 : Nat) : Int) []).base = bs := hbs
  have f40 : (headAt l ((64 : Nat) : Int) []).entry = en := hen
  have hforms : formsE l ((64 : Nat) : Int) = 0 := by
    unfold formsE
    rw [f4, f20, f24, f132]
    rfl
  have hsects : sectsF l ((64 : Nat) : Int) (secsEnd zs 4096 : Nat) ((1024 : Nat) : Int) = some (secsD zs 0 4096 1024) := by
    unfold sectsF
    rw [f6, if_neg (by omega)]
    have hr : roundF ((1024 : Nat) : Int) 4096 = ((4096 : Nat) : Int) := by decide
    rw [hr]
    have := sects_made l (secsEnd zs 4096) zs 0 4096 1024 rfl (by omega) hs
    rw [if_pos (.inl hfit)] at this
    exact this
  have hsizes : sizesE l ((64 : Nat) : Int) ((bs : Nat) : Int) ((secsEnd zs 4096 : Nat) : Int) = 0 := by
    unfold sizesE
    rw [f56, f60, if_neg (by omega)]
  unfold parseF
  rw [if_neg (by rw [hstart]; simp), n60, if_neg (by rw [hforms]; simp)]
  unfold parse2
  rw [f48, f80, if_neg (by rw [hsizes]; simp), parse3_some (xs := secsD zs 0 4096 1024) (by rw [f80, f84]; exact hsects), f80, f40, if_neg (by omega)]

/-- Six numbers put over an image. -/
def nums6 (M : List UInt8) (base stamp chars entry k rva size : Nat) : List UInt8 :=
  putF (putF (putF (putF (putF (putF M 112 8 base) 72 4 stamp) 86 2 chars) 104 4 entry) (200 + 8 * k) 4 rva) (204 + 8 * k) 4 size

theorem nums6_length (M : List UInt8) (base stamp chars entry k rva size : Nat) : (nums6 M base stamp chars entry k rva size).length = M.length := by simp [nums6, putF_length]
theorem nums6_far (M : List UInt8) (base stamp chars entry k rva size i : Nat) (h1 : i < 112 ∨ 120 ≤ i) (h2 : i < 72 ∨ 76 ≤ i) (h3 : i < 86 ∨ 88 ≤ i) (h4 : i < 104 ∨ 108 ≤ i) (h5 : i < 200 + 8 * k ∨ 208 + 8 * k ≤ i) :
    (nums6 M base stamp chars entry k rva size)[i]? = M[i]? := by
  rw [nums6, putF_far _ _ _ _ _ (by omega), putF_far _ _ _ _ _ (by omega), putF_far _ _ _ _ _ (by omega), putF_far _ _ _ _ _ (by omega), putF_far _ _ _ _ _ (by omega), putF_far _ _ _ _ _ (by omega)]

theorem nums6_num (M : List UInt8) (base stamp chars entry k rva size : Nat) (a' n' : Int) (a n : Nat) (ha : a' = a) (hn : n' = n) (hM : a + n ≤ M.length) (h1 : a + n ≤ 112 ∨ 120 ≤ a) (h2 : a + n ≤ 72 ∨ 76 ≤ a) (h3 : a + n ≤ 86 ∨ 88 ≤ a) (h4 : a + n ≤ 104 ∨ 108 ≤ a) (h5 : a + n ≤ 200 + 8 * k ∨ 208 + 8 * k ≤ a) :
    numAt (nums6 M base stamp chars entry k rva size) a' n' = numAt M a' n' :=
  numAt_congr _ _ a' n' a n ha hn (by rw [nums6_length]; exact hM) hM (fun i h6 h7 => nums6_far M base stamp chars entry k rva size i (by omega) (by omega) (by omega) (by omega) (by omega))

/-- A number that is put in the middle of a chain of puts is read behind it. -/
theorem put_read (M X : List UInt8) (a' n' : Int) (a n v : Nat) (ha : a' = a) (hn : n' = n) (hM : a + n ≤ M.length) (hX : X.length = M.length) (h : ∀ i, a ≤ i → i < a + n → X[i]? = (putF M a n v)[i]?) : numAt X a' n' = v % 256 ^ n := by
  rw [numAt_congr X (putF M a n v) a' n' a n ha hn (by omega) (by rw [putF_length]; exact hM) h, putF_num M a' n' a n v ha hn hM]

set_option maxRecDepth 100000 in
set_option maxHeartbeats 1000000 in
theorem parse_nums6 (base stamp chars entry k rva size : Nat) (hk : k < 16) (hb0 : base % 65536 = 0) (hb1 : 65536 ≤ base) (hb2 : base ≤ 35184372088832) (he : entry < 8192) :
    ∃ h s, parseF (nums6 (madeF [] []) base stamp chars entry k rva size) = .ok h ∧ h.base = base ∧ h.stamp = stamp % 4294967296 ∧ h.chars = chars % 65536 ∧ h.entry = entry ∧ h.d (2 * k) = rva % 4294967296 ∧ h.d (2 * k + 1) = size % 4294967296 ∧ h.sects = [s] ∧ s.name = [115, 48] := by
  obtain ⟨hM, hMl⟩ := madeF_L []
  have hzs : sectsOf [] = [(16, 512, 3)] := rfl
  rw [hzs] at hM hMl
  obtain ⟨M, hMe⟩ : ∃ M, madeF [] [] = M := ⟨_, rfl⟩
  rw [hMe] at hM hMl ⊢
  obtain ⟨X, hX⟩ : ∃ X, nums6 M base stamp chars entry k rva size = X := ⟨_, rfl⟩
  rw [hX]
  have hl : X.length = M.length := by rw [← hX, nums6_length]
  have hml := hM.len
  have hnum : ∀ (a' n' : Int) (a n : Nat), a' = a → n' = n → a + n ≤ M.length → (a + n ≤ 112 ∨ 120 ≤ a) → (a + n ≤ 72 ∨ 76 ≤ a) → (a + n ≤ 86 ∨ 88 ≤ a) → (a + n ≤ 104 ∨ 108 ≤ a) → (a + n ≤ 200 + 8 * k ∨ 208 + 8 * k ≤ a) → numAt X a' n' = numAt M a' n' :=
    fun a' n' a n ha hn h0 h1 h2 h3 h4 h5 => by rw [← hX]; exact nums6_num M base stamp chars entry k rva size a' n' a n ha hn h0 h1 h2 h3 h4 h5
  have hfar : ∀ i, (i < 112 ∨ 120 ≤ i) → (i < 72 ∨ 76 ≤ i) → (i < 86 ∨ 88 ≤ i) → (i < 104 ∨ 108 ≤ i) → (i < 200 + 8 * k ∨ 208 + 8 * k ≤ i) → X[i]? = M[i]? :=
    fun i h1 h2 h3 h4 h5 => by rw [← hX]; exact nums6_far M base stamp chars entry k rva size i h1 h2 h3 h4 h5
  have hn := hM.nums
  simp only [headNums, List.cons.injEq, and_true] at hn
  have HN := hid hn
  clear hn
  have hse : secsEnd [(16, 512, 3)] 4096 = 8192 := by decide
  -- the numbers that are put
  have r112 : numAt X 112 8 = base % 256 ^ 8 := put_read M X 112 8 112 8 base rfl rfl (by omega) hl (fun i h1 h2 => by
    rw [← hX, nums6, putF_far _ _ _ _ _ (by omega), putF_far _ _ _ _ _ (by omega), putF_far _ _ _ _ _ (by omega), putF_far _ _ _ _ _ (by omega), putF_far _ _ _ _ _ (by omega)])
  have r72 : numAt X 72 4 = stamp % 256 ^ 4 := put_read (putF M 112 8 base) X 72 4 72 4 stamp rfl rfl (by rw [putF_length]; omega) (by rw [hl, putF_length]) (fun i h1 h2 => by
    rw [← hX, nums6, putF_far _ _ _ _ _ (by omega), putF_far _ _ _ _ _ (by omega), putF_far _ _ _ _ _ (by omega), putF_far _ _ _ _ _ (by omega)])
  have r86 : numAt X 86 2 = chars % 256 ^ 2 := put_read (putF (putF M 112 8 base) 72 4 stamp) X 86 2 86 2 chars rfl rfl (by rw [putF_length, putF_length]; omega) (by rw [hl, putF_length, putF_length]) (fun i h1 h2 => by
    rw [← hX, nums6, putF_far _ _ _ _ _ (by omega), putF_far _ _ _ _ _ (by omega), putF_far _ _ _ _ _ (by omega)])
  have r104 : numAt X 104 4 = entry % 256 ^ 4 := put_read (putF (putF (putF M 112 8 base) 72 4 stamp) 86 2 chars) X 104 4 104 4 entry rfl rfl (by rw [putF_length, putF_length, putF_length]; omega) (by rw [hl, putF_length, putF_length, putF_length]) (fun i h1 h2 => by
    rw [← hX, nums6, putF_far _ _ _ _ _ (by omega), putF_far _ _ _ _ _ (by omega)])
  have rrva : numAt X (((64 : Nat) : Int) + (136 + 4 * ((2 * k : Nat) : Int))) 4 = rva % 256 ^ 4 :=
    put_read (putF (putF (putF (putF M 112 8 base) 72 4 stamp) 86 2 chars) 104 4 entry) X _ 4 (200 + 8 * k) 4 rva (by omega) rfl (by rw [putF_length, putF_length, putF_length, putF_length]; omega) (by rw [hl, putF_length, putF_length, putF_length, putF_length]) (fun i h1 h2 => by
    rw [← hX, nums6, putF_far _ _ _ _ _ (by omega)])
  have rsz : numAt X (((64 : Nat) : Int) + (136 + 4 * ((2 * k + 1 : Nat) : Int))) 4 = size % 256 ^ 4 :=
    put_read (putF (putF (putF (putF (putF M 112 8 base) 72 4 stamp) 86 2 chars) 104 4 entry) (200 + 8 * k) 4 rva) X _ 4 (204 + 8 * k) 4 size (by omega) rfl (by rw [putF_length, putF_length, putF_length, putF_length, putF_length]; omega) (by rw [hl, putF_length, putF_length, putF_length, putF_length, putF_length]) (fun i h1 h2 => by
    rw [← hX, nums6])
  have hbb : base % 256 ^ 8 = base := Nat.mod_eq_of_lt (by omega)
  have hee : entry % 256 ^ 4 = entry := Nat.mod_eq_of_lt (by omega)
  have RA := hid (r112.trans hbb)
  have RD := hid (r104.trans hee)
  have p4 : (256 : Nat) ^ 4 = 4294967296 := by decide
  have p2 : (256 : Nat) ^ 2 = 65536 := by decide
  rw [p4] at r72 rrva rsz
  rw [p2] at r86
  have RB := hid r72
  have RC := hid r86
  have RE := hid rrva
  have RF := hid rsz
  clear r112 r72 r86 r104 rrva rsz hbb hee
  have t0 : X.take 2 = [77, 90] := by
    have := seg_congr (l := X) (m := M) (a := 0) (n := 2) (fun i hi => hfar _ (by omega) (by omega) (by omega) (by omega) (by omega))
    exact this.trans (two_of M 0 (by omega) 77 90 HN.out.2.2.2.2.2.2.2.2.2.2.2.2.2.1)
  have t1 : (X.drop 64).take 4 = [80, 69, 0, 0] := by
    have := seg_congr (l := X) (m := M) (a := 64) (n := 4) (fun i hi => hfar _ (by omega) (by omega) (by omega) (by omega) (by omega))
    exact this.trans (four_of M 64 (by omega) 80 69 0 0 HN.out.2.2.2.2.2.2.2.2.2.2.2.2.2.2)
  have T0 := hid t0
  have T1 := hid t1
  have hsec : ∀ j, j < [((16 : Int), (512 : Int), (3 : Int))].length → (secsD [(16, 512, 3)] 0 4096 1024)[j]? = some (sectAt X 64 (264 + 40 * ((0 + j : Nat) : Int))) := fun j hj => by
    rw [hM.sect j hj]
    simp at hj
    subst hj
    exact congrArg some (sectAt_congr _ _ 0 (by omega) (by omega) (fun i h1 h2 => (hfar i (by omega) (by omega) (by omega) (by omega) (by omega)).symm))
  have q60 := hid ((hnum 60 4 60 4 rfl rfl (by omega) (by omega) (by omega) (by omega) (by omega) (by omega)).trans HN.out.1)
  have q68 := hid ((hnum 68 2 68 2 rfl rfl (by omega) (by omega) (by omega) (by omega) (by omega) (by omega)).trans HN.out.2.1)
  have q84 := hid ((hnum 84 2 84 2 rfl rfl (by omega) (by omega) (by omega) (by omega) (by omega) (by omega)).trans HN.out.2.2.1)
  have q88 := hid ((hnum 88 2 88 2 rfl rfl (by omega) (by omega) (by omega) (by omega) (by omega) (by omega)).trans HN.out.2.2.2.1)
  have q196 := hid ((hnum 196 4 196 4 rfl rfl (by omega) (by omega) (by omega) (by omega) (by omega) (by omega)).trans HN.out.2.2.2.2.1)
  have q148 := hid ((hnum 148 4 148 4 rfl rfl (by omega) (by omega) (by omega) (by omega) (by omega) (by omega)).trans HN.out.2.2.2.2.2.2.2.2.2.1)
  have q120 := hid ((hnum 120 4 120 4 rfl rfl (by omega) (by omega) (by omega) (by omega) (by omega) (by omega)).trans HN.out.2.2.2.2.2.2.2.2.2.2.1)
  have q124 := hid ((hnum 124 4 124 4 rfl rfl (by omega) (by omega) (by omega) (by omega) (by omega) (by omega)).trans HN.out.2.2.2.2.2.2.2.2.2.2.2.1)
  have q70 := hid ((hnum 70 2 70 2 rfl rfl (by omega) (by omega) (by omega) (by omega) (by omega) (by omega)).trans HN.out.2.2.2.2.2.2.2.2.2.2.2.2.1)
  have q144 := hid ((hnum 144 4 144 4 rfl rfl (by omega) (by omega) (by omega) (by omega) (by omega) (by omega)).trans hM.size)
  have hp := parse_gen X [(16, 512, 3)] (by omega) (by decide) (by decide) T0.out T1.out q60.out q68.out q84.out q88.out q196.out q120.out q124.out q148.out q70.out q144.out
    (by rw [RA.out]; exact hb0) (by rw [RA.out]; exact hb1) (by rw [RA.out]; exact hb2) (by rw [RD.out, hse]; exact he) hsec (by omega)
  obtain ⟨H, hH⟩ : ∃ H, headAt X ((64 : Nat) : Int) (secsD [(16, 512, 3)] 0 4096 1024) = H := ⟨_, rfl⟩
  rw [hH] at hp
  refine ⟨H, ⟨[115, UInt8.ofNat (48 + 0)], secV (16, 512, 3), 4096, secRaw (16, 512, 3), 1024, secCh (16, 512, 3)⟩, hp, ?_⟩
  subst hH
  have a1 : (headAt X ((64 : Nat) : Int) (secsD [(16, 512, 3)] 0 4096 1024)).base = numAt X 112 8 := rfl
  have a2 : (headAt X ((64 : Nat) : Int) (secsD [(16, 512, 3)] 0 4096 1024)).stamp = numAt X 72 4 := rfl
  have a3 : (headAt X ((64 : Nat) : Int) (secsD [(16, 512, 3)] 0 4096 1024)).chars = numAt X 86 2 := rfl
  have a4 : (headAt X ((64 : Nat) : Int) (secsD [(16, 512, 3)] 0 4096 1024)).entry = numAt X 104 4 := rfl
  have a5 : (headAt X ((64 : Nat) : Int) (secsD [(16, 512, 3)] 0 4096 1024)).d (2 * k) = numAt X (((64 : Nat) : Int) + (136 + 4 * ((2 * k : Nat) : Int))) 4 := rfl
  have a6 : (headAt X ((64 : Nat) : Int) (secsD [(16, 512, 3)] 0 4096 1024)).d (2 * k + 1) = numAt X (((64 : Nat) : Int) + (136 + 4 * ((2 * k + 1 : Nat) : Int))) 4 := rfl
  have a7 : (headAt X ((64 : Nat) : Int) (secsD [(16, 512, 3)] 0 4096 1024)).sects = secsD [(16, 512, 3)] 0 4096 1024 := rfl
  rw [a1, a2, a3, a4, a5, a6, a7]
  exact ⟨RA.out, RB.out, RC.out, RD.out, RE.out, RF.out, by simp only [secsD], rfl⟩
end Go.Proofs.Ytajcihcbgmpdjaa
