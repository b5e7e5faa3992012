/- SectRights: bits; walked. -/
import Derived.Test.YtajcihcbgmpdjaaAwake6
namespace Go.Proofs.Ytajcihcbgmpdjaa
open Go.RowKit

theorem ofInt_wrap (n : Int) : BitVec.ofInt 64 (IntKind.i64.wrap n) = BitVec.ofInt 64 n := by
  rw [IntKind.wrap_i64]
  apply BitVec.eq_of_toInt_eq
  simp only [BitVec.toInt_ofInt, Int.bmod_def]
  omega

theorem ofInt_nat (x : BitVec 64) : BitVec.ofInt 64 (x.toNat : Int) = x := by
  rw [BitVec.ofInt_natCast]
  simp

theorem bv_and (x y : Int) : BitVec.ofInt 64 (bits .and .i64 x y) = BitVec.ofInt 64 x &&& BitVec.ofInt 64 y := by
  show BitVec.ofInt 64 (IntKind.i64.wrap _) = _
  rw [ofInt_wrap]
  exact ofInt_nat _
theorem bv_or (x y : Int) : BitVec.ofInt 64 (bits .or .i64 x y) = BitVec.ofInt 64 x ||| BitVec.ofInt 64 y := by
  show BitVec.ofInt 64 (IntKind.i64.wrap _) = _
  rw [ofInt_wrap]
  exact ofInt_nat _
theorem bv_andNot (x y : Int) : BitVec.ofInt 64 (bits .andNot .i64 x y) = BitVec.ofInt 64 x &&& ~~~ BitVec.ofInt 64 y := by
  show BitVec.ofInt 64 (IntKind.i64.wrap _) = _
  rw [ofInt_wrap]
  exact ofInt_nat _

theorem hasBit_lsb (c : Int) (k : Int) (i : Nat) (hi : i < 64) (hk : BitVec.ofInt 64 k = BitVec.twoPow 64 i) : hasBit c k = (BitVec.ofInt 64 c).getLsbD i := by
  have h1 : BitVec.ofInt 64 c &&& BitVec.ofInt 64 k = if (BitVec.ofInt 64 c).getLsbD i then BitVec.twoPow 64 i else 0#64 := by rw [hk, BitVec.and_twoPow]
  have h2 := bv_and c k
  rw [h1] at h2
  unfold hasBit
  cases hb : (BitVec.ofInt 64 c).getLsbD i with
  | true =>
    rw [hb, if_pos rfl] at h2
    rw [bne_iff_ne]
    intro h0
    rw [h0] at h2
    have h3 := congrArg (fun x => x.getLsbD i) h2
    simp [hi] at h3
  | false =>
    rw [hb, if_neg (by simp)] at h1
    have h3 : bits .and .i64 c k = IntKind.i64.wrap ((BitVec.ofInt 64 c &&& BitVec.ofInt 64 k).toNat : Int) := rfl
    rw [h3, h1]
    rfl

/-- The three rights' bits. -/
def prot3 (r w x : Bool) : Int := (if r then 1 else 0) + (if w then 2 else 0) + (if x then 4 else 0)
theorem protF_bv (c : Int) : protF c = prot3 ((BitVec.ofInt 64 c).getLsbD 30) ((BitVec.ofInt 64 c).getLsbD 31) ((BitVec.ofInt 64 c).getLsbD 29) := by
  rw [protF, hasBit_lsb c 1073741824 30 (by decide) (by decide), hasBit_lsb c 2147483648 31 (by decide) (by decide), hasBit_lsb c 536870912 29 (by decide) (by decide)]
  rfl

theorem prot_mask (c : Int) : protF (bits .and .i64 c 3758096384) = protF c := by
  rw [protF_bv, protF_bv, bv_and]
  simp only [BitVec.getLsbD_and]
  rw [show (BitVec.ofInt 64 3758096384).getLsbD 30 = true by decide, show (BitVec.ofInt 64 3758096384).getLsbD 31 = true by decide, show (BitVec.ofInt 64 3758096384).getLsbD 29 = true by decide]
  simp
theorem prot_none (c : Int) : protF (bits .andNot .i64 c 3758096384) = 0 := by
  rw [protF_bv, bv_andNot]
  simp only [BitVec.getLsbD_and]
  rw [show (~~~ BitVec.ofInt 64 3758096384).getLsbD 30 = false by decide, show (~~~ BitVec.ofInt 64 3758096384).getLsbD 31 = false by decide, show (~~~ BitVec.ofInt 64 3758096384).getLsbD 29 = false by decide]
  simp [prot3]
theorem prot_r (c : Int) : protF (bits .or .i64 c 1073741824) = bits .or .i64 (protF c) 1 := by
  rw [protF_bv, protF_bv, bv_or]
  simp only [BitVec.getLsbD_or]
  rw [show (BitVec.ofInt 64 1073741824).getLsbD 30 = true by decide, show (BitVec.ofInt 64 1073741824).getLsbD 31 = false by decide, show (BitVec.ofInt 64 1073741824).getLsbD 29 = false by decide]
  cases (BitVec.ofInt 64 c).getLsbD 30 <;> cases (BitVec.ofInt 64 c).getLsbD 31 <;> cases (BitVec.ofInt 64 c).getLsbD 29 <;> decide
theorem prot_w (c : Int) : protF (bits .or .i64 c 2147483648) = bits .or .i64 (protF c) 2 := by
  rw [protF_bv, protF_bv, bv_or]
  simp only [BitVec.getLsbD_or]
  rw [show (BitVec.ofInt 64 2147483648).getLsbD 30 = false by decide, show (BitVec.ofInt 64 2147483648).getLsbD 31 = true by decide, show (BitVec.ofInt 64 2147483648).getLsbD 29 = false by decide]
  cases (BitVec.ofInt 64 c).getLsbD 30 <;> cases (BitVec.ofInt 64 c).getLsbD 31 <;> cases (BitVec.ofInt 64 c).getLsbD 29 <;> decide
theorem prot_x (c : Int) : protF (bits .or .i64 c 536870912) = bits .or .i64 (protF c) 4 := by
  rw [protF_bv, protF_bv, bv_or]
  simp only [BitVec.getLsbD_or]
  rw [show (BitVec.ofInt 64 536870912).getLsbD 30 = false by decide, show (BitVec.ofInt 64 536870912).getLsbD 31 = false by decide, show (BitVec.ofInt 64 536870912).getLsbD 29 = true by decide]
  cases (BitVec.ofInt 64 c).getLsbD 30 <;> cases (BitVec.ofInt 64 c).getLsbD 31 <;> cases (BitVec.ofInt 64 c).getLsbD 29 <;> decide
theorem prot_bounds (c : Int) : 0 ≤ protF c ∧ protF c ≤ 7 := by
  rw [protF_bv]
  cases (BitVec.ofInt 64 c).getLsbD 30 <;> cases (BitVec.ofInt 64 c).getLsbD 31 <;> cases (BitVec.ofInt 64 c).getLsbD 29 <;> decide

set_option maxRecDepth 100000 in
set_option maxHeartbeats 4000000 in
theorem walk_SectRights (w : World) (chars : Int) (wc : (Lit.int .i64 chars).wf = true) :
    Calls Try.prog 9 #[.int .i64 chars] w fun e w' => e = .returned (.bool true) ∧ Below w.heap.size w w' := by
  clear wc
  obtain ⟨c, hc⟩ : ∃ c, bits .and .i64 chars 4294967295 = c := ⟨_, rfl⟩
  obtain ⟨p, hp⟩ : ∃ p, protF c = p := ⟨_, rfl⟩
  have h1 := prot_mask c
  have h2 := prot_r c
  have h3 := prot_w c
  have h4 := prot_x c
  have h5 := prot_none c
  obtain ⟨p0, p7⟩ := prot_bounds c
  rw [hp] at h1 h2 h3 h4 p0 p7
  have HP := hid hp
  have H1 := hid h1
  have H2 := hid h2
  have H3 := hid h3
  have H4 := hid h4
  have H5 := hid h5
  clear hp h1 h2 h3 h4 h5
  go_enter Try.func9, Try.ntmps9
  go_wp2_with fail
  refine (sect_Prot c w).mono ?_
  rintro e w' ⟨rfl, rfl⟩
  rw [HP.out]
  go_wp2_with fail
  refine (sect_Prot _ w).mono ?_
  rintro e w' ⟨rfl, rfl⟩
  rw [H1.out]
  go_wp2_with fail
  refine (sect_Prot _ w).mono ?_
  rintro e w' ⟨rfl, rfl⟩
  rw [H2.out]
  go_wp2_with fail
  refine (sect_Prot _ w).mono ?_
  rintro e w' ⟨rfl, rfl⟩
  rw [H3.out]
  go_wp2_with fail
  refine (sect_Prot _ w).mono ?_
  rintro e w' ⟨rfl, rfl⟩
  rw [H4.out]
  go_wp2_with fail
  refine (sect_Prot _ w).mono ?_
  rintro e w' ⟨rfl, rfl⟩
  rw [H5.out]
  go_wp2_with fail
  refine (law6_awake w).mono ?_
  rintro e w' ⟨rfl, hb⟩
  have HB := hid hb
  clear hb
  go_wp2_with fail
  go_ret
  exact ⟨rfl, HB.out⟩
end Go.Proofs.Ytajcihcbgmpdjaa
