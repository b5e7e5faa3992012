/- Pieces of bytes, and numbers put into them. -/
import Derived.Test.YtajcihcbgmpdjaaPutF
namespace Go.Proofs.Ytajcihcbgmpdjaa
open Go.RowKit

theorem lnum_lbytes : ∀ (n v : Nat), lnum (lbytes v n) = v % 256 ^ n
  | 0, v => by simp [lbytes, lnum, Nat.mod_one]
  | n + 1, v => by
    simp only [lbytes, lnum, lnum_lbytes n]
    rw [Nat.pow_succ, Nat.mul_comm (256 ^ n) 256, Nat.mod_mul]
    simp

def seg (l : List UInt8) (a n : Nat) : List UInt8 := (l.drop a).take n

theorem seg_get (l : List UInt8) (a n k : Nat) : (seg l a n)[k]? = if k < n then l[a + k]? else none := by
  rw [seg, List.getElem?_take]
  split
  · rw [List.getElem?_drop]
  · rfl

theorem seg_congr {l m : List UInt8} {a n : Nat} (h : ∀ k, k < n → l[a + k]? = m[a + k]?) : seg l a n = seg m a n := by
  apply List.ext_getElem?
  intro k
  rw [seg_get, seg_get]
  split
  · rename_i hk; exact h k hk
  · rfl

theorem seg_length (l : List UInt8) (a n : Nat) (h : a + n ≤ l.length) : (seg l a n).length = n := by
  simp [seg]; omega

theorem numAt_seg (l : List UInt8) (a' n' : Int) (a n : Nat) (ha : a' = a) (hn : n' = n) (h : a + n ≤ l.length) : numAt l a' n' = lnum (seg l a n) := by
  subst ha hn
  have hi : inB l.length (a : Int) (n : Int) = true := by simp only [inB, decide_eq_true_eq]; omega
  rw [numAt, hi, if_pos rfl]
  rfl

/-- A number that is read where two rows of bytes are alike. -/
theorem numAt_congr (l m : List UInt8) (a' n' : Int) (a n : Nat) (ha : a' = a) (hn : n' = n) (hl : a + n ≤ l.length) (hm : a + n ≤ m.length) (h : ∀ k, a ≤ k → k < a + n → l[k]? = m[k]?) :
    numAt l a' n' = numAt m a' n' := by
  rw [numAt_seg l a' n' a n ha hn hl, numAt_seg m a' n' a n ha hn hm, seg_congr (fun k hk => h (a + k) (by omega) (by omega))]

theorem putF_far (l : List UInt8) (a n v k : Nat) (h : k < a ∨ a + n ≤ k) : (putF l a n v)[k]? = l[k]? := by
  unfold putF
  split
  · rename_i hl
    unfold putL
    rcases h with h | h
    · rw [List.append_assoc, List.getElem?_append_left (by simp; omega), List.getElem?_take, if_pos h]
    · rw [List.getElem?_append_right (by simp [lbytes_length]; omega), List.getElem?_drop]
      congr 1
      simp [lbytes_length]
      omega
  · rfl

theorem putF_seg (l : List UInt8) (a n v : Nat) (h : a + n ≤ l.length) : seg (putF l a n v) a n = lbytes v n := by
  rw [seg, putF, if_pos h, putL, List.append_assoc, List.drop_left' (by simp; omega)]
  exact List.take_left' (lbytes_length v n)

theorem putF_num (l : List UInt8) (a' n' : Int) (a n v : Nat) (ha : a' = a) (hn : n' = n) (h : a + n ≤ l.length) : numAt (putF l a n v) a' n' = v % 256 ^ n := by
  rw [numAt_seg _ a' n' a n ha hn (by rw [putF_length]; exact h), putF_seg l a n v h, lnum_lbytes]

theorem set_get (l : List UInt8) (i k : Nat) (x : UInt8) (h : i ≠ k) : (l.set i x)[k]? = l[k]? := List.getElem?_set_ne h
theorem set_get_same (l : List UInt8) (i : Nat) (x : UInt8) (h : i < l.length) : (l.set i x)[i]? = some x := by
  rw [List.getElem?_set_self h]
end Go.Proofs.Ytajcihcbgmpdjaa
