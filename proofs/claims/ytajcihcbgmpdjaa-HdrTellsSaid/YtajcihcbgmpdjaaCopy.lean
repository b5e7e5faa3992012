/- copy from a string into a row of bytes that is the call's own. -/
import Derived.Test.YtajcihcbgmpdjaaApp
import Derived.Lib.LazyBuf
namespace Go.Proofs.Ytajcihcbgmpdjaa
open Go.RowKit

/-- Bytes laid over a row. -/
def splL (l : List UInt8) (o : Nat) (t : List UInt8) : List UInt8 := l.take o ++ t ++ l.drop (o + t.length)

theorem splL_length (l : List UInt8) (o : Nat) (t : List UInt8) (h : o + t.length ≤ l.length) : (splL l o t).length = l.length := by
  simp [splL]; omega

theorem splL_nil (l : List UInt8) (o : Nat) : splL l o [] = l := by simp [splL]

theorem splL_cons (l : List UInt8) (o : Nat) (x : UInt8) (t : List UInt8) (h : o < l.length) : splL (l.set o x) (o + 1) t = splL l o (x :: t) := by
  unfold splL
  have e1 : (l.set o x).take (o + 1) = l.take o ++ [x] := by
    rw [List.take_succ_eq_append_getElem (by rw [List.length_set]; exact h), List.take_set_of_le (Nat.le_refl _)]
    simp
  have e2 : (l.set o x).drop (o + 1 + t.length) = l.drop (o + 1 + t.length) := by
    rw [List.drop_set_of_lt (by omega)]
  rw [e1, e2, List.length_cons, show o + (t.length + 1) = o + 1 + t.length by omega]
  simp

theorem OwnB.over {base g n cap : Nat} : ∀ (t : List UInt8) (o : Nat) (l : List UInt8) (w : World), OwnB w base (.slice (some ⟨g, 0, none⟩) n cap) l → o + t.length ≤ l.length →
    OwnB (w.setCells g o (bcells t)) base (.slice (some ⟨g, 0, none⟩) n cap) (splL l o t)
  | [], o, l, w, h, _ => by rw [splL_nil]; exact h
  | x :: t, o, l, w, h, hl => by
    rw [List.length_cons] at hl
    obtain ⟨g', cap', e, hg, hlt, hle, hc⟩ := h.cell
    simp at e
    obtain ⟨rfl, rfl, rfl⟩ := e
    have h1 := (hc o (by omega)).2.2 x
    have h2 := OwnB.over t (o + 1) (l.set o x) _ h1 (by rw [List.length_set]; omega)
    rw [splL_cons l o x t (by omega)] at h2
    exact h2

/-- 'copy(b[o:], "..")', a plain region's operation. -/
theorem wp_copyB {ops : Array Oper} {rest : List Oper} {o : Oper} {a : Act} {w : World} {Q : Exit → Act → World → Prop} (hgd : o.guard = none) (s x : Operand)
    (ho : o.op = .call { callee := .builtin .copy, args := #[s, x], argTypes := #[23, 9] }) (hz : ∀ w, (Go.sizeOf 5).run Try.prog w = .ok 1 w)
    (base g n cap k dl dc : Nat) (l t : List UInt8) (hv : OwnB w base (.slice (some ⟨g, 0, none⟩) n cap) l) (hs : a.eval s = .slice (some ⟨g, k, none⟩) dl dc) (hx : a.eval x = .string (S t)) (hle : t.length ≤ dl) (hk : k + t.length ≤ l.length)
    (h : ∀ w', OwnB w' base (.slice (some ⟨g, 0, none⟩) n cap) (splL l k t) → (∀ w0, Below base w0 w → Below base w0 w') → wpList Try.prog ops Q rest (a.put o.dst (goInt (S t).size)) w') : wpList Try.prog ops Q (o :: rest) a w := by
  obtain ⟨g', cap', e, hg, hlt, _, hc⟩ := hv.cell
  simp at e
  obtain ⟨rfl, rfl, rfl⟩ := e
  have hsz : (S t).size = t.length := S_size t
  have hrun := run_copy_string (P := Try.prog) w 23 9 o.type 5 g k dl dc (S t) Try.underlying23 hz (by omega)
    (fun j hj => by rw [(hc (k + j) (by omega)).1]; rfl) (fun j hj => (hc (k + j) (by omega)).2.1)
  have h3 := hv.over t k l w hk
  refine wpList_plain hgd fun K hK => ?_
  unfold Oper.wp
  simp [execOp, ho, resolve, invoke, builtin, hs, hx, hrun, Result.andThen]
  exact hK _ _ (h _ h3 (fun w0 hb => below_setCells hg _ _ hb))
end Go.Proofs.Ytajcihcbgmpdjaa
