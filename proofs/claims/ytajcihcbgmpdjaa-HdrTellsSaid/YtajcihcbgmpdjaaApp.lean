/- append to a row of bytes that is the call's own. -/
import Derived.Test.YtajcihcbgmpdjaaOwn
import Derived.Test.YtajcihcbgmpdjaaUp
import Derived.ArgAppend
namespace Go.Proofs.Ytajcihcbgmpdjaa
open Go.RowKit

theorem ownB_of_row {w : World} {base : Nat} {v : Value} {n : Nat} {l : List UInt8} (h : w.ownsRow base 5 1 v n (bcells l)) (hv : v ≠ .slice none 0 0) (hl : l.length ≤ 140737488355328) : OwnB w base v l := by
  obtain ⟨hn, ⟨rfl, _⟩ | ⟨g, cap, cur, rfl, hg, hh, h1, h2, h3, h4⟩⟩ := h
  · exact absurd rfl hv
  · rw [bcells_length, Nat.mul_one] at hn
    subst hn
    rw [Nat.mul_one] at h3 h4
    exact ⟨g, cap, cur, (0, 0), rfl, hg, hh, .inl (Nat.le_refl _), h1, h2, hl, h3, h4⟩

/-- One byte more, where there is room. -/
theorem OwnB.push {w : World} {base g cap : Nat} {l : List UInt8} (h : OwnB w base (.slice (some ⟨g, 0, none⟩) l.length cap) l) (hr : l.length < cap) (hm : l.length < 140737488355328) (x : UInt8) :
    OwnB (w.setCell ⟨g, l.length, none⟩ (.int .u8 (x.toNat : Int))) base (.slice (some ⟨g, 0, none⟩) (l ++ [x]).length cap) (l ++ [x]) := by
  obtain ⟨g', cap', cur, fz, e, hb', hh, hf, hl, hmx, hm2, hs, ht⟩ := h
  simp at e
  obtain ⟨rfl, rfl⟩ := e
  refine ⟨g, cap, cur.setIfInBounds l.length (.int .u8 (x.toNat : Int)), fz, rfl, hb', ?_, hf, by simp; omega, hmx, by simp; omega, by simp [hs], ?_⟩
  · simp only [World.setCell, Array.getElem?_modify, hh]
    simp
  · rw [Array.toList_setIfInBounds, List.length_append, List.length_singleton]
    have hlt : l.length < cur.toList.length := by simp; omega
    rw [List.take_succ_eq_append_getElem (by rw [List.length_set]; exact hlt)]
    rw [List.take_set_of_le (Nat.le_refl _), ht]
    simp [bcells]

theorem OwnB.pushes {base g cap : Nat} : ∀ (m l : List UInt8) (w : World), OwnB w base (.slice (some ⟨g, 0, none⟩) l.length cap) l → l.length + m.length ≤ cap → l.length + m.length ≤ 140737488355328 →
    OwnB (w.setCells g l.length (bcells m)) base (.slice (some ⟨g, 0, none⟩) (l ++ m).length cap) (l ++ m)
  | [], l, w, h, _, _ => by simpa [bcells, World.setCells] using h
  | x :: m, l, w, h, h1, h2 => by
    simp only [List.length_cons] at h1 h2
    have h3 := OwnB.pushes m (l ++ [x]) _ (h.push (by omega) (by omega) x) (by simp; omega) (by simp; omega)
    simp only [List.append_assoc, List.singleton_append, List.length_append, List.length_singleton] at h3
    simpa [bcells, World.setCells] using h3

/-- Where there is room what is written lies in the row alone. -/
theorem below_setCells {B g : Nat} (hg : B ≤ g) : ∀ (vs : List Value) (o : Nat) {w w' : World}, Below B w w' → Below B w (w'.setCells g o vs)
  | [], _, _, _, h => h
  | v :: vs, o, _, _, h => below_setCells hg vs (o + 1) (h.setCell hg v)
/-- 'b = append(b, m...)', a plain region's operation. -/
theorem wp_appB {ops : Array Oper} {rest : List Oper} {o : Oper} {a : Act} {w : World} {Q : Exit → Act → World → Prop} (hgd : o.guard = none) (s x : Operand)
    (ho : o.op = .call { callee := .builtin .append, args := #[s, x], argTypes := #[23, 23] }) (hbytes : (Try.prog.info? 5).map (fun i => (i.zero, i.size, i.bytes)) = some (some (.int .u8 0), 1, 1))
    (base : Nat) (v : Value) (l m : List UInt8) (ad : Addr) (c : Nat) (hs : a.eval s = v) (hv : OwnB w base v l) (hx : a.eval x = .slice (some ad) m.length c) (hm : Bs w (some ad) c m) (hml : l.length + m.length ≤ 140737488355328) (hb0 : base ≤ w.heap.size)
    (h : ∀ v' w', OwnB w' base v' (l ++ m) → (∀ w0, Below base w0 w → Below base w0 w') → wpList Try.prog ops Q rest (a.put o.dst v') w') : wpList Try.prog ops Q (o :: rest) a w := by
  obtain ⟨i, hi, hz, hs1, hby⟩ := info_parts hbytes
  obtain ⟨g, cap, rfl, hg, hlt, hbs⟩ := hv.bs
  have hnews : ∀ j u, (bcells m)[j]? = some u → w.cell? (ad.add j) = some u := fun j u hj => by
    obtain ⟨hlt, he⟩ := List.getElem?_eq_some_iff.1 hj
    obtain ⟨ad', e, hc⟩ := hm.row.cell hlt
    obtain rfl := Option.some.inj e
    rw [hc, he]
  have holds : ∀ j u, (bcells l)[j]? = some u → w.cell? ((⟨g, 0, none⟩ : Addr).add j) = some u := fun j u hj => by
    obtain ⟨hlt, he⟩ := List.getElem?_eq_some_iff.1 hj
    obtain ⟨ad', e, hc⟩ := hbs.row.cell hlt
    obtain rfl := Option.some.inj e
    rw [hc, he]
  have h1c : ∀ u ∈ bcells m, u.oneCell' = true := fun u hu => by
    simp only [bcells, List.mem_map] at hu
    obtain ⟨b, _, rfl⟩ := hu
    rfl
  by_cases hroom : l.length + m.length ≤ cap
  · have hsp : ∀ j, j < (bcells m).length → (w.cell? ⟨g, 0 + l.length * i.size + j, none⟩).isSome = true ∧ w.frozen? ⟨g, 0 + l.length * i.size + j, none⟩ = false := fun j hj => by
      rw [hs1, Nat.mul_one, Nat.zero_add]
      rw [bcells_length] at hj
      obtain ⟨g', cap', cur, fz, e, hb', hh, hf, hl, hmx, hm2, hsz, ht⟩ := hv
      simp at e
      obtain ⟨rfl, rfl⟩ := e
      constructor
      · rw [cell_of_row w g _ cur _ fz hh]
        rw [Array.getElem?_eq_getElem (by omega)]
        rfl
      · simp only [World.frozen?, hh]
        rcases hf with hf | hf
        · by_cases a : fz.1 ≤ l.length + j <;> simp [a] <;> omega
        · have : ¬ fz.1 ≤ l.length + j := by omega
          simp [this]
    have hrun := run_append_room_cells (P := Try.prog) w 23 o.type 5 i Try.underlying23 hi g 0 l.length cap ad m.length c (bcells m) (by rw [hs1, bcells_length, Nat.mul_one]) hnews h1c hroom (fun j hj => (hsp j hj).1) (fun j hj => (hsp j hj).2)
    rw [hs1, Nat.mul_one, Nat.zero_add] at hrun
    have h3 := hv.pushes m l w hroom hml
    refine wpList_plain hgd fun K hK => ?_
    unfold Oper.wp
    simp [execOp, ho, resolve, invoke, builtin, hs, hx, hrun, Result.andThen]
    refine hK _ _ (h _ _ ?_ (fun w0 hb => below_setCells hg _ _ hb))
    simpa using h3
  · refine wpList_append_grows w hgd s x 23 ho 5 i _ 1 1 Try.underlying23 hi hz hs1 hby rfl (by omega) (some ⟨g, 0, none⟩) l.length cap (bcells l) hs (by simp) (by rw [bcells_length, Nat.mul_one]) (fun b hb => by obtain rfl := Option.some.inj hb; exact holds)
      ad m.length c (bcells m) hx (by rw [bcells_length, Nat.mul_one]) hnews h1c (by omega) (by unfold maxLen; omega) (by omega) ?_
    intro v' w' hown hgrow
    refine h v' w' ?_ (fun w0 hb => hb.grown hgrow (by omega) (fun k hk => by cases hk))
    have e : bcells l ++ bcells m = bcells (l ++ m) := by simp [bcells]
    rw [e] at hown
    refine (ownB_of_row hown ?_ (by simpa using hml)).mono hb0
    rintro rfl
    obtain ⟨hn, ⟨_, h0⟩ | ⟨g', cap', cur, e', _⟩⟩ := hown
    · omega
    · simp at e'
end Go.Proofs.Ytajcihcbgmpdjaa
