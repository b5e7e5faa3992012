/- append of a string's bytes to a row of bytes that is the call's own; what '[]byte(s)' leaves. -/
import Derived.Test.YtapllnnconpieaaDoorApp
import Derived.Lib.AppendStr
import Derived.Lib.ConvBytes
set_option linter.unusedVariables false
namespace Go.Proofs.YtapllnnconpieaaDoor
open Go.RowKit Go.Lib

/-- What '[]byte(s)' leaves is the call's own. -/
theorem ownB_bytes (w : World) (l : List UInt8) (hl : l.length ≤ 140737488355328) :
    OwnB (Lib.bytesWorld w 5 (S l)) w.heap.size (.slice (some ⟨w.heap.size, 0, none⟩) l.length (grownCap w l.length 0 5)) l := by
  have hsz : (S l).size = l.length := S_size l
  have hge := grownCap_ge w l.length 0 5
  have hcs : (Lib.bytesCells w 5 (S l)).size = grownCap w l.length 0 5 := by
    have hd : (S l).data.size = l.length := hsz
    unfold Lib.bytesCells
    rw [Array.size_append, Array.size_map, Array.size_replicate, hd, hsz]
    omega
  refine ⟨w.heap.size, _, Lib.bytesCells w 5 (S l), _, rfl, Nat.le_refl _, Lib.bytesWorld_at_new w _ _, .inr (by rw [hcs]; exact Nat.le_refl _), hge, grownCap_le_maxLen _ _ _ _ (by unfold maxLen; omega), hl, hcs, ?_⟩
  simp [Lib.bytesCells, S, bcells]

theorem strCells_S (m : List UInt8) : strCells (S m) = bcells m := by simp [strCells, S, bcells]

theorem run_room_str {P : Program} (w : World) (t u ty e : TypeId) (i : TypeInfo) (ht : P.underlying t = some (.slice e)) (hu : P.underlying u = some .string) (hi : P.info? e = some i) (hs1 : i.size = 1)
    (b sLen sCap : Nat) (m : List UInt8) (hroom : sLen + m.length ≤ sCap) (hc : ∀ j, j < m.length → (w.cell? ⟨b, sLen + j, none⟩).isSome = true) (hf : ∀ j, j < m.length → w.frozen? ⟨b, sLen + j, none⟩ = false) :
    (Builtin.append_ #[t, u] ty #[.slice (some ⟨b, 0, none⟩) sLen sCap, .string (S m)]).run P w = .ok (.slice (some ⟨b, 0, none⟩) (sLen + m.length) sCap) (w.setCells b sLen (bcells m)) := by
  have hsz := S_size m
  have hfc := run_firstCells_string (P := P) w 1 (S m)
  have hst := run_storeCells_cells (P := P) b sLen (bcells m) 0 w (by rw [bcells_length]; simpa using hc) (by rw [bcells_length]; simpa using hf) (fun u hu => by
    simp only [bcells, List.mem_map] at hu
    obtain ⟨x, _, rfl⟩ := hu
    rfl)
  rw [strCells_S, hsz] at hfc
  simp only [Nat.add_zero] at hst
  simp [Builtin.append_, run_underlying ht, run_underlying hu, sizeOf, typeInfo, hi, hs1, Builtin.lenOf, hsz, hroom, hfc, Addr.add_lit, hst]

/-- 'b = append(b, s...)' of a string. -/
theorem wp_appStr {ops : Array Oper} {rest : List Oper} {o : Oper} {a : Act} {w : World} {Q : Exit → Act → World → Prop} (hgd : o.guard = none) (s x : Operand)
    (ho : o.op = .call { callee := .builtin .append, args := #[s, x], argTypes := #[22, 9] }) (hbytes : (Tryd.prog.info? 5).map (fun i => (i.zero, i.size, i.bytes)) = some (some (.int .u8 0), 1, 1))
    (base : Nat) (v : Value) (l m : List UInt8) (hs : a.eval s = v) (hv : OwnB w base v l) (hx : a.eval x = .string (S m)) (hml : l.length + m.length ≤ 140737488355328) (hb0 : base ≤ w.heap.size)
    (h : ∀ v' w', OwnB w' base v' (l ++ m) → (∀ w0, Below base w0 w → Below base w0 w') → wpList Tryd.prog ops Q rest (a.put o.dst v') w') : wpList Tryd.prog ops Q (o :: rest) a w := by
  obtain ⟨i, hi, hz, hs1, hby⟩ := info_parts hbytes
  obtain ⟨g, cap, rfl, hg, hlt, hbs⟩ := hv.bs
  have hsz := S_size m
  have holds : ∀ j u, (bcells l)[j]? = some u → w.cell? ((⟨g, 0, none⟩ : Addr).add j) = some u := fun j u hj => by
    obtain ⟨hlt, he⟩ := List.getElem?_eq_some_iff.1 hj
    obtain ⟨ad', e, hc⟩ := hbs.row.cell hlt
    obtain rfl := Option.some.inj e
    rw [hc, he]
  by_cases hroom : l.length + m.length ≤ cap
  · have hsp : ∀ j, j < m.length → (w.cell? ⟨g, l.length + j, none⟩).isSome = true ∧ w.frozen? ⟨g, l.length + j, none⟩ = false := fun j hj => by
      obtain ⟨g', cap', cur, fz, e, hb', hh, hf, hl, hmx, hm2, hsz, ht⟩ := hv
      simp at e
      obtain ⟨rfl, rfl⟩ := e
      constructor
      · rw [cell_of_row w g _ cur _ fz hh]
        rw [Array.getElem?_eq_getElem (by omega)]
        rfl
      · simp only [World.frozen?, hh]
        rcases hf with hf | hf
        · by_cases a : fz.1 ≤ l.length + j <;> simp [a] <;> omega
        · have : ¬ fz.1 ≤ l.length + j := by omega
          simp [this]
    have hrun := run_room_str (P := Tryd.prog) w 22 9 o.type 5 i Tryd.underlying22 Tryd.underlying9 hi hs1 g l.length cap m hroom (fun j hj => (hsp j hj).1) (fun j hj => (hsp j hj).2)
    have h3 := hv.pushes m l w hroom hml
    refine wpList_plain hgd fun K hK => ?_
    unfold Oper.wp
    simp [execOp, ho, resolve, invoke, builtin, hs, hx, hrun, Result.andThen]
    refine hK _ _ (h _ _ ?_ (fun w0 hb => below_setCells hg _ _ hb))
    simpa using h3
  · have hrun := run_append_grow_string (P := Tryd.prog) w 22 9 o.type 5 i (.int .u8 0) Tryd.underlying22 Tryd.underlying9 hi hz ⟨g, 0, none⟩ l.length cap (bcells l) (by rw [bcells_length, hs1, Nat.mul_one]) holds (S m)
      (by omega) (by omega) (by rw [hby, hsz]; exact growslice_fits (by omega) (by omega))
    have hge := grownCap_ge w (l.length + (S m).size) cap 5
    have hcm : grownCap w (l.length + (S m).size) cap 5 ≤ maxLen := grownCap_le_maxLen w _ cap _ (by unfold maxLen; omega)
    refine wpList_plain hgd fun K hK => ?_
    unfold Oper.wp
    simp [execOp, ho, resolve, invoke, builtin, hs, hx, hrun, Result.andThen]
    refine hK _ _ (h _ _ ⟨w.heap.size, grownCap w (l.length + (S m).size) cap 5, _, (0, 0), ?_, hb0, heap_alloc_new w.drew _, .inl (Nat.le_refl _), ?_, hcm, ?_, ?_, ?_⟩ (fun w0 hb => ?_))
    · rw [List.length_append, hsz]
    · rw [List.length_append]; omega
    · rw [List.length_append]; omega
    · have hz1 : (Value.int IntKind.u8 0).cells.size = 1 := rfl
      rw [strCells_S, Array.size_append, List.size_toArray, List.length_append, size_zeroCells, hz1, bcells_length, bcells_length, hsz, Nat.mul_one]
      rw [hsz] at hge
      omega
    · rw [strCells_S]
      simp only [Array.toList_append, List.append_assoc]
      rw [← List.append_assoc, List.take_append_of_le_length (by simp [bcells])]
      have : bcells l ++ bcells m = bcells (l ++ m) := by simp [bcells]
      rw [this, ← bcells_length (l ++ m)]
      exact List.take_length
    · exact hb.drew.alloc hb0 _
end Go.Proofs.YtapllnnconpieaaDoor
