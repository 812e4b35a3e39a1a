/- Rows of bytes of the call's own, of which no cell is frozen though a mark may lie behind them ([]byte(s) lays such a row): appended to, by a text and by such a row. -/
import Derived.Test.YtfpldbobfjkkfaaDoorBase
import Derived.Lib.ConvBytes
namespace Go.Proofs.YtfpldbobfjkkfaaDoor
open Go Go.RowKit Go.Proofs

/-- The bytes l lie at the head of such a row. -/
def BytesAt (e : TypeId) (B : Nat) (v : Value) (l : List UInt8) (w : World) : Prop :=
  ∃ g cap cur fz, v = .slice (some ⟨g, 0, none⟩) l.length cap ∧ B ≤ g ∧ w.heap[g]? = some (.cells cur e fz) ∧ (fz.2 = 0 ∨ cur.size ≤ fz.1) ∧ l.length ≤ cap ∧ cap ≤ maxLen ∧ cur.size = cap ∧ cur.toList.take l.length = Lib.byteCells l

section
variable {P : Program} {e : TypeId} {B : Nat} {v : Value} {l : List UInt8} {w w' : World}

theorem BytesAt.own (h : BytesAt e B v l w) : ∃ g, v.ownBlock = some g ∧ B ≤ g ∧ g < w.heap.size := by
  obtain ⟨g, cap, cur, fz, rfl, hb, hg, _⟩ := h
  exact ⟨g, by simp [Value.ownBlock], hb, (Array.getElem?_eq_some_iff.1 hg).1⟩
theorem BytesAt.slice (h : BytesAt e B v l w) : ∃ g cap, v = .slice (some ⟨g, 0, none⟩) l.length cap := by
  obtain ⟨g, cap, cur, fz, rfl, _⟩ := h
  exact ⟨g, cap, rfl⟩
theorem BytesAt.kept {row : Option Nat} (h : BytesAt e B v l w) (hg : w.grownBy w' row) (hne : v.ownBlock ≠ row) : BytesAt e B v l w' := by
  obtain ⟨g, cap, cur, fz, rfl, hb, hh, r⟩ := h
  exact ⟨g, cap, cur, fz, rfl, hb, (hg.block g (Array.getElem?_eq_some_iff.1 hh).1 (by simpa [Value.ownBlock] using hne)).trans hh, r⟩
theorem BytesAt.below (h : BytesAt e B v l w) (hb : Below w.heap.size w w') : BytesAt e B v l w' := by
  obtain ⟨g, cap, cur, fz, rfl, hB, hh, r⟩ := h
  exact ⟨g, cap, cur, fz, rfl, hB, (hb.block g (Array.getElem?_eq_some_iff.1 hh).1).trans hh, r⟩
theorem BytesAt.lower {C : Nat} (h : BytesAt e B v l w) (hC : C ≤ B) : BytesAt e C v l w := by
  obtain ⟨g, cap, cur, fz, rfl, hB, r⟩ := h
  exact ⟨g, cap, cur, fz, rfl, Nat.le_trans hC hB, r⟩
/-- Its cells. -/
theorem BytesAt.cells (h : BytesAt e B v l w) : ∃ g cap, v = .slice (some ⟨g, 0, none⟩) l.length cap ∧ ∀ j u, (Lib.byteCells l)[j]? = some u → w.cell? ((⟨g, 0, none⟩ : Addr).add j) = some u := by
  obtain ⟨g, cap, cur, fz, rfl, _, hh, _, _, _, _, ht⟩ := h
  refine ⟨g, cap, rfl, fun j u hu => ?_⟩
  have hadd : (⟨g, 0, none⟩ : Addr).add j = ⟨g, j, none⟩ := by unfold Addr.add; split <;> simp_all
  rw [← ht, List.getElem?_take] at hu
  split at hu
  · rw [hadd]
    simp only [World.cell?, hh]
    simpa using hu
  · cases hu

/-- []byte(s). -/
theorem BytesAt.made (w : World) (e : TypeId) (s : ByteArray) (hB : B ≤ w.heap.size) (hs : s.size ≤ maxLen) : BytesAt e B (.slice (some ⟨w.heap.size, 0, none⟩) s.size (grownCap w s.size 0 e)) s.data.toList (Lib.bytesWorld w e s) := by
  have hge := grownCap_ge w s.size 0 e
  have hz : (Lib.bytesCells w e s).size = grownCap w s.size 0 e := by
    unfold Lib.bytesCells
    rw [Array.size_append, Array.size_map, Array.size_replicate]
    have : s.data.size = s.size := rfl
    omega
  refine ⟨w.heap.size, _, _, _, by rw [len_list], hB, Lib.bytesWorld_at_new w e s, .inr (Nat.le_refl _), by rw [len_list]; exact hge, grownCap_le_maxLen w s.size 0 e hs, hz, ?_⟩
  unfold Lib.bytesCells Lib.byteCells
  rw [Array.toList_append, Array.toList_map, List.take_append_of_le_length (by simp), List.take_of_length_le (by simp)]

/-- Cells that are not frozen take values. -/
theorem store_free (P : Program) (g o : Nat) (t : TypeId) (fz : Nat × Nat) : ∀ (vs : List Value) (i : Nat) (cur : Array Value) (w : World), w.heap[g]? = some (.cells cur t fz) → (fz.2 = 0 ∨ cur.size ≤ fz.1) → o + i + vs.length ≤ cur.size → (∀ v ∈ vs, v.oneCell' = true) →
    (storeCells ⟨g, o, none⟩ vs i).run P w = .ok () (w.setRow g (cur.toList.take (o + i) ++ vs ++ cur.toList.drop (o + i + vs.length)).toArray) := by
  intro vs
  induction vs with
  | nil =>
    intro i cur w hg _ _ _
    have h := setRow_self w g cur t fz hg
    simp only [storeCells, List.append_nil, List.length_nil, Nat.add_zero, List.take_append_drop, Array.toArray_toList]
    rw [h]
    rfl
  | cons v rest ih =>
    intro i cur w hg hfz hl h1
    rw [List.length_cons] at hl
    have hi : o + i < cur.size := by omega
    have hadd : (⟨g, o, none⟩ : Addr).add i = ⟨g, o + i, none⟩ := by unfold Addr.add; split <;> simp_all
    have hcell : w.cell? ⟨g, o + i, none⟩ = some cur[o + i] := by simp [World.cell?, hg, hi]
    have hfro : w.frozen? ⟨g, o + i, none⟩ = false := by
      obtain ⟨lo, up⟩ := fz
      simp only [World.frozen?, hg, Bool.and_eq_false_iff, decide_eq_false_iff_not]
      rcases hfz with h | h
      · right; simp only at h; omega
      · left; simp only at h; omega
    have hst : (store ((⟨g, o, none⟩ : Addr).add i) v).run P w = .ok () (w.setRow g (cur.setIfInBounds (o + i) v)) := by
      rw [hadd, run_store P w _ v _ (h1 v (by simp)), hcell]
      simp [hfro, setCell_eq_setRow w g (o + i) cur t fz v hg]
    have hrec := ih (i + 1) (cur.setIfInBounds (o + i) v) (w.setRow g (cur.setIfInBounds (o + i) v)) (setRow_heap w g cur _ t _ hg) (by simpa using hfz) (by rw [Array.size_setIfInBounds]; omega) (fun x hx => h1 x (by simp [hx]))
    simp only [storeCells, Sem.run_bind, hst, Result.andThen_ok, hrec, setRow_setRow]
    have hseg := list_seg_step cur.toList (o + i) v rest (by rw [Array.length_toList]; omega)
    have : ((cur.setIfInBounds (o + i) v).toList.take (o + (i + 1)) ++ rest ++ (cur.setIfInBounds (o + i) v).toList.drop (o + (i + 1) + rest.length)) = (cur.toList.take (o + i) ++ v :: rest ++ cur.toList.drop (o + i + (rest.length + 1))) := by
      simpa [Array.toList_setIfInBounds, Nat.add_assoc] using hseg
    rw [this]
    rfl

/-- A row behind an append in its own room, or into a new row. -/
theorem append_room {g cap : Nat} {cur : Array Value} {fz : Nat × Nat} {m : List UInt8} (hb : B ≤ g) (hh : w.heap[g]? = some (.cells cur e fz)) (hfz : fz.2 = 0 ∨ cur.size ≤ fz.1) (hcap : cap ≤ maxLen) (hcs : cur.size = cap) (ht : cur.toList.take l.length = Lib.byteCells l) (hroom : l.length + m.length ≤ cap) :
    BytesAt e B (.slice (some ⟨g, 0, none⟩) (l.length + m.length) cap) (l ++ m) (w.setRow g (cur.toList.take l.length ++ Lib.byteCells m ++ cur.toList.drop (l.length + m.length)).toArray) ∧ w.grownBy (w.setRow g (cur.toList.take l.length ++ Lib.byteCells m ++ cur.toList.drop (l.length + m.length)).toArray) (some g) := by
  have hsz : (cur.toList.take l.length ++ Lib.byteCells m ++ cur.toList.drop (l.length + m.length)).toArray.size = cap := by
    simp only [List.size_toArray, List.length_append, List.length_take, List.length_drop, Array.length_toList, Lib.byteCells_length]
    omega
  refine ⟨⟨g, cap, _, fz, by rw [List.length_append], hb, setRow_heap w g cur _ e _ hh, ?_, by rw [List.length_append]; exact hroom, hcap, hsz, ?_⟩, ⟨rfl, rfl, rfl, by simp, fun k _ hk => setRow_other w g k _ (fun e => hk (by rw [e]))⟩⟩
  · rcases hfz with h | h
    · exact .inl h
    · right
      rw [hsz]
      omega
  · rw [ht, ← Lib.byteCells_append]
    have hlen : (l ++ m).length = (Lib.byteCells (l ++ m)).length := by rw [Lib.byteCells_length]
    rw [hlen]
    exact List.take_left
theorem append_new {m : List UInt8} {zs : Array Value} {cap : Nat} (hB : B ≤ w.heap.size) (hcap : cap ≤ maxLen) (hroom : l.length + m.length ≤ cap) (hz : zs.size = cap - (l.length + m.length)) :
    BytesAt e B (.slice (some ⟨w.heap.size, 0, none⟩) (l.length + m.length) cap) (l ++ m) (w.drew.alloc (.cells ((Lib.byteCells l).toArray ++ (Lib.byteCells m).toArray ++ zs) e)) ∧ ∀ row, w.grownBy (w.drew.alloc (.cells ((Lib.byteCells l).toArray ++ (Lib.byteCells m).toArray ++ zs) e)) row := by
  refine ⟨⟨w.heap.size, cap, _, (0, 0), by rw [List.length_append], hB, heap_alloc_new w.drew _, .inl rfl, by rw [List.length_append]; exact hroom, hcap, ?_, ?_⟩, fun row => ⟨rfl, rfl, rfl, by simp, fun _ hk _ => heap_alloc_old w.drew _ hk⟩⟩
  · simp only [Array.size_append, List.size_toArray, Lib.byteCells_length, hz]
    omega
  · simp only [Array.toList_append]
    rw [← Lib.byteCells_append]
    have hlen : (l ++ m).length = (Lib.byteCells (l ++ m)).length := by rw [Lib.byteCells_length]
    rw [hlen]
    exact List.take_left

/-- append(v, s...), s a text. -/
theorem append_text (t u ty : TypeId) (i : TypeInfo) (ht : P.underlying t = some (.slice e)) (hu : P.underlying u = some .string) (hi : P.info? e = some i) (hz : i.zero = some (.int .u8 0)) (hsize : i.size = 1) (hby : i.bytes = 1)
    (hv : BytesAt e B v l w) (s : ByteArray) (hlen : l.length + s.size ≤ 140737488355328) (hB : B ≤ w.heap.size) :
    ∃ v' w', (Builtin.append_ #[t, u] ty #[v, .string s]).run P w = .ok v' w' ∧ BytesAt e B v' (l ++ s.data.toList) w' ∧ w.grownBy w' v.ownBlock := by
  obtain ⟨g, hcells⟩ := hv.cells
  obtain ⟨cap0, hv0, hc0⟩ := hcells
  obtain ⟨g', cap, cur, fz, rfl, hb, hh, hfz, hlc, hcm, hcs, htk⟩ := hv
  simp only [Value.slice.injEq, Option.some.injEq, Addr.mk.injEq, and_true, true_and] at hv0
  obtain ⟨rfl, rfl⟩ := hv0
  have hsl := len_list s
  have hbc : Lib.strCells s = Lib.byteCells s.data.toList := rfl
  by_cases hroom : l.length + s.size ≤ cap
  · have hf := Lib.run_firstCells_string (P := P) w 1 s
    have hst := store_free P g' l.length e fz (Lib.strCells s) 0 cur w hh hfz (by rw [Lib.strCells_length]; omega) (Lib.strCells_oneCell s)
    simp only [Nat.add_zero, Lib.strCells_length] at hst
    obtain ⟨r1, r2⟩ := append_room (m := s.data.toList) hb hh hfz hcm hcs htk (by omega)
    rw [hsl, ← hbc] at r1 r2
    refine ⟨_, _, ?_, r1, by simpa [Value.ownBlock] using r2⟩
    simp [Builtin.append_, run_underlying ht, run_underlying hu, sizeOf, typeInfo, hi, hsize, Builtin.lenOf, hroom, hf, Addr.add_lit, hst]
  · have hr := Lib.run_append_grow_string (P := P) w t u ty e i (.int .u8 0) ht hu hi hz ⟨g', 0, none⟩ l.length cap (Lib.byteCells l) (by rw [hsize, Lib.byteCells_length, Nat.mul_one]) hc0 s (by omega) (by omega) (by rw [hby]; exact growslice_fits (by omega) (by omega))
    have hge := grownCap_ge w (l.length + s.size) cap e
    have hcm2 := grownCap_le_maxLen w (l.length + s.size) cap e (by unfold maxLen; omega)
    have hz1 : (Value.int IntKind.u8 0).cells.size = 1 := rfl
    obtain ⟨r1, r2⟩ := append_new (w := w) (B := B) (e := e) (l := l) (m := s.data.toList) (zs := Builtin.zeroCells (Value.int .u8 0).cells (grownCap w (l.length + s.size) cap e - (l.length + s.size))) hB hcm2 (by omega) (by rw [size_zeroCells, hz1, hsl]; omega)
    rw [hsl, ← hbc] at r1
    rw [← hbc] at r2
    exact ⟨_, _, hr, r1, r2 _⟩

/-- append(v, u...), u a row of bytes. -/
theorem append_row (t ty : TypeId) (i : TypeInfo) (ht : P.underlying t = some (.slice e)) (hi : P.info? e = some i) (hz : i.zero = some (.int .u8 0)) (hsize : i.size = 1) (hby : i.bytes = 1)
    (hv : BytesAt e B v l w) {C : Nat} {u : Value} {m : List UInt8} (hu : BytesAt e C u m w) (hlen : l.length + m.length ≤ 140737488355328) (hB : B ≤ w.heap.size) :
    ∃ v' w', (Builtin.append_ #[t, t] ty #[v, u]).run P w = .ok v' w' ∧ BytesAt e B v' (l ++ m) w' ∧ w.grownBy w' v.ownBlock := by
  obtain ⟨g, cap0, hv0, hc0⟩ := hv.cells
  obtain ⟨gu, capu, rfl, hcu⟩ := hu.cells
  obtain ⟨g', cap, cur, fz, rfl, hb, hh, hfz, hlc, hcm, hcs, htk⟩ := hv
  simp only [Value.slice.injEq, Option.some.injEq, Addr.mk.injEq, and_true, true_and] at hv0
  obtain ⟨rfl, rfl⟩ := hv0
  have hone : ∀ x ∈ Lib.byteCells m, x.oneCell' = true := by
    intro x hx
    simp only [Lib.byteCells, List.mem_map] at hx
    obtain ⟨b, _, rfl⟩ := hx
    rfl
  by_cases hroom : l.length + m.length ≤ cap
  · have hf := run_firstCells_some (P := P) w i.size m.length ⟨gu, 0, none⟩ m.length capu (Lib.byteCells m) (by rw [hsize, Lib.byteCells_length, Nat.mul_one]) hcu
    have hst := store_free P g' l.length e fz (Lib.byteCells m) 0 cur w hh hfz (by rw [Lib.byteCells_length]; omega) hone
    simp only [Nat.add_zero, Lib.byteCells_length] at hst
    obtain ⟨r1, r2⟩ := append_room (m := m) hb hh hfz hcm hcs htk hroom
    refine ⟨_, _, ?_, r1, by simpa [Value.ownBlock] using r2⟩
    rw [hsize] at hf
    simp [Builtin.append_, run_underlying ht, sizeOf, typeInfo, hi, hsize, Builtin.lenOf, hroom, hf, Addr.add_lit, hst]
  · have hr := run_append_grow (P := P) w t ty e i (.int .u8 0) ht hi hz ⟨g', 0, none⟩ l.length cap (Lib.byteCells l) (by rw [hsize, Lib.byteCells_length, Nat.mul_one]) hc0 ⟨gu, 0, none⟩ m.length capu (Lib.byteCells m) (by rw [hsize, Lib.byteCells_length, Nat.mul_one]) hcu (by omega) (by omega) (by rw [hby]; exact growslice_fits (by omega) (by omega))
    have hge := grownCap_ge w (l.length + m.length) cap e
    have hcm2 := grownCap_le_maxLen w (l.length + m.length) cap e (by unfold maxLen; omega)
    have hz1 : (Value.int IntKind.u8 0).cells.size = 1 := rfl
    obtain ⟨r1, r2⟩ := append_new (w := w) (B := B) (e := e) (l := l) (m := m) (zs := Builtin.zeroCells (Value.int .u8 0).cells (grownCap w (l.length + m.length) cap e - (l.length + m.length))) hB hcm2 hge (by rw [size_zeroCells, hz1]; omega)
    exact ⟨_, _, hr, r1, r2 _⟩

variable {ops : Array Oper} {rest : List Oper} {o : Oper} {a : Act} {Q : Exit → Act → World → Prop}

theorem wp_append_text (hgd : o.guard = none) (sl x : Operand) (t u : TypeId) (ho : o.op = .call { callee := .builtin .append, args := #[sl, x], argTypes := #[t, u] })
    (ht : P.underlying t = some (.slice e)) (hu : P.underlying u = some .string) (hinfo : (P.info? e).map (fun i => (i.zero, i.size, i.bytes)) = some (some (.int .u8 0), 1, 1))
    (hs : a.eval sl = v) (s : ByteArray) (hx : a.eval x = .string s) (hv : BytesAt e B v l w) (hlen : l.length + s.size ≤ 140737488355328) (hB : B ≤ w.heap.size)
    (h : ∀ v' w', BytesAt e B v' (l ++ s.data.toList) w' → w.grownBy w' v.ownBlock → wpList P ops Q rest (a.put o.dst v') w') : wpList P ops Q (o :: rest) a w := by
  obtain ⟨i, hi, hz, h1, h2⟩ := info_parts hinfo
  refine wpList_plain hgd fun K hK => ?_
  obtain ⟨v', w', hr, h3, h4⟩ := append_text (P := P) t u o.type i ht hu hi hz h1 h2 hv s hlen hB
  unfold Oper.wp execOp
  simp only [ho, resolve, invoke, builtin, Sem.run_bind, Sem.run_pure, Result.andThen_ok, List.map_toArray, List.map_cons, List.map_nil, hs, hx, hr]
  exact hK _ _ (h v' w' h3 h4)

theorem wp_append_row (hgd : o.guard = none) (sl x : Operand) (t : TypeId) (ho : o.op = .call { callee := .builtin .append, args := #[sl, x], argTypes := #[t, t] })
    (ht : P.underlying t = some (.slice e)) (hinfo : (P.info? e).map (fun i => (i.zero, i.size, i.bytes)) = some (some (.int .u8 0), 1, 1))
    (hs : a.eval sl = v) {C : Nat} {u : Value} {m : List UInt8} (hx : a.eval x = u) (hv : BytesAt e B v l w) (hu : BytesAt e C u m w) (hlen : l.length + m.length ≤ 140737488355328) (hB : B ≤ w.heap.size)
    (h : ∀ v' w', BytesAt e B v' (l ++ m) w' → w.grownBy w' v.ownBlock → wpList P ops Q rest (a.put o.dst v') w') : wpList P ops Q (o :: rest) a w := by
  obtain ⟨i, hi, hz, h1, h2⟩ := info_parts hinfo
  refine wpList_plain hgd fun K hK => ?_
  obtain ⟨v', w', hr, h3, h4⟩ := append_row (P := P) t o.type i ht hi hz h1 h2 hv hu hlen hB
  unfold Oper.wp execOp
  simp only [ho, resolve, invoke, builtin, Sem.run_bind, Sem.run_pure, Result.andThen_ok, List.map_toArray, List.map_cons, List.map_nil, hs, hx, hr]
  exact hK _ _ (h v' w' h3 h4)
end

end Go.Proofs.YtfpldbobfjkkfaaDoor
