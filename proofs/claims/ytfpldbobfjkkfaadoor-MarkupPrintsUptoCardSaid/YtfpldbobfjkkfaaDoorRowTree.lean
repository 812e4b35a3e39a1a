/- A tree among a law's arguments: what its reading gives the walks. -/
import Derived.Test.YtfpldbobfjkkfaaDoorRowBase
import Derived.Test.YtfpldbobfjkkfaaDoorFlat
namespace Go.Proofs.YtfpldbobfjkkfaaDoor.rows
open Go.ChangeShapes Go.WideShapes Go.ChangeAt Go.RowKit Go.Proofs.YtfpldbobfjkkfaaDoorW.PrintWords Go.Proofs.YtfpldbobfjkkfaaDoorW.PrintLast

theorem cStamp : Tryd.prog.cellsOf 28 = 2 := by kernel_rfl
theorem cInt : Tryd.prog.cellsOf 3 = 1 := by kernel_rfl
theorem cStr : Tryd.prog.cellsOf 9 = 1 := by kernel_rfl
theorem cAttrs : Tryd.prog.cellsOf 29 = 1 := by kernel_rfl
theorem cKids : Tryd.prog.cellsOf 30 = 1 := by kernel_rfl
theorem cAttr : Tryd.prog.cellsOf 88 = 2 := by kernel_rfl
theorem cNode : Tryd.prog.cellsOf 32 = 6 := by kernel_rfl

theorem pairAll_of {α β : Type} {P : α → β → Prop} : ∀ (l : List α) (r : List β), l.length = r.length → (∀ i (h1 : i < l.length) (h2 : i < r.length), P l[i] r[i]) → PairAll P l r
  | [], [], _, _ => trivial
  | [], _ :: _, h, _ => by simp at h
  | _ :: _, [], h, _ => by simp at h
  | a :: l, b :: r, h, hp => ⟨hp 0 (by simp) (by simp), pairAll_of l r (by simpa using h) (fun i h1 h2 => hp (i + 1) (by simpa using h1) (by simpa using h2))⟩

theorem two_of {α : Type} {l : List α} (h : l.length = 2) : ∃ a b, l = [a, b] := by
  match l, h with
  | [a, b], _ => exact ⟨a, b, rfl⟩
theorem five_of {α : Type} {l : List α} (h : l.length = 5) : ∃ a b c d e, l = [a, b, c, d, e] := by
  match l, h with
  | [a, b, c, d, e], _ => exact ⟨a, b, c, d, e, rfl⟩
theorem six_of {α : Type} {l : List α} (h : l.length = 6) : ∃ a b c d e f, l = [a, b, c, d, e, f] := by
  match l, h with
  | [a, b, c, d, e, f], _ => exact ⟨a, b, c, d, e, f, rfl⟩

section
variable {H : Type} {enc : TypeId × Value → H} {w : World} {sp : Nat → Bool} {held : Bool}

theorem trod_stamp {fuel : Nat} {cs : List Value} {d : DataW H} {p : List MemPlace} (h : DataW.trod enc Tryd.prog w 0 sp held fuel 28 cs = some (d, p)) :
    ∃ x : St, cs = [.int .i64 x.f0, .int .i64 x.f1] ∧ (Lit.int .i64 x.f0).wf = true ∧ (Lit.int .i64 x.f1).wf = true := by
  obtain ⟨xs, n, rfl, hx, hl, hxl, hall⟩ := DataW.trod_struct Tryd.underlying28 h
  have hxl : xs.length = 2 := hxl
  have h0 : DataW.trod enc Tryd.prog w 0 sp held n 3 ((cs.drop 0).take (Tryd.prog.cellsOf 3)) = xs[0]? := hall 0 _ rfl
  have h1 : DataW.trod enc Tryd.prog w 0 sp held n 3 ((cs.drop 1).take (Tryd.prog.cellsOf 3)) = xs[1]? := hall 1 _ rfl
  rw [cStamp] at hl
  obtain ⟨a, b, rfl⟩ := two_of hl
  obtain ⟨x0, x1, rfl⟩ := two_of hxl
  simp only [cInt, List.drop_zero, List.drop_succ_cons, List.take_succ_cons, List.take_zero, List.getElem?_cons_zero, List.getElem?_cons_succ] at h0 h1
  obtain ⟨m, e0, _, w0⟩ := DataW.trod_int Tryd.underlying3 h0
  obtain ⟨k, e1, _, w1⟩ := DataW.trod_int Tryd.underlying3 h1
  cases e0
  cases e1
  exact ⟨⟨m, k⟩, rfl, w0, w1⟩

theorem trod_attr {fuel : Nat} {cs : List Value} {d : DataW H} {p : List MemPlace} (h : DataW.trod enc Tryd.prog w 0 sp held fuel 88 cs = some (d, p)) :
    ∃ x : At, R.k88.K w x cs ∧ x.f0.size + x.f1.size + 1 ≤ Rows.uptoBulk d := by
  obtain ⟨xs, n, rfl, hx, hl, hxl, hall⟩ := DataW.trod_struct Tryd.underlying88 h
  have hxl : xs.length = 2 := hxl
  have h0 : DataW.trod enc Tryd.prog w 0 sp held n 9 ((cs.drop 0).take (Tryd.prog.cellsOf 9)) = xs[0]? := hall 0 _ rfl
  have h1 : DataW.trod enc Tryd.prog w 0 sp held n 9 ((cs.drop 1).take (Tryd.prog.cellsOf 9)) = xs[1]? := hall 1 _ rfl
  rw [cAttr] at hl
  obtain ⟨a, b, rfl⟩ := two_of hl
  obtain ⟨x0, x1, rfl⟩ := two_of hxl
  simp only [cStr, List.drop_zero, List.drop_succ_cons, List.take_succ_cons, List.take_zero, List.getElem?_cons_zero, List.getElem?_cons_succ] at h0 h1
  obtain ⟨m, e0, f0, w0⟩ := DataW.trod_string Tryd.underlying9 h0
  obtain ⟨k, e1, f1, w1⟩ := DataW.trod_string Tryd.underlying9 h1
  cases e0
  cases e1
  refine ⟨⟨m, k⟩, R.k88_mk w ⟨m, k⟩, ?_⟩
  have hd := (Prod.mk.inj hx).1
  subst hd f0 f1
  simp only [List.map_cons, List.map_nil, Rows.uptoBulk, Rows.uptoBulkAll, len_list]
  omega

theorem trod_list {α : Type} (k : Kd α) (t e : TypeId) (hce : Tryd.prog.cellsOf e = k.sz) (ht : Tryd.prog.underlying t = some (.slice e)) {P : DataW H → α → Prop} {fuel : Nat} {cs : List Value} {d : DataW H} {p : List MemPlace}
    (el : ∀ n cs d p, n < fuel → DataW.trod enc Tryd.prog w 0 sp held n e cs = some (d, p) → ∃ x, k.K w x cs ∧ P d x) (h : DataW.trod enc Tryd.prog w 0 sp held fuel t cs = some (d, p)) :
    ∃ (A : Option Addr) (l : List α) (c : Nat) (ds : List (DataW H)), cs = [.slice A l.length c] ∧ l.length ≤ c ∧ k.C w A l.length l ∧ Rows.uptoBulkAll ds + 1 ≤ Rows.uptoBulk d ∧ ds.length = l.length ∧ PairAll P ds l := by
  rcases DataW.trod_slice ht h with ⟨rfl, hx⟩ | ⟨a, len, cap, elems, rest, n, rfl, rfl, hx, _, hlc, hcm, hel, hcell, _, _⟩
  · have hd := (Prod.mk.inj hx).1
    subst hd
    refine ⟨none, [], 0, [], rfl, Nat.le_refl _, ⟨rfl, by simp, fun h => absurd h (by simp)⟩, by simp [Rows.uptoBulk, Rows.uptoBulkAll], rfl, trivial⟩
  · have hd := (Prod.mk.inj hx).1
    subst hd
    have key : ∀ i : Fin len, ∃ x : α, ∃ cs', w.cells? 0 (a.add (i.val * k.sz)) k.sz = some cs' ∧ k.K w x cs' ∧ P (elems[i.val]'(by rw [hel]; exact i.isLt)).1 x := by
      intro i
      have h1 := hcell i.val i.isLt
      rw [hce, List.getElem?_eq_getElem (by rw [hel]; exact i.isLt)] at h1
      obtain ⟨cs', h2, h3⟩ := Option.bind_eq_some_iff.1 h1
      obtain ⟨x, h4, h5⟩ := el n cs' (elems[i.val]'(by rw [hel]; exact i.isLt)).1 (elems[i.val]'(by rw [hel]; exact i.isLt)).2 (Nat.lt_succ_self n) h3
      exact ⟨x, cs', h2, h4, h5⟩
    refine ⟨some a, List.ofFn fun i => Classical.choose (key i), cap, elems.map (·.1), by rw [List.length_ofFn], by rw [List.length_ofFn]; exact hlc, ⟨rfl, ?_, ?_⟩, ?_, by rw [List.length_map, List.length_ofFn, hel], ?_⟩
    · rw [List.length_ofFn]
      unfold maxLen at hcm
      omega
    · intro _
      refine ⟨a, rfl, fun j x hj => ?_⟩
      obtain ⟨hlt, rfl⟩ := List.getElem?_eq_some_iff.1 hj
      have hlt' : j < len := by rw [List.length_ofFn] at hlt; exact hlt
      rw [List.getElem_ofFn]
      obtain ⟨cs', h2, h4, _⟩ := Classical.choose_spec (key ⟨j, hlt'⟩)
      obtain ⟨_, hl, hc⟩ := World.cells?_some h2
      refine ⟨cs', hl, h4, fun i u hi => ?_⟩
      have := hc i (by rw [← hl]; exact (List.getElem?_eq_some_iff.1 hi).1)
      rw [hi, Addr.add_add] at this
      exact this
    · simp only [Rows.uptoBulk]
      omega
    · refine pairAll_of _ _ (by rw [List.length_map, List.length_ofFn, hel]) (fun i h1 h2 => ?_)
      have hlt' : i < len := by rw [List.length_ofFn] at h2; exact h2
      rw [List.getElem_ofFn, List.getElem_map]
      obtain ⟨cs', _, _, h5⟩ := Classical.choose_spec (key ⟨i, hlt'⟩)
      exact h5

/-- A node's parts are small. -/
structure NodeOk (B : Nat) (n : VN) : Prop where
  tag : n.f1.size ≤ B
  text : n.f2.size ≤ B
  attrs : n.f3.length ≤ B
  kids : n.f4.length ≤ B
  each : ∀ a ∈ n.f3, a.f0.size ≤ B ∧ a.f1.size ≤ B
  count : (Lit.int .i64 n.f0.f0).wf = true
  rep : (Lit.int .i64 n.f0.f1).wf = true
theorem NodeOk.mono {B C : Nat} {n : VN} (h : NodeOk B n) (hB : B ≤ C) : NodeOk C n :=
  ⟨Nat.le_trans h.tag hB, Nat.le_trans h.text hB, Nat.le_trans h.attrs hB, Nat.le_trans h.kids hB, fun a ha => ⟨Nat.le_trans (h.each a ha).1 hB, Nat.le_trans (h.each a ha).2 hB⟩, h.count, h.rep⟩

/-- A tree of that bulk. -/
def TreeOk (B : Nat) (t : VN) : Prop := ∀ dd : Int, (flatD dd t).length ≤ B ∧ ∀ q ∈ flatD dd t, NodeOk B q.2

theorem flatDs_ok : ∀ (ds : List (DataW H)) (ks : List VN), PairAll (fun d k => TreeOk (Rows.uptoBulk d) k) ds ks → ∀ dd : Int, (flatDs dd ks).length ≤ Rows.uptoBulkAll ds ∧ ∀ q ∈ flatDs dd ks, NodeOk (Rows.uptoBulkAll ds) q.2
  | [], [], _, dd => by rw [flatDs]; simp
  | [], _ :: _, h, _ => h.elim
  | _ :: _, [], h, _ => h.elim
  | d :: ds, k :: ks, h, dd => by
    obtain ⟨h1, h2⟩ := flatDs_ok ds ks h.2 dd
    obtain ⟨h3, h4⟩ := h.1 dd
    rw [flatDs, Rows.uptoBulkAll]
    refine ⟨by rw [List.length_append]; omega, fun q hq => ?_⟩
    rcases List.mem_append.1 hq with hq | hq
    · exact (h4 q hq).mono (by omega)
    · exact (h2 q hq).mono (by omega)

theorem attrs_ok : ∀ (ds : List (DataW H)) (as_ : List At), PairAll (fun d (x : At) => x.f0.size + x.f1.size + 1 ≤ Rows.uptoBulk d) ds as_ → as_.length ≤ Rows.uptoBulkAll ds ∧ ∀ a ∈ as_, a.f0.size ≤ Rows.uptoBulkAll ds ∧ a.f1.size ≤ Rows.uptoBulkAll ds
  | [], [], _ => by simp
  | [], _ :: _, h => h.elim
  | _ :: _, [], h => h.elim
  | d :: ds, x :: as_, h => by
    obtain ⟨h1, h2⟩ := attrs_ok ds as_ h.2
    have h3 := h.1
    rw [Rows.uptoBulkAll, List.length_cons]
    refine ⟨by omega, fun a ha => ?_⟩
    rcases List.mem_cons.1 ha with rfl | ha
    · omega
    · have := h2 a ha
      omega

theorem trod_tree : ∀ (fuel : Nat) (cs : List Value) (d : DataW H) (p : List MemPlace), DataW.trod enc Tryd.prog w 0 sp held fuel 32 cs = some (d, p) → ∃ t : VN, R.k32.K w t cs ∧ TreeOk (Rows.uptoBulk d) t := by
  intro fuel
  induction fuel using Nat.strongRecOn with
  | ind fuel ih =>
    intro cs d p h
    obtain ⟨xs, n, rfl, hx, hl, hxl, hall⟩ := DataW.trod_struct Tryd.underlying32 h
    have hxl : xs.length = 5 := hxl
    have h0 : DataW.trod enc Tryd.prog w 0 sp held n 28 ((cs.drop 0).take (Tryd.prog.cellsOf 28)) = xs[0]? := hall 0 _ rfl
    have h1 : DataW.trod enc Tryd.prog w 0 sp held n 9 ((cs.drop 2).take (Tryd.prog.cellsOf 9)) = xs[1]? := hall 1 _ rfl
    have h2 : DataW.trod enc Tryd.prog w 0 sp held n 9 ((cs.drop 3).take (Tryd.prog.cellsOf 9)) = xs[2]? := hall 2 _ rfl
    have h3 : DataW.trod enc Tryd.prog w 0 sp held n 29 ((cs.drop 4).take (Tryd.prog.cellsOf 29)) = xs[3]? := hall 3 _ rfl
    have h4 : DataW.trod enc Tryd.prog w 0 sp held n 30 ((cs.drop 5).take (Tryd.prog.cellsOf 30)) = xs[4]? := hall 4 _ rfl
    rw [cNode] at hl
    obtain ⟨c0, c1, c2, c3, c4, c5, rfl⟩ := six_of hl
    obtain ⟨x0, x1, x2, x3, x4, rfl⟩ := five_of hxl
    simp only [cStamp, cStr, cAttrs, cKids, List.drop_zero, List.drop_succ_cons, List.take_succ_cons, List.take_zero, List.getElem?_cons_zero, List.getElem?_cons_succ] at h0 h1 h2 h3 h4
    obtain ⟨k, e0, w0, w1⟩ := trod_stamp (d := x0.1) (p := x0.2) h0
    obtain ⟨tg, e1, f1, _⟩ := DataW.trod_string Tryd.underlying9 h1
    obtain ⟨tx, e2, f2, _⟩ := DataW.trod_string Tryd.underlying9 h2
    obtain ⟨A4, as_, c4', ds3, e3, l3, g3, b3, n3, q3⟩ := trod_list R.k88 29 88 cAttr Tryd.underlying29 (P := fun d (x : At) => x.f0.size + x.f1.size + 1 ≤ Rows.uptoBulk d) (d := x3.1) (p := x3.2) (fun n cs d p _ h => trod_attr h) h3
    obtain ⟨A5, ks, c5', ds4, e4, l4, g4, b4, n4, q4⟩ := trod_list R.k32 30 32 cNode Tryd.underlying30 (P := fun d (k : VN) => TreeOk (Rows.uptoBulk d) k) (d := x4.1) (p := x4.2) (fun m cs d p hm h => ih m (by omega) cs d p h) h4
    cases e0
    cases e1
    cases e2
    cases e3
    cases e4
    refine ⟨⟨k, tg, tx, as_, ks⟩, R.k32_mk w ⟨k, tg, tx, as_, ks⟩ l3 g3 l4 g4, fun dd => ?_⟩
    have hd := (Prod.mk.inj hx).1
    obtain ⟨r1, r2⟩ := attrs_ok ds3 as_ q3
    obtain ⟨r3, r4⟩ := flatDs_ok ds4 ks q4 (wrap64 (dd + 1))
    have r5 := length_le ds4
    have hb : (tg.size + 1) + (tx.size + 1) + Rows.uptoBulkAll ds3 + 1 + Rows.uptoBulkAll ds4 + 1 + 1 ≤ Rows.uptoBulk d := by
      have z := one_le x0.1
      subst hd f1 f2
      simp only [List.map_cons, List.map_nil, Rows.uptoBulk, Rows.uptoBulkAll, len_list]
      omega
    rw [flatD_eq]
    dsimp only
    refine ⟨by rw [List.length_cons]; omega, fun q hq => ?_⟩
    rcases List.mem_cons.1 hq with rfl | hq
    · exact ⟨by dsimp only; omega, by dsimp only; omega, by dsimp only; omega, by dsimp only; omega, fun a ha => by have := r2 a ha; omega, w0, w1⟩
    · exact (r4 q hq).mono (by omega)

theorem tree_small {l : List (DataW H)} (hk : Rows.uptoSmall H l = true) {d : DataW H} (h : d ∈ l) : Rows.uptoBulk d ≤ 1048576 := Nat.le_trans (part_le h) (bound hk)

set_option maxRecDepth 100000 in
theorem open_tree {v : Value} {d : DataW H} {p : List MemPlace} {base : Nat} (h : DataW.Trod enc Tryd.prog w 0 sp held 32 v d p) (hok : Value.okWide Tryd.prog w .any base 32 v) (hb : Rows.uptoBulk d ≤ 1048576) :
    ∃ (t : VN) (cs : Array Value), v = .agg cs ∧ R.k32.K w t cs.toList ∧ TreeOk 1048576 t := by
  obtain ⟨fuel, hf⟩ := h
  obtain ⟨t, hK, hT⟩ := trod_tree fuel _ _ _ hf
  obtain ⟨A4, c4, A5, c5, hcs, _, _, _, _⟩ := R.k32_open hK
  have : ∃ cs, v = .agg cs := by
    cases v <;> first | exact ⟨_, rfl⟩ | (simp [Value.cells] at hcs)
  obtain ⟨cs, rfl⟩ := this
  exact ⟨t, cs, rfl, hK, fun dd => ⟨Nat.le_trans (hT dd).1 hb, fun q hq => ((hT dd).2 q hq).mono hb⟩⟩
end

theorem TreeOk.fits {t : VN} (h : TreeOk 1048576 t) : ∀ p ∈ flatD 0 t, Fits p.2 := fun p hp => by
  have := (h 0).2 p hp
  exact ⟨by have := this.kids; omega, by have := this.tag; omega, fun a ha => by have := this.each a ha; omega, this.count, this.rep⟩
theorem TreeOk.fitS {t : VN} (h : TreeOk 1048576 t) : ∀ p ∈ flatD 0 t, FitS p.2 := fun p hp => by
  have := (h 0).2 p hp
  exact ⟨by have := this.attrs; omega, by have := this.kids; omega⟩

end Go.Proofs.YtfpldbobfjkkfaaDoor.rows
namespace Go.Proofs.YtfpldbobfjkkfaaDoor

theorem small_of {keys : Bool} {t : VN} (hF : ∀ p ∈ flatD 0 t, Fits p.2) : checkV t = 0 → (∀ p ∈ flatD 0 t, Small p.2) ∧ (textT keys t).length ≤ 100000000000000 := fun h =>
  ⟨fun p hp => ((checkV_small hF h).2 p hp).1, by
    have h1 := textT_len keys _ t (Nat.le_refl _) 0 (fun p hp => ((checkV_small hF h).2 p hp).2)
    have h2 := (checkV_small hF h).1
    omega⟩

theorem parseV_fits {s : ByteArray} (h : (parseV s).2 = 0) : ∀ p ∈ flatD 0 (parseV s).1, Fits p.2 := by
  unfold parseV at h ⊢
  by_cases hl : 262144 < s.size
  · rw [if_pos hl] at h; cases h
  · rw [if_neg hl] at h ⊢
    cases hr : readW s.data.toList with
    | none => rw [hr] at h; cases h
    | some t =>
      rw [hr] at h
      dsimp only at h ⊢
      by_cases hc : checkV t = 0
      · rw [if_pos hc]
        exact readW_fits (by rw [len_list]; omega) hr 0
      · rw [if_neg hc] at h; cases h

end Go.Proofs.YtfpldbobfjkkfaaDoor
