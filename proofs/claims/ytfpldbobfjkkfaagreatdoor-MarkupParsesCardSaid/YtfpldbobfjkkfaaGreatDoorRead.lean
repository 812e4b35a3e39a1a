/- The walk of markup.read: a reader of nodes; what it leaves by is caught. -/
import Derived.Test.YtfpldbobfjkkfaaGreatDoorNode
import Derived.Defers
import Derived.Recover
namespace Go.Proofs.YtfpldbobfjkkfaaGreatDoor
open Go.RowKit Go.Proofs Go.Proofs.YtfpldbobfjkkfaaGreatDoorW.PrintWords Go.Proofs.YtfpldbobfjkkfaaGreatDoorW.PrintLast
set_option linter.unusedSimpArgs false

set_option maxHeartbeats 1000000 in
set_option maxRecDepth 100000 in
/-- What is caught: the tree is the zero one, and nothing was read. -/
theorem catch_dies (g g2 : Nat) (hne : g ≠ g2) (a0 a1 a2 a3 a4 a5 b0 : Value) (pv : Value) (w : World)
    (hg : w.heap[g]? = some (.cells #[a0, a1, a2, a3, a4, a5] 28 (0, 0))) (hg2 : w.heap[g2]? = some (.cells #[b0] 4 (0, 0))) :
    CallsD Tryz.prog 15 #[.pointer (some ⟨g, 0, none⟩), .pointer (some ⟨g2, 0, none⟩)] (.panicking [{ v := .iface 88 pv, recovered := false }]) w fun e u' w' =>
      e = .returned (.tuple #[]) ∧ u' = .panicking [{ v := .iface 88 pv, recovered := true }] ∧ Kept2 g g2 w w' ∧
        w'.heap[g]? = some (.cells #[.int .i64 0, .int .i64 0, .string ⟨#[]⟩, .string ⟨#[]⟩, .slice none 0 0, .slice none 0 0] 28 (0, 0)) ∧ w'.heap[g2]? = some (.cells #[.bool false] 4 (0, 0)) := by
  have c0 : w.cell? ⟨g, 0, none⟩ = some a0 := blk_cell hg 0
  have c1 : w.cell? ⟨g, 1, none⟩ = some a1 := blk_cell hg 1
  have c2 : w.cell? ⟨g, 2, none⟩ = some a2 := blk_cell hg 2
  have c3 : w.cell? ⟨g, 3, none⟩ = some a3 := blk_cell hg 3
  have c4 : w.cell? ⟨g, 4, none⟩ = some a4 := blk_cell hg 4
  have c5 : w.cell? ⟨g, 5, none⟩ = some a5 := blk_cell hg 5
  have f0 := blk_frozen hg 0
  have f1 := blk_frozen hg 1
  have f2 := blk_frozen hg 2
  have f3 := blk_frozen hg 3
  have f4 := blk_frozen hg 4
  have f5 := blk_frozen hg 5
  have d0 : w.cell? ⟨g2, 0, none⟩ = some b0 := blk_cell hg2 0
  have e0 := blk_frozen hg2 0
  refine callsD_of_wpS Tryz.func15 rfl fun cf cs hu => ?_
  apply wpS_seq
  apply wpS_region
  simp [wpOpsS, go_sem, recoverD, hu, Tryz.ntmps15, Exit.thenS]
  refine wpS_of_wp ?_
  rw [show (#[Value.pointer (some ⟨g, 0, none⟩), Value.pointer (some ⟨g2, 0, none⟩)] ++ ((Array.replicate 5 undef).setIfInBounds 1 (Value.iface 88 pv)).setIfInBounds 0 (Value.iface 88 pv)) = #[Value.pointer (some ⟨g, 0, none⟩), Value.pointer (some ⟨g2, 0, none⟩), Value.iface 88 pv, Value.iface 88 pv, undef, undef, undef] from rfl]
  go_wp2
  have hW : Kept2 g g2 w (((((((w.setCell ⟨g, 0, none⟩ (.int .i64 0)).setCell ⟨g, 1, none⟩ (.int .i64 0)).setCell ⟨g, 2, none⟩ (.string ⟨#[]⟩)).setCell ⟨g, 3, none⟩ (.string ⟨#[]⟩)).setCell ⟨g, 4, none⟩ (.slice none 0 0)).setCell ⟨g, 5, none⟩ (.slice none 0 0)).setCell ⟨g2, 0, none⟩ (.bool false)) :=
    ((((((((Kept2.refl g2 g w).set (.inl rfl) 0 _).set (.inl rfl) 1 _).set (.inl rfl) 2 _).set (.inl rfl) 3 _).set (.inl rfl) 4 _).set (.inl rfl) 5 _).swap).set (.inl rfl) 0 _
  have hgW := blk_far (blk_set (blk_set (blk_set (blk_set (blk_set (blk_set hg 0 (.int .i64 0)) 1 (.int .i64 0)) 2 (.string ⟨#[]⟩)) 3 (.string ⟨#[]⟩)) 4 (.slice none 0 0)) 5 (.slice none 0 0)) (p := ⟨g2, 0, none⟩) hne (.bool false)
  have hg2W := blk_set (blk_far (blk_far (blk_far (blk_far (blk_far (blk_far hg2 (p := ⟨g, 0, none⟩) hne.symm (.int .i64 0)) (p := ⟨g, 1, none⟩) hne.symm (.int .i64 0)) (p := ⟨g, 2, none⟩) hne.symm (.string ⟨#[]⟩)) (p := ⟨g, 3, none⟩) hne.symm (.string ⟨#[]⟩)) (p := ⟨g, 4, none⟩) hne.symm (.slice none 0 0)) (p := ⟨g, 5, none⟩) hne.symm (.slice none 0 0)) 0 (.bool false)
  have hall := And.intro hW (And.intro hgW hg2W)
  clear hW hgW hg2W hg hg2 c0 c1 c2 c3 c4 c5 d0 e0 f0 f1 f2 f3 f4 f5
  generalize (((((((w.setCell ⟨g, 0, none⟩ (.int .i64 0)).setCell ⟨g, 1, none⟩ (.int .i64 0)).setCell ⟨g, 2, none⟩ (.string ⟨#[]⟩)).setCell ⟨g, 3, none⟩ (.string ⟨#[]⟩)).setCell ⟨g, 4, none⟩ (.slice none 0 0)).setCell ⟨g, 5, none⟩ (.slice none 0 0)).setCell ⟨g2, 0, none⟩ (.bool false)) = W at hall ⊢
  obtain ⟨h1, h2, h3⟩ := hall
  simp [bodyPostS, results, Tryz.results15]
  exact ⟨h1, h2, h3⟩

/-- Nothing is caught. -/
theorem catch_idle (g g2 : Nat) (w : World) :
    CallsD Tryz.prog 15 #[.pointer (some ⟨g, 0, none⟩), .pointer (some ⟨g2, 0, none⟩)] .returning w fun e u' w' => e = .returned (.tuple #[]) ∧ u' = .returning ∧ w' = w := by
  refine callsD_of_wpS Tryz.func15 rfl fun cf cs hu => ?_
  apply wpS_seq
  apply wpS_region
  simp [wpOpsS, go_sem, recoverD, hu, Tryz.ntmps15, Exit.thenS]
  refine wpS_of_wp ?_
  rw [show (#[Value.pointer (some ⟨g, 0, none⟩), Value.pointer (some ⟨g2, 0, none⟩)] ++ ((Array.replicate 5 undef).setIfInBounds 1 Value.nilIface).setIfInBounds 0 Value.nilIface) = #[Value.pointer (some ⟨g, 0, none⟩), Value.pointer (some ⟨g2, 0, none⟩), Value.nilIface, Value.nilIface, undef, undef, undef] from rfl]
  go_wp2
  cases cf
  simp_all [bodyPostS, results, Tryz.results15]

/-- What read hands back. -/
def ReadPost (s : ByteArray) (w : World) (e : Ending) (w' : World) : Prop :=
  Below w.heap.size w w' ∧ ∃ (t : VN) (ok : Bool) (cs : Array Value), e = .returned (.tuple #[.agg cs, .bool ok]) ∧ R.k28.M w' w.heap.size (fun _ => True) t cs.toList ∧ readW s.data.toList = (if ok then some t else none)

theorem Kept2.drew {x y : Nat} {a b : World} (h : Kept2 x y a b) : Kept2 x y a b.drew := ⟨h.os, h.tape, h.output, h.size, h.block⟩
theorem cells6 {w : World} {g : Nat} {t : TypeId} {a0 a1 a2 a3 a4 a5 : Value} (h : w.heap[g]? = some (.cells #[a0, a1, a2, a3, a4, a5] t (0, 0))) :
    (w.cell? ⟨g, 0, none⟩ = some a0 ∧ w.cell? ⟨g, 1, none⟩ = some a1 ∧ w.cell? ⟨g, 2, none⟩ = some a2 ∧ w.cell? ⟨g, 3, none⟩ = some a3 ∧ w.cell? ⟨g, 4, none⟩ = some a4 ∧ w.cell? ⟨g, 5, none⟩ = some a5) ∧
      (w.frozen? ⟨g, 0, none⟩ = false ∧ w.frozen? ⟨g, 1, none⟩ = false ∧ w.frozen? ⟨g, 2, none⟩ = false ∧ w.frozen? ⟨g, 3, none⟩ = false ∧ w.frozen? ⟨g, 4, none⟩ = false ∧ w.frozen? ⟨g, 5, none⟩ = false) :=
  ⟨⟨blk_cell h 0, blk_cell h 1, blk_cell h 2, blk_cell h 3, blk_cell h 4, blk_cell h 5⟩, blk_frozen h 0, blk_frozen h 1, blk_frozen h 2, blk_frozen h 3, blk_frozen h 4, blk_frozen h 5⟩

/-- Six cells of a block written. -/
def put6 (w : World) (g : Nat) (b0 b1 b2 b3 b4 b5 : Value) : World := (((((w.setCell ⟨g, 0, none⟩ b0).setCell ⟨g, 1, none⟩ b1).setCell ⟨g, 2, none⟩ b2).setCell ⟨g, 3, none⟩ b3).setCell ⟨g, 4, none⟩ b4).setCell ⟨g, 5, none⟩ b5
theorem put6_blk {w : World} {g : Nat} {t : TypeId} {a0 a1 a2 a3 a4 a5 : Value} (h : w.heap[g]? = some (.cells #[a0, a1, a2, a3, a4, a5] t (0, 0))) (b0 b1 b2 b3 b4 b5 : Value) : (put6 w g b0 b1 b2 b3 b4 b5).heap[g]? = some (.cells #[b0, b1, b2, b3, b4, b5] t (0, 0)) :=
  blk_set (blk_set (blk_set (blk_set (blk_set (blk_set h 0 b0) 1 b1) 2 b2) 3 b3) 4 b4) 5 b5
theorem put6_kept (w : World) (x g : Nat) (b0 b1 b2 b3 b4 b5 : Value) : Kept2 x g w (put6 w g b0 b1 b2 b3 b4 b5) :=
  ((((((Kept2.refl x g w).set (.inl rfl) 0 b0).set (.inl rfl) 1 b1).set (.inl rfl) 2 b2).set (.inl rfl) 3 b3).set (.inl rfl) 4 b4).set (.inl rfl) 5 b5
theorem put6_far {w : World} {g k : Nat} (h : k ≠ g) (b0 b1 b2 b3 b4 b5 : Value) : (put6 w g b0 b1 b2 b3 b4 b5).heap[k]? = w.heap[k]? := by
  unfold put6
  rw [Below.heap_setCell _ _ _ _ h, Below.heap_setCell _ _ _ _ h, Below.heap_setCell _ _ _ _ h, Below.heap_setCell _ _ _ _ h, Below.heap_setCell _ _ _ _ h, Below.heap_setCell _ _ _ _ h]
theorem put6_size (w : World) (g : Nat) (b0 b1 b2 b3 b4 b5 : Value) : (put6 w g b0 b1 b2 b3 b4 b5).heap.size = w.heap.size := by
  unfold put6
  simp only [World.size_setCell]

theorem results_cv {P : Program} {fn : Func} {p p' : Tmp} {ty ty' : TypeId} (h : fn.results = #[.cell p ty, .cell p' ty']) (tmps : Array Value) (w : World) (g g' : Nat) (t : TypeId) (cs : Array Value) (v : Value) (fr : Nat × Nat) (d : TypeDesc)
    (hp : tmps.getD p undef = .pointer (some ⟨g, 0, none⟩)) (hg : w.heap[g]? = some (.cells cs t fr))
    (hu : P.underlying ty = some d) (hd : (match d with | .struct _ | .array _ _ => true | _ => false) = true) (hi : (P.info? ty).map (·.size) = some cs.size)
    (hp' : tmps.getD p' undef = .pointer (some ⟨g', 0, none⟩)) (hv : (loadVar ty' ⟨g', 0, none⟩).run P w = .ok v w) :
    (results fn tmps).run P w = .ok (.tuple #[.agg cs, v]) w := by
  have h1 : tmps[p]?.getD undef = .pointer (some ⟨g, 0, none⟩) := by simpa using hp
  have h2 : tmps[p']?.getD undef = .pointer (some ⟨g', 0, none⟩) := by simpa using hp'
  simp [results, h, h1, h2, asAddr, run_loadVar_row w g t ty cs fr d hg hu hd hi, hv]

theorem load_bool (g : Nat) (b : Bool) (w : World) (hg : w.heap[g]? = some (.cells #[.bool b] 4 (0, 0))) : (loadVar 4 ⟨g, 0, none⟩).run Tryz.prog w = .ok (.bool b) w := by
  have c0 : w.cell? ⟨g, 0, none⟩ = some (.bool b) := blk_cell hg 0
  have h1 := Tryz.underlying4
  simp [loadVar, isAgg, go_sem, c0]

theorem rest_nil {s : ByteArray} {p : Nat} (hp : p ≤ s.size) : rest s p = [] ↔ p = s.size := by
  constructor
  · intro h
    have := congrArg List.length h
    rw [rest_len] at this
    simp at this
    omega
  · intro h
    apply List.eq_nil_of_length_eq_zero
    rw [rest_len]
    omega

set_option maxHeartbeats 4000000 in
set_option maxRecDepth 1000000 in
theorem read_any (s : ByteArray) (hs : s.size ≤ 262144) (w : World) (hG : Glob w) (hgt : gTop ≤ w.heap.size) :
    Calls Tryz.prog 9 #[.string s] w (ReadPost s w) := by
  have hmf : ∀ (fn : Fn) (first cap : Array Value) (w : World), (Instr.makeFunc fn first cap).run Tryz.prog w = .ok (.func fn first cap) w := fun _ _ _ _ => rfl
  have hgW := blk_alloc (blk_alloc (blk_alloc (blk_new w (.cells #[.int .i64 0, .int .i64 0, .string ⟨#[]⟩, .string ⟨#[]⟩, .slice none 0 0, .slice none 0 0] 28)) (.cells #[.bool false] 4)) (.cells #[.string s, .int .i64 0] 46)) (.cells #[.pointer (some ⟨w.heap.size + 1 + 1, 0, none⟩), .int .i64 0] 48)
  have hg2W := blk_alloc (blk_alloc (blk_new (w.alloc (.cells #[.int .i64 0, .int .i64 0, .string ⟨#[]⟩, .string ⟨#[]⟩, .slice none 0 0, .slice none 0 0] 28)) (.cells #[.bool false] 4)) (.cells #[.string s, .int .i64 0] 46)) (.cells #[.pointer (some ⟨w.heap.size + 1 + 1, 0, none⟩), .int .i64 0] 48)
  have hxW := blk_alloc (blk_new ((w.alloc (.cells #[.int .i64 0, .int .i64 0, .string ⟨#[]⟩, .string ⟨#[]⟩, .slice none 0 0, .slice none 0 0] 28)).alloc (.cells #[.bool false] 4)) (.cells #[.string s, .int .i64 0] 46)) (.cells #[.pointer (some ⟨w.heap.size + 1 + 1, 0, none⟩), .int .i64 0] 48)
  have hyW := blk_new (((w.alloc (.cells #[.int .i64 0, .int .i64 0, .string ⟨#[]⟩, .string ⟨#[]⟩, .slice none 0 0, .slice none 0 0] 28)).alloc (.cells #[.bool false] 4)).alloc (.cells #[.string s, .int .i64 0] 46)) (.cells #[.pointer (some ⟨w.heap.size + 1 + 1, 0, none⟩), .int .i64 0] 48)
  have hb0 : Below w.heap.size w ((((w.alloc (.cells #[.int .i64 0, .int .i64 0, .string ⟨#[]⟩, .string ⟨#[]⟩, .slice none 0 0, .slice none 0 0] 28)).alloc (.cells #[.bool false] 4)).alloc (.cells #[.string s, .int .i64 0] 46)).alloc (.cells #[.pointer (some ⟨w.heap.size + 1 + 1, 0, none⟩), .int .i64 0] 48)) :=
    below_alloc (below_alloc (below_alloc (below_alloc (Below.refl _ _) _) _) _) _
  simp only [World.size_alloc] at hg2W hxW hyW
  have hsz : ((((w.alloc (.cells #[.int .i64 0, .int .i64 0, .string ⟨#[]⟩, .string ⟨#[]⟩, .slice none 0 0, .slice none 0 0] 28)).alloc (.cells #[.bool false] 4)).alloc (.cells #[.string s, .int .i64 0] 46)).alloc (.cells #[.pointer (some ⟨w.heap.size + 1 + 1, 0, none⟩), .int .i64 0] 48)).heap.size = w.heap.size + 1 + 1 + 1 + 1 := by simp only [World.size_alloc]
  go_enter_defers Tryz.func9, Tryz.ntmps9
  go_wp2_with fail
  generalize ((((w.alloc (.cells #[.int .i64 0, .int .i64 0, .string ⟨#[]⟩, .string ⟨#[]⟩, .slice none 0 0, .slice none 0 0] 28)).alloc (.cells #[.bool false] 4)).alloc (.cells #[.string s, .int .i64 0] 46)).alloc (.cells #[.pointer (some ⟨w.heap.size + 1 + 1, 0, none⟩), .int .i64 0] 48)) = w0 at hgW hg2W hxW hyW hb0 hsz ⊢
  refine (readNode (w.heap.size + 1 + 1) (w.heap.size + 1 + 1 + 1) s hs (by omega) (by omega) (by omega) (2 * s.data.toList.length + 2) 0 s.data.toList w0 (Nat.le_refl _) (by omega) ⟨0, Nat.zero_le _, hxW, rfl⟩ hyW (hG.below hb0) (by omega)).mono ?_
  rintro e w1 ⟨hk, ⟨t, l, m, cs, hn, rfl, hM, hS, hR⟩ | ⟨hn, v, rfl⟩⟩
  case inr =>
    have hg1 := hk.blk hgW (by omega) (by omega)
    have hg21 := hk.blk hg2W (by omega) (by omega)
    go_wp2
    refine leaves_cons (f := 15) (args := #[.pointer (some ⟨w.heap.size, 0, none⟩), .pointer (some ⟨w.heap.size + 1, 0, none⟩)]) (by simp) (by simp [go_sem]) ?_
    refine (catch_dies w.heap.size (w.heap.size + 1) (by omega) _ _ _ _ _ _ _ v _ hg1 hg21).mono ?_
    rintro e u' w2 ⟨rfl, rfl, hk2, hz, hz2⟩
    refine ⟨_, results_cv rfl _ _ w.heap.size (w.heap.size + 1) 28 _ (.bool false) (0, 0) _ rfl hz Tryz.underlying28 rfl (by kernel_rfl) rfl (load_bool _ _ _ hz2), ?_⟩
    refine ⟨?_, ⟨⟨0, 0⟩, ⟨#[]⟩, ⟨#[]⟩, [], []⟩, false, _, rfl, R.k28_mkM _ _ _ ⟨⟨0, 0⟩, ⟨#[]⟩, ⟨#[]⟩, [], []⟩ (Kd.R_nil _ _ _ _ _) (Kd.R_nil _ _ _ _ _), ?_⟩
    · exact ⟨hk2.os.trans (hk.os.trans hb0.os), hk2.tape.trans (hk.tape.trans hb0.tape), hk2.output.trans (hk.output.trans hb0.output), Nat.le_trans hb0.size (Nat.le_trans hk.size hk2.size), fun k hlt => (hk2.block k (by have := hk.size; omega) (by omega) (by omega)).trans ((hk.block k (by omega) (by omega) (by omega)).trans (hb0.block k hlt))⟩
    · rw [readW, hn]; rfl
  obtain ⟨va, vk, hcs, hM8, hM32⟩ := R.k28_openM hM
  obtain ⟨A1, C1, rfl⟩ := Kd.R_slice hM8
  obtain ⟨A2, C2, rfl⟩ := Kd.R_slice hM32
  obtain rfl : cs = #[.int .i64 t.f0.f0, .int .i64 t.f0.f1, .string t.f1, .string t.f2, .slice A1 t.f3.length C1, .slice A2 t.f4.length C2] := Array.toList_inj.1 hcs
  obtain ⟨p, hp, hSp, hl⟩ := hS
  have hg1 := hk.blk hgW (by omega) (by omega)
  have hg21 := hk.blk hg2W (by omega) (by omega)
  obtain ⟨⟨c0, c1, c2, c3, c4, c5⟩, f0, f1, f2, f3, f4, f5⟩ := cells6 hg1
  go_wp2_with fail
  have gW := put6_blk hg1 (.int .i64 t.f0.f0) (.int .i64 t.f0.f1) (.string t.f1) (.string t.f2) (.slice A1 t.f3.length C1) (.slice A2 t.f4.length C2)

  have hfar : ∀ k, k ≠ w.heap.size → (put6 w1 w.heap.size (.int .i64 t.f0.f0) (.int .i64 t.f0.f1) (.string t.f1) (.string t.f2) (.slice A1 t.f3.length C1) (.slice A2 t.f4.length C2)).heap[k]? = w1.heap[k]? := fun k hk => put6_far hk _ _ _ _ _ _
  have xW : (put6 w1 w.heap.size (.int .i64 t.f0.f0) (.int .i64 t.f0.f1) (.string t.f1) (.string t.f2) (.slice A1 t.f3.length C1) (.slice A2 t.f4.length C2)).heap[w.heap.size + 1 + 1]? = some (.cells #[.string s, .int .i64 (p : Int)] 46 (0, 0)) := (hfar _ (by omega)).trans hSp
  have yW : (put6 w1 w.heap.size (.int .i64 t.f0.f0) (.int .i64 t.f0.f1) (.string t.f1) (.string t.f2) (.slice A1 t.f3.length C1) (.slice A2 t.f4.length C2)).heap[w.heap.size + 1 + 1 + 1]? = some (.cells #[.pointer (some ⟨w.heap.size + 1 + 1, 0, none⟩), .int .i64 (m : Int)] 48 (0, 0)) := (hfar _ (by omega)).trans hR
  have g2W : (put6 w1 w.heap.size (.int .i64 t.f0.f0) (.int .i64 t.f0.f1) (.string t.f1) (.string t.f2) (.slice A1 t.f3.length C1) (.slice A2 t.f4.length C2)).heap[w.heap.size + 1]? = some (.cells #[.bool false] 4 (0, 0)) := (hfar _ (by omega)).trans hg21
  have hbW : Below w.heap.size w (put6 w1 w.heap.size (.int .i64 t.f0.f0) (.int .i64 t.f0.f1) (.string t.f1) (.string t.f2) (.slice A1 t.f3.length C1) (.slice A2 t.f4.length C2)) := ⟨(put6_kept w1 0 w.heap.size _ _ _ _ _ _).os.trans (hk.os.trans hb0.os), (put6_kept w1 0 w.heap.size _ _ _ _ _ _).tape.trans (hk.tape.trans hb0.tape), (put6_kept w1 0 w.heap.size _ _ _ _ _ _).output.trans (hk.output.trans hb0.output), by rw [put6_size]; exact Nat.le_trans hb0.size hk.size, fun k hlt => (hfar k (by omega)).trans ((hk.block k (by omega) (by omega) (by omega)).trans (hb0.block k hlt))⟩
  have r8 := Kd.R_step (Kd.R_mono (Kd.R_bound hM8) (ok' := fun k => w0.heap.size ≤ k) (fun k hk => hk.2.1)) (w1 := (put6 w1 w.heap.size (.int .i64 t.f0.f0) (.int .i64 t.f0.f1) (.string t.f1) (.string t.f2) (.slice A1 t.f3.length C1) (.slice A2 t.f4.length C2))) (fun k hk _ => hfar k (by omega))
  have r32 := Kd.R_step (Kd.R_mono (Kd.R_bound hM32) (ok' := fun k => w0.heap.size ≤ k) (fun k hk => hk.2.1)) (w1 := (put6 w1 w.heap.size (.int .i64 t.f0.f0) (.int .i64 t.f0.f1) (.string t.f1) (.string t.f2) (.slice A1 t.f3.length C1) (.slice A2 t.f4.length C2))) (fun k hk _ => hfar k (by omega))
  clear hfar hk hM8 hM32 hSp hR hgW hg2W hxW hyW hb0 hg1 hg21 c0 c1 c2 c3 c4 c5 f0 f1 f2 f3 f4 f5 hM hcs
  change Code.wp _ _ _ _ (put6 w1 w.heap.size (.int .i64 t.f0.f0) (.int .i64 t.f0.f1) (.string t.f1) (.string t.f2) (.slice A1 t.f3.length C1) (.slice A2 t.f4.length C2))
  generalize (put6 w1 w.heap.size (.int .i64 t.f0.f0) (.int .i64 t.f0.f1) (.string t.f1) (.string t.f2) (.slice A1 t.f3.length C1) (.slice A2 t.f4.length C2)) = W at gW xW yW g2W hbW r8 r32 ⊢
  have hfar : ∀ k, k ≠ w.heap.size → (put6 W w.heap.size (.int .i64 t.f0.f0) (.int .i64 t.f0.f1) (.string t.f1) (.string t.f2) (.slice A1 t.f3.length C1) (.slice A2 t.f4.length C2)).heap[k]? = W.heap[k]? := fun k hk => put6_far hk _ _ _ _ _ _
  have gX := put6_blk gW (.int .i64 t.f0.f0) (.int .i64 t.f0.f1) (.string t.f1) (.string t.f2) (.slice A1 t.f3.length C1) (.slice A2 t.f4.length C2)
  have xX := (hfar _ (by omega)).trans xW
  have yX := (hfar _ (by omega)).trans yW
  have g2X := (hfar _ (by omega)).trans g2W
  have gW1 := blk_drew gX
  have xW1 := blk_drew xX
  have yW1 := blk_drew yX
  have g2W1 := blk_drew g2X
  have kZ := (put6_kept W (w.heap.size + 1) w.heap.size (.int .i64 t.f0.f0) (.int .i64 t.f0.f1) (.string t.f1) (.string t.f2) (.slice A1 t.f3.length C1) (.slice A2 t.f4.length C2)).swap.drew
  have hbW1 : Below w.heap.size w _ := ⟨kZ.os.trans hbW.os, kZ.tape.trans hbW.tape, kZ.output.trans hbW.output, Nat.le_trans hbW.size kZ.size, fun k hlt => (kZ.block k (by have := hbW.size; omega) (by omega) (by omega)).trans (hbW.block k hlt)⟩
  have r81 := Kd.R_step r8 (fun k hk hlt => kZ.block k hlt (by omega) (by omega))
  have r321 := Kd.R_step r32 (fun k hk hlt => kZ.block k hlt (by omega) (by omega))
  clear kZ hbW r8 r32 xX yX gX g2X hfar
  obtain ⟨⟨c0, c1, c2, c3, c4, c5⟩, f0, f1, f2, f3, f4, f5⟩ := cells6 gW
  have HG := Lib.hid gW1
  have HX := Lib.hid xW1
  have HY := Lib.hid yW1
  have HG2 := Lib.hid g2W1
  clear gW1 xW1 yW1 g2W1
  refine wp_region_noPanic ?_
  refine start_ (n := 13) (S := fun w' => w'.cell? ⟨w.heap.size, 0, none⟩ = some (.int .i64 t.f0.f0) ∧ w'.cell? ⟨w.heap.size, 1, none⟩ = some (.int .i64 t.f0.f1) ∧ w'.cell? ⟨w.heap.size, 2, none⟩ = some (.string t.f1) ∧ w'.cell? ⟨w.heap.size, 3, none⟩ = some (.string t.f2) ∧ w'.cell? ⟨w.heap.size, 4, none⟩ = some (.slice A1 t.f3.length C1) ∧ w'.cell? ⟨w.heap.size, 5, none⟩ = some (.slice A2 t.f4.length C2) ∧ w'.cell? ⟨w.heap.size + 1 + 1 + 1, 0, none⟩ = some (.pointer (some ⟨w.heap.size + 1 + 1, 0, none⟩)) ∧ w'.cell? ⟨w.heap.size + 1 + 1, 1, none⟩ = some (.int .i64 (p : Int))) (ds := []) #[false, false, false, false, false, false, false, false, false, false, false, false, false] (by kernel_rfl) rfl rfl ⟨blk_cell gW 0, blk_cell gW 1, blk_cell gW 2, blk_cell gW 3, blk_cell gW 4, blk_cell gW 5, blk_cell yW 0, blk_cell xW 1⟩ (fun hHeld => ?_)
  refine pure_ (i := 1) (N := some 14) (v := ?_) (a' := ?_) #[false, true, false, false, false, false, false, false, false, false, false, false, false] rfl rfl (by kernel_rfl) (fun _ _ _ h => h) (Or.inl ⟨by rfl, ?_⟩) ?_ ?_
  rotate_left
  · intro w'
    go_simp
    with_reducible rfl
  rotate_left
  · simp only [Act.put, List.setIfInBounds_toArray, List.set_cons_zero, List.set_cons_succ, i64_w, i32_w]
    rfl
  refine pure_ (i := 2) (N := some 15) (v := ?_) (a' := ?_) #[false, true, true, false, false, false, false, false, false, false, false, false, false] rfl rfl (by kernel_rfl) (fun _ _ _ h => h) (Or.inl ⟨by rfl, ?_⟩) ?_ ?_
  rotate_left
  · intro w'
    go_simp
    with_reducible rfl
  rotate_left
  · simp only [Act.put, List.setIfInBounds_toArray, List.set_cons_zero, List.set_cons_succ, i64_w, i32_w]
    rfl
  refine pure_ (i := 3) (N := some 16) (v := ?_) (a' := ?_) #[false, true, true, true, false, false, false, false, false, false, false, false, false] rfl rfl (by kernel_rfl) (fun _ _ _ h => h) (Or.inl ⟨by rfl, ?_⟩) ?_ ?_
  rotate_left
  · intro w'
    go_simp
    with_reducible rfl
  rotate_left
  · simp only [Act.put, List.setIfInBounds_toArray, List.set_cons_zero, List.set_cons_succ, i64_w, i32_w]
    rfl
  refine pure_ (i := 8) (N := some 21) (v := ?_) (a' := ?_) #[false, true, true, true, false, false, false, false, true, false, false, false, false] rfl rfl (by kernel_rfl) (fun _ _ _ h => h) (Or.inl ⟨by rfl, ?_⟩) ?_ ?_
  rotate_left
  · intro w'
    go_simp
    with_reducible rfl
  rotate_left
  · simp only [Act.put, List.setIfInBounds_toArray, List.set_cons_zero, List.set_cons_succ, i64_w, i32_w]
    rfl
  refine pure_ (i := 9) (N := some 22) (v := ?_) (a' := ?_) #[false, true, true, true, false, false, false, false, true, true, false, false, false] rfl rfl (by kernel_rfl) (fun _ _ _ h => h) (Or.inl ⟨by rfl, ?_⟩) ?_ ?_
  rotate_left
  · intro w'
    go_simp
    with_reducible rfl
  rotate_left
  · simp only [Act.put, List.setIfInBounds_toArray, List.set_cons_zero, List.set_cons_succ, i64_w, i32_w]
    rfl
  refine take_ (i := 0) (N := some 13) (v := ?_) (a' := ?_) #[true, true, true, true, false, false, false, false, true, true, false, false, false] rfl rfl (by kernel_rfl) (fun _ _ _ h => h) (Or.inl ⟨by rfl, ?_⟩) hHeld ?_ ?_
  rotate_left
  · rintro w' ⟨s0, s1, s2, s3, s4, s5, s6, s7⟩
    go_simp
    with_reducible rfl
  rotate_left
  · simp only [Act.put, List.setIfInBounds_toArray, List.set_cons_zero, List.set_cons_succ, i64_w, i32_w]
    rfl
  refine take_ (i := 4) (N := some 17) (v := ?_) (a' := ?_) #[true, true, true, true, true, false, false, false, true, true, false, false, false] rfl rfl (by kernel_rfl) (fun _ _ _ h => h) (Or.inl ⟨by rfl, ?_⟩) hHeld ?_ ?_
  rotate_left
  · rintro w' ⟨s0, s1, s2, s3, s4, s5, s6, s7⟩
    go_simp
    with_reducible rfl
  rotate_left
  · simp only [Act.put, List.setIfInBounds_toArray, List.set_cons_zero, List.set_cons_succ, i64_w, i32_w]
    rfl
  refine pure_ (i := 5) (N := some 18) (v := ?_) (a' := ?_) #[true, true, true, true, true, true, false, false, true, true, false, false, false] rfl rfl (by kernel_rfl) (fun _ _ _ h => h) (Or.inl ⟨by rfl, ?_⟩) ?_ ?_
  rotate_left
  · intro w'
    go_simp
    with_reducible rfl
  rotate_left
  · simp only [Act.put, List.setIfInBounds_toArray, List.set_cons_zero, List.set_cons_succ, i64_w, i32_w]
    rfl
  refine pure_ (i := 6) (N := some 19) (v := ?_) (a' := ?_) #[true, true, true, true, true, true, true, false, true, true, false, false, false] rfl rfl (by kernel_rfl) (fun _ _ _ h => h) (Or.inl ⟨by rfl, ?_⟩) ?_ ?_
  rotate_left
  · intro w'
    go_simp
    with_reducible rfl
  rotate_left
  · simp only [Act.put, List.setIfInBounds_toArray, List.set_cons_zero, List.set_cons_succ, i64_w, i32_w]
    rfl
  refine take_ (i := 7) (N := some 20) (v := ?_) (a' := ?_) #[true, true, true, true, true, true, true, true, true, true, false, false, false] rfl rfl (by kernel_rfl) (fun _ _ _ h => h) (Or.inl ⟨by rfl, ?_⟩) hHeld ?_ ?_
  rotate_left
  · rintro w' ⟨s0, s1, s2, s3, s4, s5, s6, s7⟩
    go_simp
    with_reducible rfl
  rotate_left
  · simp only [Act.put, List.setIfInBounds_toArray, List.set_cons_zero, List.set_cons_succ, i64_w, i32_w]
    rfl
  refine pure_ (i := 10) (N := some 23) (v := ?_) (a' := ?_) #[true, true, true, true, true, true, true, true, true, true, true, false, false] rfl rfl (by kernel_rfl) (fun _ _ _ h => h) (Or.inl ⟨by rfl, ?_⟩) ?_ ?_
  rotate_left
  · intro w'
    go_simp
    with_reducible rfl
  rotate_left
  · simp only [Act.put, List.setIfInBounds_toArray, List.set_cons_zero, List.set_cons_succ, i64_w, i32_w]
    rfl
  refine one_ (i := 11) (N := none) #[true, true, true, true, true, true, true, true, true, true, true, true, false] rfl rfl (by kernel_rfl) (by decide) (fun K hK => ?_)
  refine skip_ (w1 := ?_) (by rfl) rfl ?_ ?_
  rotate_left
  · go_simp
    rfl
  change K _ (put6 W w.heap.size (.int .i64 t.f0.f0) (.int .i64 t.f0.f1) (.string t.f1) (.string t.f2) (.slice A1 t.f3.length C1) (.slice A2 t.f4.length C2)).drew
  generalize (put6 W w.heap.size (.int .i64 t.f0.f0) (.int .i64 t.f0.f1) (.string t.f1) (.string t.f2) (.slice A1 t.f3.length C1) (.slice A2 t.f4.length C2)).drew = X1 at HG HX HY HG2 hbW1 r81 r321 ⊢
  have gW1 := HG.out
  have xW1 := HX.out
  have yW1 := HY.out
  have g2W1 := HG2.out
  clear HG HX HY HG2 gW xW yW g2W c0 c1 c2 c3 c4 c5 f0 f1 f2 f3 f4 f5
  have c20 : X1.cell? ⟨w.heap.size + 1, 0, none⟩ = some (.bool false) := blk_cell g2W1 0
  have f20 : X1.frozen? ⟨w.heap.size + 1, 0, none⟩ = false := blk_frozen g2W1 0
  refine hK.out _ _ ⟨blk_cell gW1 0, blk_cell gW1 1, blk_cell gW1 2, blk_cell gW1 3, blk_cell gW1 4, blk_cell gW1 5, blk_cell yW1 0, blk_cell xW1 1⟩ (fun hHeld => ?_)
  clear hK K
  refine one_ (i := 12) (N := none) #[true, true, true, true, true, true, true, true, true, true, true, true, true] rfl rfl (by kernel_rfl) (by decide) (fun K hK => ?_)
  refine skip_ (w1 := ?_) (by rfl) rfl ?_ ?_
  rotate_left
  · go_simp
    rfl
  have gW2 := blk_far gW1 (p := ⟨w.heap.size + 1, 0, none⟩) (show w.heap.size ≠ w.heap.size + 1 by omega) (.bool ((p : Int) == (s.size : Int)))
  have g2W2 := blk_set g2W1 0 (.bool ((p : Int) == (s.size : Int)))
  refine hK.out _ _ ⟨blk_cell gW2 0, blk_cell gW2 1, blk_cell gW2 2, blk_cell gW2 3, blk_cell gW2 4, blk_cell gW2 5, blk_cell (blk_far yW1 (p := ⟨w.heap.size + 1, 0, none⟩) (show w.heap.size + 1 + 1 + 1 ≠ w.heap.size + 1 by omega) _) 0, blk_cell (blk_far xW1 (p := ⟨w.heap.size + 1, 0, none⟩) (show w.heap.size + 1 + 1 ≠ w.heap.size + 1 by omega) _) 1⟩ (fun hHeld => ?_)
  clear hK K
  refine done_ (by kernel_rfl) ?_
  have r8Z := Kd.R_mono (Kd.R_lower (Kd.R_far (p := ⟨w.heap.size + 1, 0, none⟩) r81 (fun k hk => by show k ≠ w.heap.size + 1; omega) (.bool ((p : Int) == (s.size : Int)))) (base' := w.heap.size) (by omega)) (ok' := fun _ => True) (fun _ _ => trivial)
  have r32Z := Kd.R_mono (Kd.R_lower (Kd.R_far (p := ⟨w.heap.size + 1, 0, none⟩) r321 (fun k hk => by show k ≠ w.heap.size + 1; omega) (.bool ((p : Int) == (s.size : Int)))) (base' := w.heap.size) (by omega)) (ok' := fun _ => True) (fun _ _ => trivial)
  have hbZ : Below w.heap.size w (X1.setCell ⟨w.heap.size + 1, 0, none⟩ (.bool ((p : Int) == (s.size : Int)))) := hbW1.trans ⟨rfl, rfl, rfl, by rw [World.size_setCell]; exact Nat.le_refl _, fun k hk => Below.heap_setCell _ _ _ _ (by show k ≠ w.heap.size + 1; omega)⟩
  refine NoPanic.normal ?_
  clear hHeld r81 r321 hbW1 gW1 xW1 yW1 g2W1 c20 f20
  generalize (X1.setCell ⟨w.heap.size + 1, 0, none⟩ (.bool ((p : Int) == (s.size : Int)))) = Z at gW2 g2W2 r8Z r32Z hbZ ⊢
  go_wp2
  refine leaves_cons (f := 15) (args := #[.pointer (some ⟨w.heap.size, 0, none⟩), .pointer (some ⟨w.heap.size + 1, 0, none⟩)]) (by simp) (by simp [go_sem]) ?_
  refine (catch_idle w.heap.size (w.heap.size + 1) _).mono ?_
  rintro e u' w2 ⟨rfl, rfl, rfl⟩
  refine ⟨_, results_cv rfl _ _ w.heap.size (w.heap.size + 1) 28 _ (.bool ((p : Int) == (s.size : Int))) (0, 0) _ rfl gW2 Tryz.underlying28 rfl (by kernel_rfl) rfl (load_bool _ _ _ g2W2), ?_⟩
  refine ⟨hbZ, t, _, _, rfl, R.k28_mkM _ _ _ t r8Z r32Z, ?_⟩
  rw [readW, hn, Option.bind_some]
  have he : (l = []) = (p = s.size) := by rw [← hl]; exact propext (rest_nil hp)
  simp only [he]
  by_cases hps : p = s.size
  · subst hps; simp
  · rw [if_neg hps, if_neg]
    simp only [beq_iff_eq]
    omega

end Go.Proofs.YtfpldbobfjkkfaaGreatDoor
