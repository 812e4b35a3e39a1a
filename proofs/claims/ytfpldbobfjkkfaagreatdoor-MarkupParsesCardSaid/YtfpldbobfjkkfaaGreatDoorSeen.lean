/- The keys that have been seen: a map[Stamp]int of the call's own, each key once, its number 1. -/
import Derived.Test.YtfpldbobfjkkfaaGreatDoorRead
import Derived.DeepKeys4
import Derived.WideKeyEntry
namespace Go.Proofs.YtfpldbobfjkkfaaGreatDoor
open Go.RowKit Go.Proofs Go.Proofs.YtfpldbobfjkkfaaGreatDoorW.PrintWords Go.Proofs.YtfpldbobfjkkfaaGreatDoorW.PrintLast Go.WideElems Go.ChangeShapes Go.WideShapes Go.MapKept Go.ChangeMaps
open Go.WideMaps (KeyLaw)
set_option linter.unusedSimpArgs false

set_option maxRecDepth 1000000 in
theorem laidOut : laidOutB Tryz.prog = true := by kernel_rfl
set_option maxRecDepth 1000000 in
theorem rowStamp : (24 : TypeId) < Tryz.prog.types.size := of_decide_eq_true (by kernel_rfl)
theorem wideStamp : (match Tryz.prog.underlying 24 with | some (.array _ _) | some (.struct _) => true | _ => false) = true := by rw [Tryz.underlying24]
set_option maxRecDepth 1000000 in
theorem lawStamp : KeyLaw Tryz.prog 24 := deep_law_laid laidOut (m := 2) (by omega) rowStamp (by kernel_rfl) wideStamp
def keyV (k : Int × Int) : Value := .agg #[.int .i64 k.1, .int .i64 k.2]
def KeyOk (k : Int × Int) : Prop := ∃ l, Go.keyOf Tryz.prog 24 (keyV k) = some l
set_option maxRecDepth 1000000 in
theorem cellsStamp : Tryz.prog.cellsOf 24 = 2 := by kernel_rfl
set_option maxRecDepth 1000000 in
theorem keyTypeStamp : Tryz.prog.keyType 24 = true := by kernel_rfl
theorem keyOk_of (a b : Int) (ha : (Lit.int .i64 a).wf = true) (hb : (Lit.int .i64 b).wf = true) : KeyOk (a, b) := by
  obtain ⟨m, hm⟩ : ∃ m, Tryz.prog.types.size + 1 = m + 1 + 1 := ⟨Tryz.prog.types.size - 1, by have h : 0 < Tryz.prog.types.size := Nat.lt_of_le_of_lt (Nat.zero_le _) rowStamp; omega⟩
  unfold KeyOk Go.keyOf
  rw [hm]
  have h3 := Tryz.underlying3
  have hc3 : Tryz.prog.cellsOf 3 = 1 := by kernel_rfl
  simp [Tryz.underlying24, keyTypeStamp, Value.formed, keyV, cellsStamp, Program.keyLits, Value.cells, h3, hc3, ha, hb]

theorem keyV_inj {a b : Int × Int} (h : keyV a = keyV b) : a = b := by
  obtain ⟨a1, a2⟩ := a
  obtain ⟨b1, b2⟩ := b
  simp only [keyV, Value.agg.injEq, Array.mk.injEq, List.cons.injEq, Value.int.injEq, true_and, and_true] at h
  exact Prod.ext h.1 h.2

/-- The map's object. -/
structure SeenRaw (S : List (Int × Int)) (es : Array MapEntry) (clock : Nat) : Prop where
  keys : es.toList.map (·.key) = S.map keyV
  vals : ∀ e ∈ es.toList, e.val = .int .i64 1
  born : ∀ e ∈ es.toList, e.born < clock
  once : (es.toList.map (·.born)).Nodup
  ok : ∀ k ∈ S, KeyOk k
theorem SeenRaw.keyed {S : List (Int × Int)} {es : Array MapEntry} {clock : Nat} (h : SeenRaw S es clock) : ∀ e ∈ es.toList, ∃ l, Go.keyOf Tryz.prog 24 e.key = some l := by
  intro e he
  have h1 : e.key ∈ es.toList.map (·.key) := List.mem_map.2 ⟨e, he, rfl⟩
  rw [h.keys] at h1
  obtain ⟨k, hk, he⟩ := List.mem_map.1 h1
  rw [← he]
  exact h.ok k hk
theorem SeenRaw.mem {S : List (Int × Int)} {es : Array MapEntry} {clock : Nat} (h : SeenRaw S es clock) (k : Int × Int) : k ∈ S ↔ ∃ e ∈ es.toList, e.key = keyV k := by
  constructor
  · intro hk
    have h1 : keyV k ∈ S.map keyV := List.mem_map.2 ⟨k, hk, rfl⟩
    rw [← h.keys] at h1
    exact List.mem_map.1 h1
  · rintro ⟨e, he, hk⟩
    have h1 : e.key ∈ es.toList.map (·.key) := List.mem_map.2 ⟨e, he, rfl⟩
    rw [h.keys, hk] at h1
    obtain ⟨k', hk', he'⟩ := List.mem_map.1 h1
    rwa [← keyV_inj he']
theorem seenRaw_none : SeenRaw [] #[] 0 := ⟨rfl, by simp, by simp, by simp, by simp⟩
theorem SeenRaw.push {S : List (Int × Int)} {es : Array MapEntry} {clock : Nat} (h : SeenRaw S es clock) (k : Int × Int) (hk : KeyOk k) : SeenRaw (S ++ [k]) (es.push ⟨keyV k, .int .i64 1, clock⟩) (clock + 1) where
  keys := by simp [h.keys]
  vals := by
    intro e he
    rw [Array.toList_push, List.mem_append, List.mem_singleton] at he
    rcases he with he | rfl
    · exact h.vals e he
    · rfl
  born := by
    intro e he
    rw [Array.toList_push, List.mem_append, List.mem_singleton] at he
    rcases he with he | rfl
    · exact Nat.lt_succ_of_lt (h.born e he)
    · exact Nat.lt_succ_self _
  once := by
    rw [Array.toList_push, List.map_append]
    refine List.nodup_append.2 ⟨h.once, by simp, fun a ha b hb e => ?_⟩
    simp only [List.map_cons, List.map_nil, List.mem_singleton] at hb
    obtain ⟨x, hx, rfl⟩ := List.mem_map.1 ha
    have := h.born x hx
    omega
  ok := by
    intro x hx
    rw [List.mem_append, List.mem_singleton] at hx
    rcases hx with hx | rfl
    · exact h.ok x hx
    · exact hk

theorem zeroInt (u : World) : (zeroValue 3).run Tryz.prog u = .ok (.int .i64 0) u := Tryz.zeroValue3 u

theorem look_seen {S : List (Int × Int)} {es : Array MapEntry} {clock : Nat} (h : SeenRaw S es clock) {m : Nat} {W : World} (hb : W.heap[m]? = some (.map es clock)) (k : Int × Int) (hk : KeyOk k) :
    (Instr.lookup 53 (.map (some m)) (keyV k) false).run Tryz.prog W = .ok (.int .i64 (if k ∈ S then 1 else 0)) W := by
  obtain ⟨kl, hkl⟩ := hk
  rcases lawStamp.find W hkl es.toList h.keyed with ⟨h1, h2⟩ | ⟨j, e0, h1, h2, h3⟩
  · have hn : k ∉ S := fun hk => by obtain ⟨e, he, hke⟩ := (h.mem k).1 hk; exact h2 e he hke
    simp [Instr.lookup, run_underlying Tryz.underlying53, MapKept.run_getObj_map hb, lawStamp.check W _ hkl, h1, zeroInt, hn, Result.andThen]
  · have hm0 : e0 ∈ es.toList := List.mem_of_getElem? h2
    have hn : k ∈ S := (h.mem k).2 ⟨e0, hm0, h3⟩
    simp [Instr.lookup, run_underlying Tryz.underlying53, MapKept.run_getObj_map hb, lawStamp.check W _ hkl, h1, h.vals e0 hm0, hn, Result.andThen]

/-- A new key's entry is laid; behind it the key's number still reads 0; then the number is stored. -/
theorem entry_seen {S : List (Int × Int)} {es : Array MapEntry} {clock : Nat} (h : SeenRaw S es clock) {m : Nat} {W : World} (hb : W.heap[m]? = some (.map es clock)) (k : Int × Int) (hk : KeyOk k) (hn : k ∉ S) :
    (Instr.mapEntry 53 (.map (some m)) (keyV k)).run Tryz.prog W = .ok (.tuple #[.int .i64 0, goInt clock]) (setBlock W m (.map (es.push ⟨keyV k, .int .i64 0, clock⟩) (clock + 1))) := by
  obtain ⟨kl, hkl⟩ := hk
  rcases lawStamp.find W hkl es.toList h.keyed with ⟨h1, h2⟩ | ⟨j, e0, h1, h2, h3⟩
  · simp [Instr.mapEntry, run_underlying Tryz.underlying53, MapKept.run_getObj_map hb, lawStamp.check W false hkl, h1, zeroInt, MapKept.run_setObj_map _ hb, Result.andThen, setBlock]
  · exact absurd ((h.mem k).2 ⟨e0, List.mem_of_getElem? h2, h3⟩) hn
theorem look_entry {S : List (Int × Int)} {es : Array MapEntry} {clock : Nat} (h : SeenRaw S es clock) {m : Nat} {W : World} (k : Int × Int) (hk : KeyOk k) (hn : k ∉ S) (hb : W.heap[m]? = some (.map (es.push ⟨keyV k, .int .i64 0, clock⟩) (clock + 1))) :
    (Instr.lookup 53 (.map (some m)) (keyV k) false).run Tryz.prog W = .ok (.int .i64 0) W := by
  obtain ⟨kl, hkl⟩ := hk
  rcases lawStamp.find W hkl (es.push ⟨keyV k, .int .i64 0, clock⟩).toList (by
    intro e he
    rw [Array.toList_push, List.mem_append, List.mem_singleton] at he
    rcases he with he | rfl
    · exact h.keyed e he
    · exact ⟨kl, hkl⟩) with ⟨h1, h2⟩ | ⟨j, e0, h1, h2, h3⟩
  · exact absurd rfl (h2 ⟨keyV k, .int .i64 0, clock⟩ (by simp))
  · have hm0 := List.mem_of_getElem? h2
    rw [Array.toList_push, List.mem_append, List.mem_singleton] at hm0
    have hv : e0.val = .int .i64 0 := by
      rcases hm0 with hm0 | rfl
      · exact absurd ((h.mem k).2 ⟨e0, hm0, h3⟩) hn
      · rfl
    simp only [Array.toList_push] at h1
    simp [Instr.lookup, run_underlying Tryz.underlying53, MapKept.run_getObj_map hb, lawStamp.check W _ hkl, h1, hv, Result.andThen]
theorem store_seen {S : List (Int × Int)} {es : Array MapEntry} {clock : Nat} (h : SeenRaw S es clock) {m : Nat} {W : World} (k : Int × Int) (hb : W.heap[m]? = some (.map (es.push ⟨keyV k, .int .i64 0, clock⟩) (clock + 1))) (v : Value) :
    (Instr.entryStore 53 (.map (some m)) (goInt clock) v).run Tryz.prog W = .ok () (setBlock W m (.map (es.push ⟨keyV k, v, clock⟩) (clock + 1))) := by
  have hidx : (es.push ⟨keyV k, .int .i64 0, clock⟩).findIdx? (fun e => ((e.born : Nat) : Int) == ((clock : Nat) : Int)) = some es.size := by
    rw [findIdx_arr]
    have := findIdx_born (l := (es.push ⟨keyV k, .int .i64 0, clock⟩).toList) (j := es.size) (e0 := ⟨keyV k, .int .i64 0, clock⟩) (by
      simp only [Array.toList_push, List.map_append, List.map_cons, List.map_nil]
      refine List.nodup_append.2 ⟨h.once, by simp, fun a ha c hc e1 => ?_⟩
      simp only [List.mem_singleton] at hc
      obtain ⟨x, hx, rfl⟩ := List.mem_map.1 ha
      have := h.born x hx
      omega) (by simp)
    exact this
  have hmod : (es.push ⟨keyV k, .int .i64 0, clock⟩).modify es.size (fun e => { e with val := v }) = es.push ⟨keyV k, v, clock⟩ := by
    apply Array.ext'
    rw [Array.toList_modify, Array.toList_push, Array.toList_push, ← Array.length_toList, modify_last]
  simp [Instr.entryStore, MapKept.run_getObj_map hb, asInt, asIntOf, goInt, hidx, hmod, MapKept.run_setObj_map _ hb, Result.andThen, setBlock]

end Go.Proofs.YtfpldbobfjkkfaaGreatDoor
