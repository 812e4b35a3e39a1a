/- The walk of markup.reader.node. -/
import Derived.Test.YtfpldbobfjkkfaaGreatDoorScan
import Derived.Deep.RegionHeld3
import Derived.Deep.DeepCutAuto
namespace Go.Proofs.YtfpldbobfjkkfaaGreatDoor
open Go.RowKit Go.Proofs Go.Proofs.YtfpldbobfjkkfaaGreatDoorW.PrintWords Go.Proofs.YtfpldbobfjkkfaaGreatDoorW.PrintLast
set_option linter.unusedSimpArgs false

/-- Of what was there blocks x and y alone may have turned. -/
structure Kept2 (x y : Nat) (w w' : World) : Prop where
  os : w'.os = w.os
  tape : w'.tape = w.tape
  output : w'.output = w.output
  size : w.heap.size ≤ w'.heap.size
  block : ∀ k, k < w.heap.size → k ≠ x → k ≠ y → w'.heap[k]? = w.heap[k]?

theorem Kept2.refl (x y : Nat) (w : World) : Kept2 x y w w := ⟨rfl, rfl, rfl, Nat.le_refl _, fun _ _ _ _ => rfl⟩
theorem Kept2.trans {x y : Nat} {a b c : World} (h : Kept2 x y a b) (k : Kept2 x y b c) : Kept2 x y a c :=
  ⟨k.os.trans h.os, k.tape.trans h.tape, k.output.trans h.output, Nat.le_trans h.size k.size, fun i hi h1 h2 => (k.block i (Nat.lt_of_lt_of_le hi h.size) h1 h2).trans (h.block i hi h1 h2)⟩
theorem Kept2.swap {x y : Nat} {a b : World} (h : Kept2 x y a b) : Kept2 y x a b := ⟨h.os, h.tape, h.output, h.size, fun i hi h1 h2 => h.block i hi h2 h1⟩
theorem Kept2.grown {x y : Nat} {a b c : World} (h : Kept2 x y a b) (k : b.grownBy c (some x)) : Kept2 x y a c :=
  h.trans ⟨k.os, k.tape, k.output, k.size, fun i hi h1 _ => k.block i hi (fun e => h1 (Option.some.inj e))⟩
theorem Kept2.below {x y : Nat} {a b c : World} (h : Kept2 x y a b) (k : Below b.heap.size b c) : Kept2 x y a c :=
  h.trans ⟨k.os, k.tape, k.output, k.size, fun i hi _ _ => k.block i hi⟩
theorem Kept2.alloc {x y : Nat} {a b : World} (h : Kept2 x y a b) (o : Obj) : Kept2 x y a (b.alloc o) := h.below ((Below.refl _ b).alloc (Nat.le_refl _) o)
theorem Kept2.set {x y : Nat} {a b : World} (h : Kept2 x y a b) {g : Nat} (hg : g = y ∨ a.heap.size ≤ g) (j : Nat) (u : Value) : Kept2 x y a (b.setCell ⟨g, j, none⟩ u) :=
  ⟨h.os, h.tape, h.output, by rw [World.size_setCell]; exact h.size, fun i hi h1 h2 => (Below.heap_setCell _ _ _ _ (fun e => by
    have e' : i = g := e
    rcases hg with hg | hg
    · exact h2 (e'.trans hg)
    · omega)).trans (h.block i hi h1 h2)⟩
theorem Kept2.blk {x y : Nat} {a b : World} (h : Kept2 x y a b) {g : Nat} {o : Obj} (hg : a.heap[g]? = some o) (h1 : g ≠ x) (h2 : g ≠ y) : b.heap[g]? = some o := (h.block g (blk_lt hg) h1 h2).trans hg
theorem Kept2.glob {x y : Nat} {a b : World} (h : Kept2 x y a b) (hG : Glob a) (hs : gTop ≤ a.heap.size) (hx : gTop ≤ x) (hy : gTop ≤ y) : Glob b :=
  hG.keep fun k hk => h.block k (by omega) (by omega) (by omega)

theorem grown_blk {w w' : World} {x g : Nat} {o : Obj} (h : w.grownBy w' (some x)) (hg : w.heap[g]? = some o) (hne : g ≠ x) : w'.heap[g]? = some o :=
  (h.block g (blk_lt hg) (fun e => hne (Option.some.inj e))).trans hg

/-- The reader in block y: its scan is in block x, and it has read so many nodes. -/
def ReadAt (x y : Nat) (many : Nat) (w : World) : Prop := w.heap[y]? = some (.cells #[.pointer (some ⟨x, 0, none⟩), .int .i64 (many : Int)] 48 (0, 0))

/-- What a call of node leaves. -/
def NodePost (x y : Nat) (s : ByteArray) (r : Option (VN × List UInt8 × Nat)) (w : World) (e : Ending) (w' : World) : Prop :=
  Kept2 x y w w' ∧ ((∃ t l m cs, r = some (t, l, m) ∧ e = .returned (.agg cs) ∧ R.k28.M w' w.heap.size (fun _ => True) t cs.toList ∧ ScanL x s l w' ∧ ReadAt x y m w') ∨ (r = none ∧ Dies e))

theorem NodePost.dies {x y : Nat} {s : ByteArray} {r : Option (VN × List UInt8 × Nat)} {w w' : World} {e : Ending} (hk : Kept2 x y w w') (hr : r = none) (hd : Dies e) : NodePost x y s r w e w' := ⟨hk, .inr ⟨hr, hd⟩⟩

/-- Where the walk stands: what has turned since w0, what is ahead, what the reader holds. -/
structure At0 (x y : Nat) (s : ByteArray) (w0 : World) (many : Nat) (l : List UInt8) (w : World) : Prop where
  kept : Kept2 x y w0 w
  sc : ScanL x s l w
  rd : ReadAt x y many w

theorem At0.grown {x y : Nat} {s : ByteArray} {w0 w w' : World} {many : Nat} {l l' : List UInt8} (h : At0 x y s w0 many l w) (hxy : x ≠ y) (hg : w.grownBy w' (some x)) (hs : ScanL x s l' w') : At0 x y s w0 many l' w' :=
  ⟨h.kept.grown hg, hs, grown_blk hg h.rd (Ne.symm hxy)⟩
theorem At0.below {x y : Nat} {s : ByteArray} {w0 w w' : World} {many : Nat} {l : List UInt8} (h : At0 x y s w0 many l w) (hb : Below w.heap.size w w') : At0 x y s w0 many l w' :=
  ⟨h.kept.below hb, h.sc.below hb, blk_below h.rd hb⟩
theorem At0.alloc {x y : Nat} {s : ByteArray} {w0 w : World} {many : Nat} {l : List UInt8} (h : At0 x y s w0 many l w) (o : Obj) : At0 x y s w0 many l (w.alloc o) := h.below ((Below.refl _ w).alloc (Nat.le_refl _) o)
theorem At0.yx {x y : Nat} {s : ByteArray} {w0 w : World} {many : Nat} {l : List UInt8} (h : At0 x y s w0 many l w) : w.cell? ⟨y, 0, none⟩ = some (.pointer (some ⟨x, 0, none⟩)) := blk_cell h.rd 0

theorem ScanL.set {x g : Nat} {s : ByteArray} {l : List UInt8} {w : World} (h : ScanL x s l w) (hg : x ≠ g) (j : Nat) (u : Value) : ScanL x s l (w.setCell ⟨g, j, none⟩ u) := by
  obtain ⟨p, h1, h2, h3⟩ := h
  exact ⟨p, h1, blk_far h2 hg u, h3⟩
theorem At0.set {x y g : Nat} {s : ByteArray} {w0 w : World} {many : Nat} {l : List UInt8} (h : At0 x y s w0 many l w) (hg : w0.heap.size ≤ g) (hx : x < w0.heap.size) (hy : y < w0.heap.size) (j : Nat) (u : Value) : At0 x y s w0 many l (w.setCell ⟨g, j, none⟩ u) :=
  ⟨h.kept.set (.inr hg) j u, h.sc.set (by omega) j u, blk_far h.rd (show y ≠ g by omega) u⟩

theorem Kept2.belowAt {x y : Nat} {a b c : World} (h : Kept2 x y a b) {B : Nat} (hB : a.heap.size ≤ B) (k : Below B b c) : Kept2 x y a c :=
  ⟨k.os.trans h.os, k.tape.trans h.tape, k.output.trans h.output, Nat.le_trans h.size k.size, fun i hi h1 h2 => (k.block i (by omega)).trans (h.block i hi h1 h2)⟩
theorem ScanL.move {x : Nat} {s : ByteArray} {l : List UInt8} {w w' : World} (h : ScanL x s l w) (hm : w'.heap[x]? = w.heap[x]?) : ScanL x s l w' := by
  obtain ⟨p, h1, h2, h3⟩ := h
  exact ⟨p, h1, hm.trans h2, h3⟩
theorem At0.belowAt {x y : Nat} {s : ByteArray} {w0 w w' : World} {many : Nat} {l : List UInt8} (h : At0 x y s w0 many l w) {B : Nat} (hB : w0.heap.size ≤ B) (hx : x < w0.heap.size) (hy : y < w0.heap.size) (hb : Below B w w') : At0 x y s w0 many l w' :=
  ⟨h.kept.belowAt hB hb, h.sc.move (hb.block x (by omega)), (hb.block y (by omega)).trans h.rd⟩

theorem info60 : (Tryz.prog.info? 60).map (fun i => (i.zero, i.size, i.bytes)) = some (some (.agg #[.string ⟨#[]⟩, .string ⟨#[]⟩]), 2, 32) := by kernel_rfl
/-- In the loop over the attributes. -/
structure Loop1 (x y : Nat) (s : ByteArray) (w0 : World) (many b3 : Nat) (kc kr : Int) (tg : ByteArray) (l4 : List UInt8) (acc : List At) (va : Value) (l : List UInt8) (w : World) : Prop where
  at0 : At0 x y s w0 many l w
  g3 : w.heap[b3]? = some (.cells #[.int .i64 kc, .int .i64 kr, .string tg, .string ⟨#[]⟩, va, .slice none 0 0] 28 (0, 0))
  g2 : w.heap[w0.heap.size]? = some (.cells #[.int .i64 0, .int .i64 0, .string ⟨#[]⟩, .string ⟨#[]⟩, .slice none 0 0, .slice none 0 0] 28 (0, 0))
  row : R.k60.R 60 w (b3 + 1) (fun k => b3 < k) va acc
  eq : attrsW l4 = (attrsW l).map (fun p => (acc ++ p.1, p.2))
  len : acc.length + l.length ≤ l4.length

/-- How a row and the node's block stand behind a call that turned block x alone. -/
structure Still (x y : Nat) (s : ByteArray) (w0 : World) (many b3 : Nat) (kc kr : Int) (tg : ByteArray) (ok : Nat → Prop) (acc : List At) (va : Value) (l : List UInt8) (w : World) : Prop where
  at0 : At0 x y s w0 many l w
  g3 : w.heap[b3]? = some (.cells #[.int .i64 kc, .int .i64 kr, .string tg, .string ⟨#[]⟩, va, .slice none 0 0] 28 (0, 0))
  g2 : w.heap[w0.heap.size]? = some (.cells #[.int .i64 0, .int .i64 0, .string ⟨#[]⟩, .string ⟨#[]⟩, .slice none 0 0, .slice none 0 0] 28 (0, 0))
  row : R.k60.R 60 w (b3 + 1) ok va acc
theorem Still.grown {x y : Nat} {s : ByteArray} {w0 : World} {many b3 : Nat} {kc kr : Int} {tg : ByteArray} {acc : List At} {va : Value} {l : List UInt8} {ok : Nat → Prop} {l' : List UInt8} {w w' : World} (h : Still x y s w0 many b3 kc kr tg ok acc va l w) (hok : ∀ k, ok k → b3 < k) (hxy : x ≠ y) (hx : x < w0.heap.size) (hb3 : w0.heap.size < b3) (hg : w.grownBy w' (some x)) (hs : ScanL x s l' w') : Still x y s w0 many b3 kc kr tg ok acc va l' w' :=
  ⟨h.at0.grown hxy hg hs, grown_blk hg h.g3 (by omega), grown_blk hg h.g2 (by omega), Kd.R_grown h.row hg (fun k hk e => by injection e; have := hok k hk; omega)⟩
theorem Still.below {x y : Nat} {s : ByteArray} {w0 : World} {many b3 : Nat} {kc kr : Int} {tg : ByteArray} {acc : List At} {va : Value} {l : List UInt8} {ok : Nat → Prop} {w w' : World} (h : Still x y s w0 many b3 kc kr tg ok acc va l w) (hb : Below w.heap.size w w') : Still x y s w0 many b3 kc kr tg ok acc va l w' :=
  ⟨h.at0.below hb, blk_below h.g3 hb, blk_below h.g2 hb, Kd.R_below h.row hb⟩
theorem Still.alloc {x y : Nat} {s : ByteArray} {w0 : World} {many b3 : Nat} {kc kr : Int} {tg : ByteArray} {acc : List At} {va : Value} {l : List UInt8} {ok : Nat → Prop} {w : World} (h : Still x y s w0 many b3 kc kr tg ok acc va l w) (o : Obj) : Still x y s w0 many b3 kc kr tg ok acc va l (w.alloc o) := h.below ((Below.refl _ w).alloc (Nat.le_refl _) o)
theorem Still.old {x y : Nat} {s : ByteArray} {w0 : World} {many b3 : Nat} {kc kr : Int} {tg : ByteArray} {acc : List At} {va : Value} {l : List UInt8} {ok : Nat → Prop} {w : World} (h : Still x y s w0 many b3 kc kr tg ok acc va l w) : Still x y s w0 many b3 kc kr tg (fun k => ok k ∧ k < w.heap.size) acc va l w :=
  ⟨h.at0, h.g3, h.g2, Kd.R_mono (Kd.R_bound h.row) (fun _ hk => ⟨hk.1, hk.2.2.1⟩)⟩
theorem Still.set {x y : Nat} {s : ByteArray} {w0 : World} {many b3 : Nat} {kc kr : Int} {tg : ByteArray} {acc : List At} {va : Value} {l : List UInt8} {ok : Nat → Prop} {w : World} (h : Still x y s w0 many b3 kc kr tg ok acc va l w) {g : Nat} (hok : ∀ k, ok k → k < g) (hx : x < w0.heap.size) (hy : y < w0.heap.size) (hb3 : w0.heap.size < b3) (hg : b3 < g) (j : Nat) (u : Value) : Still x y s w0 many b3 kc kr tg ok acc va l (w.setCell ⟨g, j, none⟩ u) :=
  ⟨h.at0.set (by omega) hx hy j u, blk_far h.g3 (show b3 ≠ g by omega) u, blk_far h.g2 (show w0.heap.size ≠ g by omega) u, Kd.R_far h.row (fun k hk => by have := hok k hk; show k ≠ g; omega) u⟩

/-- In the loop over the kids. -/
structure Loop2 (x y : Nat) (s : ByteArray) (w0 : World) (many b3 : Nat) (kc kr : Int) (tg tx : ByteArray) (acc : List At) (va vk : Value) (ks : List VN) (l : List UInt8) (w : World) : Prop where
  at0 : At0 x y s w0 many l w
  g3 : w.heap[b3]? = some (.cells #[.int .i64 kc, .int .i64 kr, .string tg, .string tx, va, vk] 28 (0, 0))
  g2 : w.heap[w0.heap.size]? = some (.cells #[.int .i64 0, .int .i64 0, .string ⟨#[]⟩, .string ⟨#[]⟩, .slice none 0 0, .slice none 0 0] 28 (0, 0))
  row : R.k60.R 60 w (b3 + 1) (fun k => b3 < k) va acc
  kids : R.k28.R 28 w (b3 + 1) (fun k => b3 < k) vk ks
theorem Loop2.grown {x y : Nat} {s : ByteArray} {w0 : World} {many b3 : Nat} {kc kr : Int} {tg tx : ByteArray} {acc : List At} {va vk : Value} {ks : List VN} {l : List UInt8} {l' : List UInt8} {w w' : World} (h : Loop2 x y s w0 many b3 kc kr tg tx acc va vk ks l w) (hxy : x ≠ y) (hx : x < w0.heap.size) (hb3 : w0.heap.size < b3) (hg : w.grownBy w' (some x)) (hs : ScanL x s l' w') : Loop2 x y s w0 many b3 kc kr tg tx acc va vk ks l' w' :=
  ⟨h.at0.grown hxy hg hs, grown_blk hg h.g3 (by omega), grown_blk hg h.g2 (by omega), Kd.R_grown h.row hg (fun k hk e => by injection e; omega), Kd.R_grown h.kids hg (fun k hk e => by injection e; omega)⟩
theorem Loop2.below {x y : Nat} {s : ByteArray} {w0 : World} {many b3 : Nat} {kc kr : Int} {tg tx : ByteArray} {acc : List At} {va vk : Value} {ks : List VN} {l : List UInt8} {w w' : World} (h : Loop2 x y s w0 many b3 kc kr tg tx acc va vk ks l w) (hb : Below w.heap.size w w') : Loop2 x y s w0 many b3 kc kr tg tx acc va vk ks l w' :=
  ⟨h.at0.below hb, blk_below h.g3 hb, blk_below h.g2 hb, Kd.R_below h.row hb, Kd.R_below h.kids hb⟩
theorem Kept2.ofdrew {x y : Nat} {a b : World} (h : Kept2 x y a.drew b) : Kept2 x y a b := ⟨h.os, h.tape, h.output, h.size, h.block⟩
/-- Behind a call of node. -/
theorem Loop2.call {x y : Nat} {s : ByteArray} {w0 : World} {many b3 : Nat} {kc kr : Int} {tg tx : ByteArray} {acc : List At} {va vk : Value} {ks : List VN} {l : List UInt8} {l' : List UInt8} {m : Nat} {w w' : World} (h : Loop2 x y s w0 many b3 kc kr tg tx acc va vk ks l w) (hx : x < w0.heap.size) (hy : y < w0.heap.size) (hb3 : w0.heap.size < b3) (hk : Kept2 x y w.drew w') (hs : ScanL x s l' w') (hr : ReadAt x y m w') : Loop2 x y s w0 m b3 kc kr tg tx acc va vk ks l' w' :=
  ⟨⟨h.at0.kept.trans hk.ofdrew, hs, hr⟩, hk.ofdrew.blk h.g3 (by omega) (by omega), hk.ofdrew.blk h.g2 (by omega) (by omega), Kd.R_step h.row (fun k hb hlt => hk.block k hlt (by omega) (by omega)), Kd.R_step h.kids (fun k hb hlt => hk.block k hlt (by omega) (by omega))⟩
theorem Loop2.kid {x y : Nat} {s : ByteArray} {w0 : World} {many b3 : Nat} {kc kr : Int} {tg tx : ByteArray} {acc : List At} {va vk : Value} {ks : List VN} {l : List UInt8} {w w' : World} {t : VN} {cs : List Value} (h : Loop2 x y s w0 many b3 kc kr tg tx acc va vk ks l w) (hM : R.k28.M w' w.drew.heap.size (fun _ => True) t cs) : R.k28.M w' (b3 + 1) (fun k => w.heap.size ≤ k) t cs :=
  R.k28.M_lower (show b3 + 1 ≤ w.heap.size from blk_lt h.g3) (R.k28.M_mono (fun _ hk => hk.2.1) (R.k28.M_bound hM))
theorem Loop2.fresh {x y : Nat} {s : ByteArray} {w0 : World} {many b3 : Nat} {kc kr : Int} {tg tx : ByteArray} {acc : List At} {va vk : Value} {ks : List VN} {l : List UInt8} {w : World} (h : Loop2 x y s w0 many b3 kc kr tg tx acc va vk ks l w) {k : Nat} (hk : w.heap.size ≤ k) : b3 < k ∧ some k ≠ vk.ownBlock :=
  ⟨by have := blk_lt h.g3; omega, fun e => by have := Kd.R_lt h.kids k e.symm; omega⟩
/-- A kid appended. -/
theorem Loop2.app {x y : Nat} {s : ByteArray} {w0 : World} {many b3 : Nat} {kc kr : Int} {tg tx : ByteArray} {acc : List At} {va vk : Value} {ks : List VN} {l : List UInt8} {w w4 : World} {v1 : Value} {t : VN} (h : Loop2 x y s w0 many b3 kc kr tg tx acc va vk ks l w) (hx : x < w0.heap.size) (hy : y < w0.heap.size) (hb3 : w0.heap.size < b3) (hrow : R.k28.R 28 w4 (b3 + 1) (fun k => b3 < k) v1 (ks ++ [t])) (hb : Below (b3 + 1) w w4) (hg : w.grownBy w4 vk.ownBlock) :
    Loop2 x y s w0 many b3 kc kr tg tx acc va v1 (ks ++ [t]) l (w4.setCell ⟨b3, 5, none⟩ v1) :=
  ⟨(h.at0.belowAt (B := b3 + 1) (by omega) hx hy hb).set (by omega) hx hy 5 v1, blk_set ((hb.block b3 (by omega)).trans h.g3) 5 v1, blk_far ((hb.block w0.heap.size (by omega)).trans h.g2) (show w0.heap.size ≠ b3 by omega) v1,
    Kd.R_far (Kd.R_over h.row h.kids (by decide) hg) (fun k hk => by show k ≠ b3; omega) v1, Kd.R_far hrow (fun k hk => by show k ≠ b3; omega) v1⟩

/-- A call that may leave by a panic, at a drawn region's step. -/
theorem goesD_ {P : Program} {ops : Array Oper} {Q : Exit → Act → World → Prop} {oi : Oper} {N : Option Tmp} {a : Act} {w : World} {K : Act → World → Prop} {f : FuncId} {fn : Func} {ars : Array Operand} {ts : Array TypeId} (hf : P.funcs[f]? = some fn) (hname : (fn.name == "runtime.NumGoroutine") = false) (hb : fn.body.isSome = true) (args : Array Value)
    (hw : Region.wanted oi (yielded ops a.tmps) = true) (hN : oi.dst = N) (hop : oi.op = .call { callee := .value (.func f), args := ars, argTypes := ts }) (hargs : ars.map a.eval = args)
    (h : Calls P f args w fun e w' => (∃ v, e = .returned v ∧ K (a.put N v) w') ∨ ∃ c, e = .panicked c ∧ Q (.panic c) a w') : if Region.wanted oi (yielded ops a.tmps) = true then Oper.wp P oi a w K Q else K (a.put N undef) w := by
  rw [if_pos hw]
  subst hN
  have he := enters_ hf hname hb args w
  have hrun : (execOp a.eval oi).run P w = .ok (.enter f args) w := by
    unfold execOp
    simp [hop, resolve, Deferred.ofValue, invoke, Act.eval, hargs, he]
  unfold Oper.wp
  rw [hrun, Oper.upon_enter]
  refine h.mono fun e w'' hh => ?_
  rcases hh with ⟨v, rfl, hk⟩ | ⟨c, rfl, hk⟩
  · exact hk
  · exact hk

theorem info28 : (Tryz.prog.info? 28).map (fun i => (i.zero, i.size, i.bytes)) = some (some (.agg #[.int .i64 0, .int .i64 0, .string ⟨#[]⟩, .string ⟨#[]⟩, .slice none 0 0, .slice none 0 0]), 6, 96) := by kernel_rfl

theorem endW_cat (kc kr : Int) (tg tx : ByteArray) (acc : List At) : ((⟨#[60, 47]⟩ : ByteArray) ++ tg ++ ⟨#[62]⟩).data.toList = endW ⟨⟨kc, kr⟩, tg, tx, acc, []⟩ := by
  simp [endW, ByteArray.data_append]

/-- How much of the text is left, as the world tells it. -/
def leftOf (x : Nat) (s : ByteArray) (w : World) : Nat := match w.cell? ⟨x, 1, none⟩ with | some (.int _ p) => s.size - p.toNat | _ => 0
theorem leftOf_eq {x : Nat} {s : ByteArray} {l : List UInt8} {w : World} (h : ScanL x s l w) : leftOf x s w = l.length := by
  obtain ⟨p, h1, h2, rfl⟩ := h
  have h3 : w.cell? ⟨x, 1, none⟩ = some (.int .i64 (p : Int)) := blk_cell h2 1
  rw [leftOf, h3, rest_len]
  simp

set_option maxHeartbeats 4000000 in
set_option maxRecDepth 1000000 in
theorem readNode (x y : Nat) (s : ByteArray) (hs : s.size ≤ 262144) (hxy : x ≠ y) (hx : gTop ≤ x) (hy : gTop ≤ y) : ∀ (f many : Nat) (l : List UInt8) (w : World), 2 * l.length + 2 ≤ f → many ≤ 8192 → ScanL x s l w → ReadAt x y many w → Glob w → gTop ≤ w.heap.size →
    Calls Tryz.prog 16 #[.pointer (some ⟨y, 0, none⟩)] w (NodePost x y s (nodeW f many l) w) := by
  intro f
  induction f using Nat.strongRecOn with
  | _ f ih =>
  intro many l w hf hm hS hR hG hgt
  obtain ⟨f, rfl⟩ : ∃ g, f = g + 1 := ⟨f - 1, by omega⟩
  have c1 : w.cell? ⟨y, 1, none⟩ = some (.int .i64 many) := blk_cell hR 1
  have c0 : w.cell? ⟨y, 0, none⟩ = some (.pointer (some ⟨x, 0, none⟩)) := blk_cell hR 0
  have f1 : w.frozen? ⟨y, 1, none⟩ = false := blk_frozen hR 1
  have hyl : y < w.heap.size := blk_lt hR
  have hll := hS.len
  have hxl : x < w.heap.size := by obtain ⟨p, _, h, _⟩ := hS; exact blk_lt h
  have IH := Lib.hid ih
  clear ih
  have A0 : At0 x y s w (many + 1) l ((w.setCell ⟨y, 1, none⟩ (.int .i64 ((many : Int) + 1))).alloc (.cells #[.int .i64 0, .int .i64 0, .string ⟨#[]⟩, .string ⟨#[]⟩, .slice none 0 0, .slice none 0 0] 28)) :=
    At0.alloc ⟨(Kept2.refl x y w).set (.inl rfl) 1 _, hS.set hxy 1 _, blk_set hR 1 _⟩ _
  have hsz1 : (w.setCell ⟨y, 1, none⟩ (.int .i64 ((many : Int) + 1))).heap.size = w.heap.size := World.size_setCell _ _ _
  have G2 : ((w.setCell ⟨y, 1, none⟩ (.int .i64 ((many : Int) + 1))).alloc (.cells #[.int .i64 0, .int .i64 0, .string ⟨#[]⟩, .string ⟨#[]⟩, .slice none 0 0, .slice none 0 0] 28)).heap[w.heap.size]? = some (.cells #[.int .i64 0, .int .i64 0, .string ⟨#[]⟩, .string ⟨#[]⟩, .slice none 0 0, .slice none 0 0] 28 (0, 0)) := by
    have := blk_new (w.setCell ⟨y, 1, none⟩ (.int .i64 ((many : Int) + 1))) (.cells #[.int .i64 0, .int .i64 0, .string ⟨#[]⟩, .string ⟨#[]⟩, .slice none 0 0, .slice none 0 0] 28 (0, 0))
    rw [hsz1] at this
    exact this
  by_cases hmany : many + 1 ≤ 8192
  · have b0 : ((8192 : Int) < (many : Int) + 1) = False := eq_false (by omega)
    go_enter Tryz.func16, Tryz.ntmps16
    go_wp2_with fail
    clear hsz1 c0 c1 f1 b0
    refine (want_l x s ⟨#[60]⟩ l _ A0.sc (by omega)).mono ?_
    rintro e w1 ⟨hg, ⟨hp, rfl, hS1⟩ | ⟨hp, v, rfl⟩⟩
    case inr =>
      go_wp2
      exact ⟨rfl, NodePost.dies (A0.kept.grown hg) (nodeW_head (headW_no1 hp)) ⟨_, rfl⟩⟩
    obtain ⟨l1, hl1⟩ : ∃ l1, l1 = l.drop 1 := ⟨_, rfl⟩
    have A1 : At0 x y s w (many + 1) l1 w1 := by rw [hl1]; exact A0.grown hxy hg hS1
    have G2 := grown_blk hg G2 (by omega)
    have HP1 := Lib.hid hp
    have HL1 := Lib.hid hl1
    have hlen1 : l1.length + 1 ≤ l.length := by have := pre_cons hp; rw [hl1, List.length_drop]; omega
    have c0 := A1.yx
    clear A0 hg hS1 hp hl1
    go_wp2_with fail
    refine (to_l x s ⟨#[32, 62]⟩ l1 _ A1.sc (by omega) rfl).mono ?_
    rintro e w2 ⟨hg, ⟨i, hp, he, hS2⟩ | ⟨hp, v, rfl⟩⟩
    case inr =>
      go_wp2
      exact ⟨rfl, NodePost.dies (A1.kept.grown hg) (nodeW_head (headW_no2 HP1.out (by rw [← HL1.out]; exact hp))) ⟨_, rfl⟩⟩
    obtain ⟨l2, hl2⟩ : ∃ l2, l2 = l1.drop i := ⟨_, rfl⟩
    obtain ⟨tg, htg⟩ : ∃ tg : ByteArray, tg = ⟨(l1.take i).toArray⟩ := ⟨_, rfl⟩
    rw [← htg] at he
    subst he
    have A2 : At0 x y s w (many + 1) l2 w2 := by rw [hl2]; exact A1.grown hxy hg hS2
    have G2 := grown_blk hg G2 (by omega)
    have hlen2 : l2.length ≤ l1.length := by rw [hl2, List.length_drop]; omega
    have htl : tg.data.toList = l1.take i := by rw [htg]
    have hts : tg.size ≤ 262144 := by rw [← len_list, htl, List.length_take]; have := A1.sc.len; omega
    have HP2 := Lib.hid hp
    have HL2 := Lib.hid hl2
    have HTG := Lib.hid htg
    have HTL := Lib.hid htl
    clear A1 hg hS2 hp c0 hl2 htg htl
    have hN := isName_any tg (by omega)
    go_wp2_with fail
    refine (hN _).mono ?_
    rintro e w3 ⟨rfl, hb⟩
    clear hN
    have A3 := (A2.alloc (.cells #[.int .i64 0, .int .i64 0, .string tg, .string ⟨#[]⟩, .slice none 0 0, .slice none 0 0] 28)).below hb
    obtain ⟨b3, hb3⟩ : ∃ b3, b3 = w2.heap.size := ⟨_, rfl⟩
    have hsz := blk_lt G2
    have G3 : w3.heap[b3]? = some (.cells #[.int .i64 0, .int .i64 0, .string tg, .string ⟨#[]⟩, .slice none 0 0, .slice none 0 0] 28 (0, 0)) := by rw [hb3]; exact blk_below (blk_new w2 _) hb
    have G2 := blk_below (blk_alloc G2 (.cells #[.int .i64 0, .int .i64 0, .string tg, .string ⟨#[]⟩, .slice none 0 0, .slice none 0 0] 28)) hb
    have hb3g : w.heap.size < b3 := by omega
    rw [← hb3]
    clear hb hb3 hsz A2
    have c0 := A3.yx
    by_cases hnm : nameB tg.data.toList = true
    case neg =>
      have hnm : nameB tg.data.toList = false := by simpa using hnm
      go_wp2_with fail
      refine (fail_l x s l2 _ A3.sc).mono ?_
      rintro e w4 ⟨⟨v, rfl⟩, hb⟩
      go_wp2
      exact ⟨rfl, NodePost.dies (A3.kept.below hb) (nodeW_head (headW_no3 HP1.out (by rw [← HL1.out]; exact HP2.out) (by rw [← HL1.out, ← HTL.out]; exact hnm))) ⟨_, rfl⟩⟩
    have HNM := Lib.hid hnm
    go_wp2_with fail
    refine (want_l x s ⟨#[32, 35]⟩ l2 _ A3.sc (by omega)).mono ?_
    rintro e w4 ⟨hg, ⟨hp, rfl, hS1⟩ | ⟨hp, v, rfl⟩⟩
    case inr =>
      go_wp2
      exact ⟨rfl, NodePost.dies (A3.kept.grown hg) (nodeW_head (headW_no4 HP1.out (by rw [← HL1.out]; exact HP2.out) (by rw [← HL1.out, ← HTL.out]; exact HNM.out) (by rw [← HL1.out, ← HL2.out]; exact hp))) ⟨_, rfl⟩⟩
    obtain ⟨l3, hl3⟩ : ∃ l3, l3 = l2.drop 2 := ⟨_, rfl⟩
    have A4 : At0 x y s w (many + 1) l3 w4 := by rw [hl3]; exact A3.grown hxy hg hS1
    have G3 := grown_blk hg G3 (by omega)
    have G2 := grown_blk hg G2 (by omega)
    have hlen3 : l3.length ≤ l2.length := by rw [hl3, List.length_drop]; omega
    have HP3 := Lib.hid hp
    have HL3 := Lib.hid hl3
    have c0 := A4.yx
    clear A3 hg hS1 hp hl3 hnm
    go_wp2_with fail
    refine (to_l x s ⟨#[32, 62]⟩ l3 _ A4.sc (by omega) rfl).mono ?_
    rintro e w5 ⟨hg, ⟨j, hp, he, hS2⟩ | ⟨hp, v, rfl⟩⟩
    case inr =>
      go_wp2
      exact ⟨rfl, NodePost.dies (A4.kept.grown hg) (nodeW_head (headW_no5 HP1.out (by rw [← HL1.out]; exact HP2.out) (by rw [← HL1.out, ← HTL.out]; exact HNM.out) (by rw [← HL1.out, ← HL2.out]; exact HP3.out) (by rw [← HL1.out, ← HL2.out, ← HL3.out]; exact hp))) ⟨_, rfl⟩⟩
    obtain ⟨l4, hl4⟩ : ∃ l4, l4 = l3.drop j := ⟨_, rfl⟩
    obtain ⟨ky, hky⟩ : ∃ ky : ByteArray, ky = ⟨(l3.take j).toArray⟩ := ⟨_, rfl⟩
    rw [← hky] at he
    subst he
    have A5 : At0 x y s w (many + 1) l4 w5 := by rw [hl4]; exact A4.grown hxy hg hS2
    have G3 := grown_blk hg G3 (by omega)
    have G2 := grown_blk hg G2 (by omega)
    have hlen4 : l4.length ≤ l3.length := by rw [hl4, List.length_drop]; omega
    have hkl : ky.data.toList = l3.take j := by rw [hky]
    have hks : ky.size ≤ 262144 := by rw [← len_list, hkl, List.length_take]; have := A4.sc.len; omega
    have HP4 := Lib.hid hp
    have HL4 := Lib.hid hl4
    have HKL := Lib.hid hkl
    clear A4 hg hS2 hp c0 hl4 hky hkl
    have hK := keyParse_any ky (by omega) w5 (A5.kept.glob hG hgt hx hy)
    obtain ⟨kc, kr, ke, hko⟩ : ∃ kc kr ke, keyOf ky.data.toList = (kc, kr, ke) := ⟨_, _, _, rfl⟩
    rw [hko] at hK
    dsimp only at hK
    have HKO := Lib.hid hko
    clear hko
    go_wp2_with fail
    refine hK.mono ?_
    rintro e w6 ⟨rfl, hb⟩
    clear hK
    have A6 := (A5.below hb).alloc (.cells #[.int .i64 kc, .int .i64 kr] 24)
    have G3 := blk_alloc (blk_below G3 hb) (.cells #[.int .i64 kc, .int .i64 kr] 24)
    have G2 := blk_alloc (blk_below G2 hb) (.cells #[.int .i64 kc, .int .i64 kr] 24)
    clear A5 hb
    have c0 := A6.yx
    by_cases hke : ke = 0
    case neg =>
      have d0 : (ke == 0) = false := by simpa using hke
      go_wp2_with fail
      refine (fail_l x s l4 _ A6.sc).mono ?_
      rintro e w7 ⟨⟨v, rfl⟩, hb⟩
      go_wp2
      exact ⟨rfl, NodePost.dies (A6.kept.below hb) (nodeW_head (headW_no6 HP1.out (by rw [← HL1.out]; exact HP2.out) (by rw [← HL1.out, ← HTL.out]; exact HNM.out) (by rw [← HL1.out, ← HL2.out]; exact HP3.out) (by rw [← HL1.out, ← HL2.out, ← HL3.out]; exact HP4.out) (by rw [← HL1.out, ← HL2.out, ← HL3.out, ← HKL.out, HKO.out]; exact hke))) ⟨_, rfl⟩⟩
    subst hke
    have HK := headW_key HP1.out (by rw [← HL1.out]; exact HP2.out) (by rw [← HL1.out, ← HTL.out]; exact HNM.out) (by rw [← HL1.out, ← HL2.out]; exact HP3.out) (by rw [← HL1.out, ← HL2.out, ← HL3.out]; exact HP4.out) (by rw [← HL1.out, ← HL2.out, ← HL3.out, ← HKL.out, HKO.out])
    rw [← HL1.out, ← HL2.out, ← HL3.out, ← HKL.out, HKO.out, ← HL4.out, ← HTG.out] at HK
    have HKY := Lib.hid HK
    clear HK HP1 HP2 HP3 HP4 HL1 HL2 HL3 HL4 HKL HKO HTG HTL HNM
    have c30 : _ = some (Value.int .i64 0) := blk_cell G3 0
    have c31 : _ = some (Value.int .i64 0) := blk_cell G3 1
    have f30 := blk_frozen G3 0
    have f31 := blk_frozen G3 1
    have A7 := (A6.set (g := b3) (by omega) hxl hyl 0 (.int .i64 kc)).set (g := b3) (by omega) hxl hyl 1 (.int .i64 kr)
    have G3' := blk_set (blk_set G3 0 (.int .i64 kc)) 1 (.int .i64 kr)
    have G2' := blk_far (blk_far G2 (p := ⟨b3, 0, none⟩) (show w.heap.size ≠ b3 by omega) (.int .i64 kc)) (p := ⟨b3, 1, none⟩) (show w.heap.size ≠ b3 by omega) (.int .i64 kr)
    have hA7 : Still x y s w (many + 1) b3 kc kr tg (fun k => b3 < k) [] (.slice none 0 0) l4 _ := ⟨A7, G3', G2', Kd.R_nil _ _ _ _ _⟩
    clear A6 A7 G3' G2'
    go_wp2
    go_loopw [] (fun wr => ∃ acc va l5, Loop1 x y s w (many + 1) b3 kc kr tg l4 acc va l5 wr) (fun wr => leftOf x s wr)
    case atStart => exact ⟨[], _, l4, hA7.at0, hA7.g3, hA7.g2, hA7.row, map_start _, by simp⟩
    case round =>
      obtain ⟨acc, va, l5, hL⟩ := hrel
      clear hA7 G3 G2 c0 c30 c31 f30 f31
      have c0 := hL.at0.yx
      have hT : Still x y s w (many + 1) b3 kc kr tg (fun k => b3 < k) acc va l5 wr := ⟨hL.at0, hL.g3, hL.g2, hL.row⟩
      have HLE := Lib.hid hL.eq
      have hlen := hL.len
      clear hL
      have hlx : leftOf x s wr = l5.length := leftOf_eq hT.at0.sc
      have hls := hT.at0.sc.len
      cases hp : [32].isPrefixOf l5 with
      | true =>
        have hN := next_is x s ⟨#[32]⟩ l5 true wr hT.at0.sc hp
        have HP1 := Lib.hid hp
        have hlen1 := pre_cons hp
        clear hp
        go_wp2_with fail
        refine hN.mono ?_
        rintro e w1 ⟨rfl, hb⟩
        have hT1 := hT.below hb
        have c0 := hT1.at0.yx
        clear hN hT hb
        go_wp2_with fail
        refine (want_l x s ⟨#[32]⟩ l5 _ hT1.at0.sc (by omega)).mono ?_
        rintro e w2 ⟨hg, ⟨hp, rfl, hS1⟩ | ⟨hp, v, rfl⟩⟩
        case inr => exact absurd (hp.symm.trans HP1.out) (by decide)
        obtain ⟨l6, hl6⟩ : ∃ l6, l6 = l5.drop 1 := ⟨_, rfl⟩
        have hT2 : Still x y s w (many + 1) b3 kc kr tg (fun k => b3 < k) acc va l6 w2 := by rw [hl6]; exact hT1.grown (fun _ h => h) hxy hxl hb3g hg hS1
        have c0 := hT2.at0.yx
        have hlen6 : l6.length + 1 ≤ l5.length := by rw [hl6, List.length_drop]; omega
        have HL6 := Lib.hid hl6
        clear hT1 hp hg hS1 hl6
        go_wp2_with fail
        refine (to_l x s ⟨#[61]⟩ l6 _ hT2.at0.sc (by omega) rfl).mono ?_
        rintro e w3 ⟨hg, ⟨i, hp, he, hS1⟩ | ⟨hp, v, rfl⟩⟩
        case inr =>
          go_wp2
          exact ⟨rfl, NodePost.dies (hT2.at0.kept.grown hg) (nodeW_head (HKY.out.trans (by rw [HLE.out, attrsW_no1 HP1.out (by rw [← HL6.out]; exact hp)]; rfl))) ⟨_, rfl⟩⟩
        obtain ⟨l7, hl7⟩ : ∃ l7, l7 = l6.drop i := ⟨_, rfl⟩
        obtain ⟨nm, hnm⟩ : ∃ nm : ByteArray, nm = ⟨(l6.take i).toArray⟩ := ⟨_, rfl⟩
        rw [← hnm] at he
        subst he
        have hT3 := (show Still x y s w (many + 1) b3 kc kr tg (fun k => b3 < k) acc va l7 w3 by rw [hl7]; exact hT2.grown (fun _ h => h) hxy hxl hb3g hg hS1)
        have hlen7 : l7.length ≤ l6.length := by rw [hl7, List.length_drop]; omega
        have hnms : nm.size ≤ 262144 := by
          have h1 : nm.data.toList = l6.take i := by rw [hnm]
          rw [← len_list, h1, List.length_take]
          have := hT2.at0.sc.len
          omega
        obtain ⟨b6, hb6⟩ : ∃ b6, b6 = w3.heap.size := ⟨_, rfl⟩
        have hb36 : b3 < b6 := by rw [hb6]; exact blk_lt hT3.g3
        have hT3 := hT3.old.alloc (.cells #[.string nm, .string ⟨#[]⟩] 60)
        rw [← hb6] at hT3
        have G6 : (w3.alloc (.cells #[.string nm, .string ⟨#[]⟩] 60)).heap[b6]? = some (.cells #[.string nm, .string ⟨#[]⟩] 60 (0, 0)) := by rw [hb6]; exact blk_new w3 _
        have c0 := hT3.at0.yx
        have HNM := Lib.hid hnm
        have HP2 := Lib.hid hp
        have HL7 := Lib.hid hl7
        clear hT2 hp hg hS1 hl7 hnm
        go_wp2_with fail
        refine (want_l x s ⟨#[61, 34]⟩ l7 _ hT3.at0.sc (by omega)).mono ?_
        rintro e w4 ⟨hg, ⟨hp, rfl, hS1⟩ | ⟨hp, v, rfl⟩⟩
        case inr =>
          go_wp2
          exact ⟨rfl, NodePost.dies (hT3.at0.kept.grown hg) (nodeW_head (HKY.out.trans (by rw [HLE.out, attrsW_no2 HP1.out (by rw [← HL6.out]; exact HP2.out) (by rw [← HL6.out, ← HL7.out]; exact hp)]; rfl))) ⟨_, rfl⟩⟩
        rw [← hb6]
        clear hb6
        obtain ⟨l8, hl8⟩ : ∃ l8, l8 = l7.drop 2 := ⟨_, rfl⟩
        have hT4 : Still x y s w (many + 1) b3 kc kr tg (fun k => b3 < k ∧ k < b6) acc va l8 w4 := by rw [hl8]; exact hT3.grown (fun _ h => h.1) hxy hxl hb3g hg hS1
        have hlen8 : l8.length ≤ l7.length := by rw [hl8, List.length_drop]; omega
        have G6 := grown_blk hg G6 (by omega)
        have c0 := hT4.at0.yx
        have HP3 := Lib.hid hp
        have HL8 := Lib.hid hl8
        clear hT3 hp hg hS1 hl8
        go_wp2_with fail
        refine (plain_l x s ⟨#[34]⟩ l8 _ (fun w' hg => (hT4.at0.kept.grown hg).glob hG hgt hx hy) hT4.at0.sc (by omega) rfl).mono ?_
        rintro e w5 ⟨hg, ⟨n, o, hp, ho, he, hS1⟩ | ⟨hp, v, rfl⟩⟩
        case inr =>
          go_wp2
          exact ⟨rfl, NodePost.dies (hT4.at0.kept.grown hg) (nodeW_head (HKY.out.trans (by rw [HLE.out, attrsW_no3 HP1.out (by rw [← HL6.out]; exact HP2.out) (by rw [← HL6.out, ← HL7.out]; exact HP3.out) (by rw [← HL6.out, ← HL7.out, ← HL8.out]; exact hp)]; rfl))) ⟨_, rfl⟩⟩
        obtain ⟨l9, hl9⟩ : ∃ l9, l9 = l8.drop n := ⟨_, rfl⟩
        obtain ⟨vl, hvl⟩ : ∃ vl : ByteArray, vl = ⟨o.toArray⟩ := ⟨_, rfl⟩
        rw [← hvl] at he
        subst he
        have hT5 : Still x y s w (many + 1) b3 kc kr tg (fun k => b3 < k ∧ k < b6) acc va l9 w5 := by rw [hl9]; exact hT4.grown (fun _ h => h.1) hxy hxl hb3g hg hS1
        have hlen9 : l9.length ≤ l8.length := by rw [hl9, List.length_drop]; omega
        have G6 := grown_blk hg G6 (by omega)
        have c61 : w5.cell? ⟨b6, 1, none⟩ = some (.string ⟨#[]⟩) := blk_cell G6 1
        have f61 := blk_frozen G6 1
        have G6' := blk_set G6 1 (.string vl)
        have hT5' := hT5.set (fun k h => h.2) hxl hyl hb3g hb36 1 (.string vl)
        have c0 := hT5'.at0.yx
        have HP4 := Lib.hid hp
        have HPO := Lib.hid ho
        have HL9 := Lib.hid hl9
        have HVL := Lib.hid hvl
        clear hT4 hp hg hS1 hl9 hvl ho hT5 G6
        go_wp2_with fail
        refine (want_l x s ⟨#[34]⟩ l9 _ hT5'.at0.sc (by omega)).mono ?_
        rintro e w6 ⟨hg, ⟨hp, rfl, hS1⟩ | ⟨hp, v, rfl⟩⟩
        case inr =>
          go_wp2
          exact ⟨rfl, NodePost.dies (hT5'.at0.kept.grown hg) (nodeW_head (HKY.out.trans (by rw [HLE.out, attrsW_no4 HP1.out (by rw [← HL6.out]; exact HP2.out) (by rw [← HL6.out, ← HL7.out]; exact HP3.out) (by rw [← HL6.out, ← HL7.out, ← HL8.out]; exact HP4.out) (by rw [← HL6.out, ← HL7.out, ← HL8.out]; exact HPO.out) (by rw [← HL6.out, ← HL7.out, ← HL8.out, ← HL9.out]; exact hp)]; rfl))) ⟨_, rfl⟩⟩
        obtain ⟨l10, hl10⟩ : ∃ l10, l10 = l9.drop 1 := ⟨_, rfl⟩
        have hT6 : Still x y s w (many + 1) b3 kc kr tg (fun k => b3 < k ∧ k < b6) acc va l10 w6 := by rw [hl10]; exact hT5'.grown (fun _ h => h.1) hxy hxl hb3g hg hS1
        have hlen10 : l10.length ≤ l9.length := by rw [hl10, List.length_drop]; omega
        have G6 := grown_blk hg G6' (by omega)
        have c60 : w6.cell? ⟨b6, 0, none⟩ = some (.string nm) := blk_cell G6 0
        have c61 : w6.cell? ⟨b6, 1, none⟩ = some (.string vl) := blk_cell G6 1
        have c34 : w6.cell? ⟨b3, 4, none⟩ = some va := blk_cell hT6.g3 4
        have hGo := attrsW_go HP1.out (by rw [← HL6.out]; exact HP2.out) (by rw [← HL6.out, ← HL7.out]; exact HP3.out) (by rw [← HL6.out, ← HL7.out, ← HL8.out]; exact HP4.out) (by rw [← HL6.out, ← HL7.out, ← HL8.out]; exact HPO.out) (by rw [← HL6.out, ← HL7.out, ← HL8.out, ← HL9.out]; exact hp) acc
        rw [← HL6.out, ← HL7.out, ← HL8.out, ← HL9.out, ← hl10, ← HVL.out, ← HNM.out] at hGo
        have HGO := Lib.hid (HLE.out.trans hGo)
        have hw6 := blk_lt hT6.g3
        have hal : (acc.length + 1) * 32 ≤ 140737488355328 := by omega
        have hrow6 := Kd.R_mono hT6.row (ok' := fun k => b3 < k) (fun _ h => h.1)
        clear hT5' hp hg hS1 hl10 G6' hGo HLE HL6 HL7 HL8 HL9 HP1 HP2 HP3 HP4 HPO HVL HNM f61 c0
        go_wp2_with (at_builtin; refine Kd.R_append R.k60 (w0 := w6) (b3 + 1) rfl (.tmp 100) (.tmp 102) 25 60 (.agg #[.string ⟨#[]⟩, .string ⟨#[]⟩]) 32 rfl Tryz.underlying25 info60 rfl (by decide) (by omega) va acc ⟨nm, vl⟩ [.string nm, .string vl] (fun k => b3 < k) (fun _ => False) rfl rfl (R.k60_mkM _ _ _ _) (fun _ hk => hk.elim) (fun k hk => by omega) hrow6 (Below.refl _ _) (by omega) hal ?_)
        intro v1 w7 hrow hbel hgrow _
        obtain ⟨sA, sC, hv1⟩ := Kd.R_slice hrow
        rw [List.length_append, List.length_singleton] at hv1
        have A7 := hT6.at0.belowAt (B := b3 + 1) (by omega) hxl hyl hbel
        have G37 := (hbel.block b3 (by omega)).trans hT6.g3
        have G27 := (hbel.block w.heap.size (by omega)).trans hT6.g2
        have c34 : w7.cell? ⟨b3, 4, none⟩ = some va := blk_cell G37 4
        have f34 := blk_frozen G37 4
        have A8 := A7.set (g := b3) (by omega) hxl hyl 4 v1
        have HR := Lib.hid (Kd.R_far (p := ⟨b3, 4, none⟩) hrow (fun k hk => by show k ≠ b3; omega) v1)
        have HX := Lib.hid hlx
        clear hT6 A7 G6 c60 c61 hrow hrow6 hgrow hlx
        subst hv1
        go_wp2
        go_roundw
        case rel => exact ⟨acc ++ [⟨nm, vl⟩], _, l10, A8, blk_set G37 4 _, blk_far G27 (show w.heap.size ≠ b3 by omega) _, HR.out, HGO.out, by simp; omega⟩
        case measure =>
          rw [HX.out, leftOf_eq A8.sc]
          omega
      | false =>
        have hN := next_is x s ⟨#[32]⟩ l5 false wr hT.at0.sc hp
        have hAt := HLE.out
        rw [attrsW_end hp] at hAt
        have hHd := HKY.out
        rw [hAt] at hHd
        simp only [Option.map_some, Option.bind_some, List.append_nil] at hHd
        have HHD := Lib.hid hHd
        clear hAt hHd HKY HLE hp hlx
        go_wp2_with fail
        refine hN.mono ?_
        rintro e w1 ⟨rfl, hb⟩
        have hT1 := hT.below hb
        have c0 := hT1.at0.yx
        clear hN hT hb
        go_wp2_with fail
        refine (want_l x s ⟨#[62]⟩ l5 _ hT1.at0.sc (by omega)).mono ?_
        rintro e w2 ⟨hg, ⟨hp, rfl, hS1⟩ | ⟨hp, v, rfl⟩⟩
        case inr =>
          go_wp2
          exact ⟨rfl, NodePost.dies (hT1.at0.kept.grown hg) (nodeW_head (HHD.out.trans (if_neg (by rw [show [62].isPrefixOf l5 = false from hp]; decide)))) ⟨_, rfl⟩⟩
        obtain ⟨l6, hl6⟩ : ∃ l6, l6 = l5.drop 1 := ⟨_, rfl⟩
        have hT2 : Still x y s w (many + 1) b3 kc kr tg (fun k => b3 < k) acc va l6 w2 := by rw [hl6]; exact hT1.grown (fun _ h => h) hxy hxl hb3g hg hS1
        have c0 := hT2.at0.yx
        have hlen6 : l6.length ≤ l5.length := by rw [hl6, List.length_drop]; omega
        have hHd := HHD.out.trans (if_pos hp)
        rw [← hl6] at hHd
        have HHD := Lib.hid hHd
        clear hT1 hp hg hS1 hl6 hHd
        go_wp2_with fail
        refine (plain_l x s ⟨#[60]⟩ l6 _ (fun w' hg => (hT2.at0.kept.grown hg).glob hG hgt hx hy) hT2.at0.sc (by omega) rfl).mono ?_
        rintro e w3 ⟨hg, ⟨n, o, hp, ho, he, hS1⟩ | ⟨hp, v, rfl⟩⟩
        case inr =>
          go_wp2
          refine ⟨rfl, NodePost.dies (hT2.at0.kept.grown hg) (nodeW_head (HHD.out.trans ?_)) ⟨_, rfl⟩⟩
          rcases hp with hp | ⟨n, hp, ho⟩
          · rw [show anyIdx l6 [60] = none from hp]; rfl
          · rw [show anyIdx l6 [60] = some n from hp, Option.bind_some, ho]; rfl
        obtain ⟨l7, hl7⟩ : ∃ l7, l7 = l6.drop n := ⟨_, rfl⟩
        obtain ⟨tx, htx⟩ : ∃ tx : ByteArray, tx = ⟨o.toArray⟩ := ⟨_, rfl⟩
        rw [← htx] at he
        subst he
        have hT3 : Still x y s w (many + 1) b3 kc kr tg (fun k => b3 < k) acc va l7 w3 := by rw [hl7]; exact hT2.grown (fun _ h => h) hxy hxl hb3g hg hS1
        have hHd := HHD.out
        rw [show anyIdx l6 [60] = some n from hp, Option.bind_some, ho, Option.bind_some, ← hl7, ← htx] at hHd
        have hRlen := headW_len hHd
        have HNO := Lib.hid (nodeW_kids (f := f) hmany hHd)
        have c33 : w3.cell? ⟨b3, 3, none⟩ = some (.string ⟨#[]⟩) := blk_cell hT3.g3 3
        have f33 := blk_frozen hT3.g3 3
        have hb3w := blk_lt hT3.g3
        have hU : Loop2 x y s w (many + 1) b3 kc kr tg tx acc va (.slice none 0 0) [] l7 (w3.setCell ⟨b3, 3, none⟩ (.string tx)) :=
          ⟨hT3.at0.set (by omega) hxl hyl 3 _, blk_set hT3.g3 3 _, blk_far hT3.g2 (show w.heap.size ≠ b3 by omega) _, Kd.R_far hT3.row (fun k hk => by show k ≠ b3; omega) _, Kd.R_nil _ _ _ _ _⟩
        clear hT2 hT3 hp ho hg hS1 hl7 htx hHd HHD
        go_wp2
        go_loopw [] (fun wr => ∃ f2 m ks vk lr, Loop2 x y s w m b3 kc kr tg tx acc va vk ks lr wr ∧ 2 * lr.length + 3 ≤ f2 ∧ f2 ≤ f ∧ m ≤ 8192 ∧ lr.length + ks.length ≤ l7.length ∧ kidsW f (many + 1) l7 = (kidsW f2 m lr).map (fun q => (ks ++ q.1, q.2))) (fun wr => leftOf x s wr)
        case atStart => exact ⟨f, many + 1, [], _, l7, hU, by omega, Nat.le_refl _, by omega, by simp, map_start _⟩
        case round =>
          obtain ⟨f2, m, ks, vk, lr, hU, hf2, hff, hm8, hlk, hke⟩ := hrel
          obtain ⟨f2, rfl⟩ : ∃ g, f2 = g + 1 := ⟨f2 - 1, by omega⟩
          clear c33 f33 c0
          have c0 := hU.at0.yx
          have HKE := Lib.hid hke
          have HLX := Lib.hid (leftOf_eq hU.at0.sc)
          clear hke
          cases hp : [60, 47].isPrefixOf lr with
          | true =>
            have hN := next_is x s ⟨#[60, 47]⟩ lr true wr hU.at0.sc hp
            have hNo := HNO.out
            rw [HKE.out, kidsW_end hp, Option.map_some, Option.bind_some, List.append_nil] at hNo
            have HN := Lib.hid hNo
            clear hNo HNO HKE hp
            go_wp2_with fail
            refine hN.mono ?_
            rintro e wq ⟨rfl, hb⟩
            have hU := hU.below hb
            have c0 : wq.drew.cell? ⟨y, 0, none⟩ = some (.pointer (some ⟨x, 0, none⟩)) := hU.at0.yx
            have c32 : wq.drew.cell? ⟨b3, 2, none⟩ = some (.string tg) := blk_cell hU.g3 2
            have hS0 : ScanL x s lr wq.drew := hU.at0.sc.move rfl
            have hz1 : (9223372036854775807 < 2 + tg.size) = False := eq_false (by omega)
            have hz2 : (9223372036854775807 < 2 + tg.size + 1) = False := eq_false (by omega)
            clear hN hb
            go_wp2
            refine start_ (n := 9) (S := fun w' => w'.cell? ⟨y, 0, none⟩ = some (.pointer (some ⟨x, 0, none⟩)) ∧ w'.cell? ⟨b3, 2, none⟩ = some (.string tg)) (ds := []) #[false, false, false, false, false, false, false, false, false] (by kernel_rfl) rfl rfl ⟨c0, c32⟩ (fun hHeld => ?_)
            refine pure_ (i := 0) (N := some 129) (v := ?_) (a' := ?_) #[true, false, false, false, false, false, false, false, false] rfl rfl (by kernel_rfl) (fun _ _ _ h => h) (Or.inl ⟨by rfl, ?_⟩) ?_ ?_
            rotate_left
            · intro w'
              go_simp
              with_reducible rfl
            rotate_left
            · simp only [Act.put, List.setIfInBounds_toArray, List.set_cons_zero, List.set_cons_succ, i64_w, i32_w]
              rfl
            refine pure_ (i := 1) (N := some 130) (v := ?_) (a' := ?_) #[true, true, false, false, false, false, false, false, false] rfl rfl (by kernel_rfl) (fun _ _ _ h => h) (Or.inl ⟨by rfl, ?_⟩) ?_ ?_
            rotate_left
            · intro w'
              go_simp
              with_reducible rfl
            rotate_left
            · simp only [Act.put, List.setIfInBounds_toArray, List.set_cons_zero, List.set_cons_succ, i64_w, i32_w]
              rfl
            refine pure_ (i := 2) (N := some 131) (v := ?_) (a' := ?_) #[true, true, true, false, false, false, false, false, false] rfl rfl (by kernel_rfl) (fun _ _ _ h => h) (Or.inl ⟨by rfl, ?_⟩) ?_ ?_
            rotate_left
            · intro w'
              go_simp
              with_reducible rfl
            rotate_left
            · simp only [Act.put, List.setIfInBounds_toArray, List.set_cons_zero, List.set_cons_succ, i64_w, i32_w]
              rfl
            refine pure_ (i := 4) (N := some 133) (v := ?_) (a' := ?_) #[true, true, true, false, true, false, false, false, false] rfl rfl (by kernel_rfl) (fun _ _ _ h => h) (Or.inl ⟨by rfl, ?_⟩) ?_ ?_
            rotate_left
            · intro w'
              go_simp
              with_reducible rfl
            rotate_left
            · simp only [Act.put, List.setIfInBounds_toArray, List.set_cons_zero, List.set_cons_succ, i64_w, i32_w]
              rfl
            refine take_ (i := 3) (N := some 132) (v := ?_) (a' := ?_) #[true, true, true, true, true, false, false, false, false] rfl rfl (by kernel_rfl) (fun _ _ _ h => h) (Or.inl ⟨by rfl, ?_⟩) hHeld ?_ ?_
            rotate_left
            · rintro w' ⟨s0, s1⟩
              go_simp
              with_reducible rfl
            rotate_left
            · simp only [Act.put, List.setIfInBounds_toArray, List.set_cons_zero, List.set_cons_succ, i64_w, i32_w]
              rfl
            refine take_ (i := 5) (N := some 134) (v := ?_) (a' := ?_) #[true, true, true, true, true, true, false, false, false] rfl rfl (by kernel_rfl) (fun _ _ _ h => h) (Or.inl ⟨by rfl, ?_⟩) hHeld ?_ ?_
            rotate_left
            · rintro w' ⟨s0, s1⟩
              go_simp
              with_reducible rfl
            rotate_left
            · simp only [Act.put, List.setIfInBounds_toArray, List.set_cons_zero, List.set_cons_succ, i64_w, i32_w]
              rfl
            refine pure_ (i := 6) (N := some 135) (v := ?_) (a' := ?_) #[true, true, true, true, true, true, true, false, false] rfl rfl (by kernel_rfl) (fun _ _ _ h => h) (Or.inl ⟨by rfl, ?_⟩) ?_ ?_
            rotate_left
            · intro w'
              go_simp
              with_reducible rfl
            rotate_left
            · simp only [Act.put, List.setIfInBounds_toArray, List.set_cons_zero, List.set_cons_succ, i64_w, i32_w]
              rfl
            refine pure_ (i := 7) (N := some 136) (v := ?_) (a' := ?_) #[true, true, true, true, true, true, true, true, false] rfl rfl (by kernel_rfl) (fun _ _ _ h => h) (Or.inl ⟨by rfl, ?_⟩) ?_ ?_
            rotate_left
            · intro w'
              go_simp
              with_reducible rfl
            rotate_left
            · simp only [Act.put, List.setIfInBounds_toArray, List.set_cons_zero, List.set_cons_succ, i64_w, i32_w]
              rfl
            refine one_ (i := 8) (N := some 137) #[true, true, true, true, true, true, true, true, true] rfl rfl (by kernel_rfl) (by decide) (fun K hK => ?_)
            refine goesD_ Tryz.func32 (by kernel_rfl) rfl #[.pointer (some ⟨x, 0, none⟩), .string (⟨#[60, 47]⟩ ++ tg ++ ⟨#[62]⟩)] (by rfl) rfl rfl (by simp only [List.map_toArray, List.map_cons, List.map_nil]; rfl) ?_
            with_reducible refine ((want_l x s (⟨#[60, 47]⟩ ++ tg ++ ⟨#[62]⟩) lr wq.drew hS0 (by omega))).mono ?_
            rintro e w3 ⟨hg, hp⟩
            rcases hp with ⟨hp, rfl, hS3⟩ | ⟨hp, v, rfl⟩
            case inr => exact .inr ⟨_, rfl, rfl, NodePost.dies (hU.at0.kept.trans (Kept2.ofdrew ((Kept2.refl x y wq.drew).grown hg))) (HN.out.trans (if_neg (by rw [← endW_cat kc kr tg tx acc, hp]; decide))) ⟨_, rfl⟩⟩
            have hU3 := hU.grown hxy hxl hb3g (show wq.grownBy w3 (some x) from ⟨hg.os, hg.tape, hg.output, hg.size, hg.block⟩) hS3
            refine .inl ⟨_, rfl, ?_⟩
            refine hK.out _ _ ⟨hU3.at0.yx, (blk_cell hU3.g3 2)⟩ (fun hHeld => ?_)
            clear hK K
            refine norm_ (a' := ?_) ?_ ?_
            rotate_left
            · show Act.put _ (some 137) _ = _
              simp only [Act.put, List.setIfInBounds_toArray, List.set_cons_zero, List.set_cons_succ, i64_w, i32_w]
              rfl
            refine done_ (by kernel_rfl) ?_
            obtain ⟨lz, hlz⟩ : ∃ lz, lz = List.drop (endW ⟨⟨kc, kr⟩, tg, tx, acc, []⟩).length lr := ⟨_, rfl⟩
            have hU3 : Loop2 x y s w m b3 kc kr tg tx acc va vk ks lz w3 := by rw [hlz, ← endW_cat kc kr tg tx acc]; exact hU3
            have hNo := HN.out.trans (if_pos (by rw [← endW_cat kc kr tg tx acc]; exact hp))
            rw [← hlz] at hNo
            have HN := Lib.hid hNo
            obtain ⟨A1, C1, hv1⟩ := Kd.R_slice hU3.row
            obtain ⟨A2, C2, hv2⟩ := Kd.R_slice hU3.kids
            subst hv1
            subst hv2
            have d0 : w3.cell? ⟨b3, 0, none⟩ = some (.int .i64 kc) := blk_cell hU3.g3 0
            have d1 : w3.cell? ⟨b3, 1, none⟩ = some (.int .i64 kr) := blk_cell hU3.g3 1
            have d2 : w3.cell? ⟨b3, 2, none⟩ = some (.string tg) := blk_cell hU3.g3 2
            have d3 : w3.cell? ⟨b3, 3, none⟩ = some (.string tx) := blk_cell hU3.g3 3
            have d4 : w3.cell? ⟨b3, 4, none⟩ = some (.slice A1 acc.length C1) := blk_cell hU3.g3 4
            have d5 : w3.cell? ⟨b3, 5, none⟩ = some (.slice A2 ks.length C2) := blk_cell hU3.g3 5
            have e0 : w3.cell? ⟨w.heap.size, 0, none⟩ = some (.int .i64 0) := blk_cell hU3.g2 0
            have e1 : w3.cell? ⟨w.heap.size, 1, none⟩ = some (.int .i64 0) := blk_cell hU3.g2 1
            have e2 : w3.cell? ⟨w.heap.size, 2, none⟩ = some (.string ⟨#[]⟩) := blk_cell hU3.g2 2
            have e3 : w3.cell? ⟨w.heap.size, 3, none⟩ = some (.string ⟨#[]⟩) := blk_cell hU3.g2 3
            have e4 : w3.cell? ⟨w.heap.size, 4, none⟩ = some (.slice none 0 0) := blk_cell hU3.g2 4
            have e5 : w3.cell? ⟨w.heap.size, 5, none⟩ = some (.slice none 0 0) := blk_cell hU3.g2 5
            have g0 := blk_frozen hU3.g2 0
            have g1 := blk_frozen hU3.g2 1
            have g2 := blk_frozen hU3.g2 2
            have g3 := blk_frozen hU3.g2 3
            have g4 := blk_frozen hU3.g2 4
            have g5 := blk_frozen hU3.g2 5
            clear hU hNo hp hlz
            go_wp2
            have hA := ((((((hU3.at0.set (Nat.le_refl _) hxl hyl 0 (.int .i64 kc)).set (Nat.le_refl _) hxl hyl 1 (.int .i64 kr)).set (Nat.le_refl _) hxl hyl 2 (.string tg)).set (Nat.le_refl _) hxl hyl 3 (.string tx)).set (Nat.le_refl _) hxl hyl 4 (.slice A1 acc.length C1)).set (Nat.le_refl _) hxl hyl 5 (.slice A2 ks.length C2))
            have hg6 := blk_set (blk_set (blk_set (blk_set (blk_set (blk_set hU3.g2 0 (.int .i64 kc)) 1 (.int .i64 kr)) 2 (.string tg)) 3 (.string tx)) 4 (.slice A1 acc.length C1)) 5 (.slice A2 ks.length C2)
            have far : ∀ k, b3 < k → k ≠ w.heap.size := fun k hk => by omega
            have hr1 := Kd.R_mono (Kd.R_lower (Kd.R_far (p := ⟨w.heap.size, 5, none⟩) (Kd.R_far (p := ⟨w.heap.size, 4, none⟩) (Kd.R_far (p := ⟨w.heap.size, 3, none⟩) (Kd.R_far (p := ⟨w.heap.size, 2, none⟩) (Kd.R_far (p := ⟨w.heap.size, 1, none⟩) (Kd.R_far (p := ⟨w.heap.size, 0, none⟩) hU3.row far (.int .i64 kc)) far (.int .i64 kr)) far (.string tg)) far (.string tx)) far (.slice A1 acc.length C1)) far (.slice A2 ks.length C2)) (base' := w.heap.size) (by omega)) (ok' := fun _ => True) (fun _ _ => trivial)
            have hr2 := Kd.R_mono (Kd.R_lower (Kd.R_far (p := ⟨w.heap.size, 5, none⟩) (Kd.R_far (p := ⟨w.heap.size, 4, none⟩) (Kd.R_far (p := ⟨w.heap.size, 3, none⟩) (Kd.R_far (p := ⟨w.heap.size, 2, none⟩) (Kd.R_far (p := ⟨w.heap.size, 1, none⟩) (Kd.R_far (p := ⟨w.heap.size, 0, none⟩) hU3.kids far (.int .i64 kc)) far (.int .i64 kr)) far (.string tg)) far (.string tx)) far (.slice A1 acc.length C1)) far (.slice A2 ks.length C2)) (base' := w.heap.size) (by omega)) (ok' := fun _ => True) (fun _ _ => trivial)
            exact bodyPost_ret (results_single rfl (.cell w.heap.size 28 #[.int .i64 kc, .int .i64 kr, .string tg, .string tx, .slice A1 acc.length C1, .slice A2 ks.length C2] (0, 0) _ rfl hg6 Tryz.underlying28 rfl (by kernel_rfl) .nil)) rfl ⟨hA.kept, .inl ⟨_, lz, m, _, HN.out, rfl, R.k28_mkM _ _ _ ⟨⟨kc, kr⟩, tg, tx, acc, ks⟩ hr1 hr2, hA.sc, hA.rd⟩⟩
          | false =>
            have hN := next_is x s ⟨#[60, 47]⟩ lr false wr hU.at0.sc hp
            go_wp2_with fail
            refine hN.mono ?_
            rintro e wq ⟨rfl, hb⟩
            have hU := hU.below hb
            have hNone : nodeW f2 m lr = none → nodeW (f + 1) many l = none := fun h => by rw [HNO.out, HKE.out, kidsW_no hp h]; rfl
            have hGo := fun t r mm => kidsW_go (f := f2) (many := m) (l := lr) (n := t) (r := r) (m := mm) hp
            have HNN := Lib.hid hNone
            have HGO := Lib.hid hGo
            have hgr : gTop ≤ wq.drew.heap.size := Nat.le_trans hgt hU.at0.kept.size
            have hGr : Glob wq.drew := (hU.at0.kept.glob hG hgt hx hy).keep (fun k hk => rfl)
            have hS0 : ScanL x s lr wq.drew := hU.at0.sc.move rfl
            have hR0 : ReadAt x y m wq.drew := hU.at0.rd
            have c35 : wq.drew.cell? ⟨b3, 5, none⟩ = some vk := blk_cell hU.g3 5
            clear hN hb hp hNone hGo c0
            go_wp2
            refine start_ (n := 8) (S := fun w' => w'.cell? ⟨b3, 5, none⟩ = some vk) (ds := [7]) #[false, false, false, false, false, false, false, false] (by kernel_rfl) rfl rfl (c35) (fun hHeld => ?_)
            refine pure_ (i := 0) (N := some 122) (v := ?_) (a' := ?_) #[true, false, false, false, false, false, false, false] rfl rfl (by kernel_rfl) (fun _ _ _ h => h) (Or.inl ⟨by rfl, ?_⟩) ?_ ?_
            rotate_left
            · intro w'
              go_simp
              with_reducible rfl
            rotate_left
            · simp only [Act.put, List.setIfInBounds_toArray, List.set_cons_zero, List.set_cons_succ, i64_w, i32_w]
              rfl
            refine pure_ (i := 2) (N := some 124) (v := ?_) (a' := ?_) #[true, false, true, false, false, false, false, false] rfl rfl (by kernel_rfl) (fun _ _ _ h => h) (Or.inl ⟨by rfl, ?_⟩) ?_ ?_
            rotate_left
            · intro w'
              go_simp
              with_reducible rfl
            rotate_left
            · simp only [Act.put, List.setIfInBounds_toArray, List.set_cons_zero, List.set_cons_succ, i64_w, i32_w]
              rfl
            refine take_ (i := 1) (N := some 123) (v := ?_) (a' := ?_) #[true, true, true, false, false, false, false, false] rfl rfl (by kernel_rfl) (fun _ _ _ h => h) (Or.inl ⟨by rfl, ?_⟩) hHeld ?_ ?_
            rotate_left
            · intro w' s0
              go_simp
              with_reducible rfl
            rotate_left
            · simp only [Act.put, List.setIfInBounds_toArray, List.set_cons_zero, List.set_cons_succ, i64_w, i32_w]
              rfl
            refine one_ (i := 3) (N := some 125) #[true, true, true, true, false, false, false, false] rfl rfl (by kernel_rfl) (by decide) (fun K hK => ?_)
            refine goesD_ Tryz.func16 (by kernel_rfl) rfl #[.pointer (some ⟨y, 0, none⟩)] (by rfl) rfl rfl (by simp only [List.map_toArray, List.map_cons, List.map_nil]; rfl) ?_
            with_reducible refine ((IH.out f2 (by omega) m lr (wq.drew) (by omega) hm8 hS0 hR0 hGr hgr)).mono ?_
            rintro e w3 ⟨hk, hp⟩
            rcases hp with ⟨t, lr2, m2, cs, hnw, rfl, hM, hS3, hR3⟩ | ⟨hnw, v, rfl⟩
            case inr => exact .inr ⟨_, rfl, rfl, NodePost.dies (hU.at0.kept.trans (hk.ofdrew)) (HNN.out hnw) ⟨_, rfl⟩⟩
            obtain ⟨va3, vk3, hcs, hM88, hM32⟩ := R.k28_openM hM
            obtain rfl : cs = #[.int .i64 t.f0.f0, .int .i64 t.f0.f1, .string t.f1, .string t.f2, va3, vk3] := Array.toList_inj.1 hcs
            have hU3 := hU.call hxl hyl hb3g hk hS3 hR3
            have G3n := hU3.g3
            refine .inl ⟨_, rfl, ?_⟩
            refine hK.out _ _ ((blk_cell G3n 5)) (fun hHeld => ?_)
            clear hK K
            refine norm_ (a' := ?_) ?_ ?_
            rotate_left
            · show Act.put _ (some 125) _ = _
              simp only [Act.put, List.setIfInBounds_toArray, List.set_cons_zero, List.set_cons_succ, i64_w, i32_w]
              rfl
            refine one_ (i := 4) (N := some 126) #[true, true, true, true, true, false, false, false] rfl rfl (by kernel_rfl) (by decide) (fun K hK => ?_)
            refine value_ (w1 := ?_) (v := ?_) (by rfl) rfl ?_ ?_
            rotate_left 2
            · go_simp
              constructor
              · rfl
              · rfl
            refine hK.out _ _ ((blk_cell (blk_alloc G3n _) 5)) (fun hHeld => ?_)
            clear hK K
            refine norm_ (a' := ?_) ?_ ?_
            rotate_left
            · show Act.put _ (some 126) _ = _
              simp only [Act.put, List.setIfInBounds_toArray, List.set_cons_zero, List.set_cons_succ, i64_w, i32_w]
              rfl
            refine one_ (i := 5) (N := some 127) #[true, true, true, true, true, true, false, false] rfl rfl (by kernel_rfl) (by decide) (fun K hK => ?_)
            refine Kd.R_append_step R.k28 (w0 := w3) (b3 + 1) (by rfl) (.tmp 123) (.tmp 126) 26 28 (.agg #[.int .i64 0, .int .i64 0, .string ⟨#[]⟩, .string ⟨#[]⟩, .slice none 0 0, .slice none 0 0]) 96 rfl Tryz.underlying26 info28 rfl (by decide) (by omega) vk ks t _ (fun k => b3 < k) (fun k => wq.heap.size ≤ k) (by rfl) (by rfl) (hU.kid hM) (fun k hk => hU.fresh hk) (fun k hk => by have := blk_lt G3n; omega) hU3.kids (Below.refl _ _) (by have := blk_lt G3n; omega) (by omega) ?_
            intro v1 w4 hrow hbel hgrow _
            obtain ⟨sA, sC, hv1⟩ := Kd.R_slice hrow
            rw [List.length_append, List.length_singleton] at hv1
            have hU4 := hU3.app hxl hyl hb3g hrow hbel hgrow
            subst hv1
            have G3m := (hbel.block b3 (by omega)).trans G3n
            have f35 := blk_frozen G3m 5
            have c35 := blk_cell G3m 5
            refine hK.out _ _ ((blk_cell G3m 5)) (fun hHeld => ?_)
            clear hK K
            refine norm_ (a' := ?_) ?_ ?_
            rotate_left
            · show Act.put _ (some 127) _ = _
              simp only [Act.put, List.setIfInBounds_toArray, List.set_cons_zero, List.set_cons_succ, i64_w, i32_w]
              rfl
            refine pure_ (i := 6) (N := some 128) (v := ?_) (a' := ?_) #[true, true, true, true, true, true, true, false] rfl rfl (by kernel_rfl) (fun _ _ _ h => h) (Or.inl ⟨by rfl, ?_⟩) ?_ ?_
            rotate_left
            · intro w'
              go_simp
              with_reducible rfl
            rotate_left
            · simp only [Act.put, List.setIfInBounds_toArray, List.set_cons_zero, List.set_cons_succ, i64_w, i32_w]
              rfl
            refine last_ (i := 7) (N := none) #[true, true, true, true, true, true, true, true] rfl rfl (by kernel_rfl) (by decide) (fun K hK => ?_)
            refine skip_ (w1 := ?_) (by rfl) rfl ?_ ?_
            rotate_left
            · go_simp
              rfl
            refine hK.out _ _ ?_
            clear hK K
            refine done_ (by kernel_rfl) ?_
            have hlm := (nodeW_len f2).1 _ _ _ _ _ hnw
            have HQ := Lib.hid (HKE.out.trans (HGO.out _ _ _ hnw ks))
            go_roundw
            case rel =>
              refine ⟨_, _, _, _, _, _, _, _, _, _, _, _, _, ⟨f2, m2, ks ++ [t], _, lr2, hU4, by omega, by omega, hlm.2, ?_, HQ.out⟩, rfl⟩
              rw [List.length_append, List.length_singleton]
              omega
            case measure =>
              rw [HLX.out, leftOf_eq hU4.at0.sc]
              omega
  · have b0 : ((8192 : Int) < (many : Int) + 1) = True := eq_true (by omega)
    go_enter Tryz.func16, Tryz.ntmps16
    go_wp2_with fail
    refine (fail_l x s l _ A0.sc).mono ?_
    rintro e w1 ⟨⟨v, rfl⟩, hb⟩
    go_wp2
    exact ⟨rfl, NodePost.dies (A0.kept.below hb) (nodeW_many hmany) ⟨_, rfl⟩⟩

end Go.Proofs.YtfpldbobfjkkfaaGreatDoor
