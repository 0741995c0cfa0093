/-
  Memory as the contracts speak of it: blocks known whole, what a call may change, slices that read as lists. No condition.
-/
import Derived.Test.YtdgffjkcpbolmaaGreatDoorFxX
import Derived.Laws.AppendOwn
namespace Go.Proofs.YtdgffjkcpbolmaaGreatDoor.Fx
open Go Go.RowKit
set_option linter.unusedVariables false

/-! ### what a call may change -/
/-- Of what was there, blocks in M alone may have turned. -/
structure Chg (M : Nat → Prop) (w w' : World) : Prop where
  os : w'.os = w.os
  tape : w'.tape = w.tape
  output : w'.output = w.output
  size : w.heap.size ≤ w'.heap.size
  block : ∀ b, b < w.heap.size → ¬ M b → w'.heap[b]? = w.heap[b]?

theorem Chg.refl (M : Nat → Prop) (w : World) : Chg M w w := ⟨rfl, rfl, rfl, Nat.le_refl _, fun _ _ _ => rfl⟩
theorem Chg.trans {M : Nat → Prop} {a b c : World} (h : Chg M a b) (k : Chg M b c) : Chg M a c :=
  ⟨k.os.trans h.os, k.tape.trans h.tape, k.output.trans h.output, Nat.le_trans h.size k.size, fun i hi hm => (k.block i (Nat.lt_of_lt_of_le hi h.size) hm).trans (h.block i hi hm)⟩
theorem Chg.mono {M M' : Nat → Prop} {w w' : World} (h : Chg M w w') (hm : ∀ b, b < w.heap.size → M b → M' b) : Chg M' w w' :=
  ⟨h.os, h.tape, h.output, h.size, fun b hb hn => h.block b hb fun hM => hn (hm b hb hM)⟩
theorem Ext.chg {w w' : World} (h : Ext w w') (M : Nat → Prop) : Chg M w w' := ⟨h.os, h.tape, h.output, h.size, fun b hb _ => h.block b hb⟩
theorem Chg.ext {w w' : World} (h : Chg (fun _ => False) w w') : Ext w w' := ⟨h.os, h.tape, h.output, h.size, fun b hb => h.block b hb id⟩
theorem Ext.refl (w : World) : Ext w w := Below.refl _ _
theorem Ext.trans {a b c : World} (h : Ext a b) (k : Ext b c) : Ext a c := Below.trans h (Below.mono k h.size)
theorem Ext.drew {a b : World} (h : Ext a b) : Ext a b.drew := Below.drew h
theorem Ext.alloc {a b : World} (h : Ext a b) (o : Obj) : Ext a (b.alloc o) := Below.alloc h h.size o
theorem ext_drew (w : World) : Ext w w.drew := (Ext.refl w).drew
theorem ext_alloc (w : World) (o : Obj) : Ext w (w.alloc o) := (Ext.refl w).alloc o
theorem Ext.blk {w w' : World} (h : Ext w w') {b : Nat} {o : Obj} (hb : w.heap[b]? = some o) : w'.heap[b]? = some o := by
  rw [h.block b (Array.getElem?_eq_some_iff.1 hb).1]; exact hb
theorem Chg.blk {M : Nat → Prop} {w w' : World} (h : Chg M w w') {b : Nat} {o : Obj} (hb : w.heap[b]? = some o) (hm : ¬ M b) : w'.heap[b]? = some o := by
  rw [h.block b (Array.getElem?_eq_some_iff.1 hb).1 hm]; exact hb
theorem blk_lt {w : World} {b : Nat} {o : Obj} (hb : w.heap[b]? = some o) : b < w.heap.size := (Array.getElem?_eq_some_iff.1 hb).1
theorem Ext.cell {w w' : World} (h : Ext w w') {a : Addr} {v : Value} (hc : w.cell? a = some v) : w'.cell? a = some v := by
  rw [Below.cell h (World.block_lt_of_cell? w a hc)]; exact hc
theorem Chg.cell {M : Nat → Prop} {w w' : World} (h : Chg M w w') {a : Addr} {v : Value} (hc : w.cell? a = some v) (hm : ¬ M a.block) : w'.cell? a = some v := by
  rw [World.cell?_of_block (w := w) (h.block _ (World.block_lt_of_cell? w a hc) hm)]; exact hc
/-- A call that changes new blocks alone, as seen from before they were made. -/
theorem Ext.chg_new {M : Nat → Prop} {a b c : World} (h : Ext a b) (k : Chg M b c) (hM : ∀ i, M i → a.heap.size ≤ i) : Ext a c :=
  ⟨k.os.trans h.os, k.tape.trans h.tape, k.output.trans h.output, Nat.le_trans h.size k.size, fun i hi => (k.block i (Nat.lt_of_lt_of_le hi h.size) (fun hm => by have := hM i hm; omega)).trans (h.block i hi)⟩
theorem Chg.chg_new {M M' : Nat → Prop} {a b c : World} (h : Chg M a b) (k : Chg M' b c) (hM : ∀ i, M' i → i < a.heap.size → M i) : Chg M a c :=
  ⟨k.os.trans h.os, k.tape.trans h.tape, k.output.trans h.output, Nat.le_trans h.size k.size, fun i hi hm => (k.block i (Nat.lt_of_lt_of_le hi h.size) (fun hm' => hm (hM i hm' hi))).trans (h.block i hi hm)⟩
theorem Chg.ext_r {M : Nat → Prop} {a b c : World} (h : Chg M a b) (k : Ext b c) : Chg M a c := h.trans (k.chg M)
theorem Ext.chg_r {M : Nat → Prop} {a b c : World} (h : Ext a b) (k : Chg M b c) : Chg M a c := (h.chg M).trans k

/-! ### a block known whole -/
/-- Block b holds these cells, and none of them is frozen. -/
def Blk (w : World) (b : Nat) (cs : List Value) (T : Nat) : Prop := w.heap[b]? = some (.cells cs.toArray T (0, 0))
theorem Blk.lt {w : World} {b T : Nat} {cs : List Value} (h : Blk w b cs T) : b < w.heap.size := blk_lt h
theorem Blk.ext {w w' : World} {b T : Nat} {cs : List Value} (h : Blk w b cs T) (he : Ext w w') : Blk w' b cs T := he.blk h
theorem Blk.chg {M : Nat → Prop} {w w' : World} {b T : Nat} {cs : List Value} (h : Blk w b cs T) (he : Chg M w w') (hm : ¬ M b) : Blk w' b cs T := he.blk h hm
theorem Blk.cell {w : World} {b T : Nat} {cs : List Value} (h : Blk w b cs T) (i : Nat) : w.cell? ⟨b, i, none⟩ = cs[i]? := by
  unfold Blk at h; simp [World.cell?, h]
theorem Blk.free {w : World} {b T : Nat} {cs : List Value} (h : Blk w b cs T) (i : Nat) : w.frozen? ⟨b, i, none⟩ = false := by
  unfold Blk at h; simp [World.frozen?, h]
theorem Blk.new (w : World) (cs : List Value) (T : Nat) : Blk (w.alloc (.cells cs.toArray T)) w.heap.size cs T := by
  unfold Blk World.alloc; simp
theorem Blk.set {w : World} {b T : Nat} {cs : List Value} (h : Blk w b cs T) (i : Nat) (v : Value) : Blk (w.setCell ⟨b, i, none⟩ v) b (cs.set i v) T := by
  unfold Blk at h ⊢; simp [World.setCell, Array.getElem?_modify, h]
theorem chg_set (w : World) (b i : Nat) (v : Value) : Chg (· = b) w (w.setCell ⟨b, i, none⟩ v) :=
  ⟨rfl, rfl, rfl, by simp, fun k hk hn => Below.heap_setCell _ _ _ _ hn⟩
theorem size_set (w : World) (b i : Nat) (v : Value) : (w.setCell ⟨b, i, none⟩ v).heap.size = w.heap.size := by simp

section
variable {P : Program} {w : World} {S T f d b o T0 : Nat} {cs : List Value} {v x : Value}
theorem LF_blk {k : Value → World → Prop} (hb : Blk w b cs T0) [FO P S f d] [PT P T] (hc : cs[o + d]? = some v) (hk : k v w) : LF P S T f (.pointer (some ⟨b, o, none⟩)) w k :=
  LF_ok ((hb.cell _).trans hc) hk
theorem LB_blk {k : Value → World → Prop} (hb : Blk w b cs T0) [FO P S f d] [PT P T] (hc : cs[o + d]? = some v) (hk : k v w) : LB P S T f (.pointer (some ⟨b, o, none⟩)) w k :=
  LB_ok ((hb.cell _).trans hc) hk
theorem SF_blk {u : Value} {k : World → Prop} (hb : Blk w b cs T0) [FO P S f d] [OT P T] (hx : oneCell x = true) (hc : cs[o + d]? = some u)
    (hk : ∀ w', Blk w' b (cs.set (o + d) x) T0 → Chg (· = b) w w' → w'.heap.size = w.heap.size → k w') : SF P S T f (.pointer (some ⟨b, o, none⟩)) x w k :=
  SF_ok hx ((hb.cell _).trans hc) (hb.free _) (hk _ (hb.set _ _) (chg_set _ _ _ _) (size_set _ _ _ _))
theorem SB_blk {u : Value} {k : World → Prop} (hb : Blk w b cs T0) [FO P S f d] [OT P T] (hx : oneCell x = true) (hc : cs[o + d]? = some u)
    (hk : ∀ w', Blk w' b (cs.set (o + d) x) T0 → Chg (· = b) w w' → w'.heap.size = w.heap.size → k w') : SB P S T f (.pointer (some ⟨b, o, none⟩)) x w k :=
  SB_ok hx ((hb.cell _).trans hc) (hb.free _) (hk _ (hb.set _ _) (chg_set _ _ _ _) (size_set _ _ _ _))
/-- A value boxed: a new block. -/
theorem box_ok {k : Value → World → Prop} (hk : ∀ w' b, Ext w w' → w.heap.size ≤ b → Blk w' b v.cells.toList T → w'.heap.size = w.heap.size + 1 → k (.pointer (some ⟨b, 0, none⟩)) w') : XV P (Instr.box T v) w k := by
  rw [x_box]
  exact hk _ _ (ext_alloc _ _) (Nat.le_refl _) (by have := Blk.new w v.cells.toList T; simpa using this) (by simp)
/-- A loop: what holds at each round's head, and what goes down. -/
theorem LoopP.of {σ : Type} {B : σ → World → (σ → World → Prop) → Prop} {s : σ} {w : World} (I : σ → World → Prop) (μ : σ → World → Nat) (h : I s w)
    (hB : ∀ s w, I s w → B s w (fun s' w' => I s' w' ∧ μ s' w' < μ s w)) : LoopP B s w := ⟨I, μ, h, hB⟩
end

/-! ### kinds of data, and slices of them -/
/-- How a datum lies in cells. -/
structure Kn (α : Type) where
  sz : Nat
  rep : World → α → List Value → Prop
  len : ∀ w x cs, rep w x cs → cs.length = sz
/-- A slice reads as a list. -/
def Sl {α : Type} (E : Kn α) (w : World) (v : Value) (xs : List α) : Prop :=
  ∃ a cap, v = .slice a xs.length cap ∧ (xs.length ≤ cap ∧ xs.length ≤ 9223372036854775807) ∧ (xs ≠ [] → ∃ b o, a = some ⟨b, o, none⟩ ∧
    ∀ i x, xs[i]? = some x → ∃ cs, E.rep w x cs ∧ ∀ j u, cs[j]? = some u → w.cell? ⟨b, o + i * E.sz + j, none⟩ = some u)
def Kn.byte : Kn UInt8 := ⟨1, fun _ x cs => cs = [.int .u8 x.toNat], fun _ _ _ h => by rw [h]; rfl⟩
def Kn.int : Kn Int := ⟨1, fun _ x cs => cs = [.int .i64 x], fun _ _ _ h => by rw [h]; rfl⟩
def Kn.str : Kn ByteArray := ⟨1, fun _ x cs => cs = [.string x], fun _ _ _ h => by rw [h]; rfl⟩
def Kn.ask : Kn (ByteArray × Int) := ⟨2, fun _ x cs => cs = [.string x.1, .int .i64 x.2], fun _ _ _ h => by rw [h]; rfl⟩
/-- It stays so while nothing that it reads turns. -/
def Kn.Keeps {α : Type} (E : Kn α) : Prop := ∀ w w' x cs, E.rep w x cs → Ext w w' → E.rep w' x cs
theorem Kn.byte_keeps : Kn.byte.Keeps := fun _ _ _ _ h _ => h
theorem Kn.int_keeps : Kn.int.Keeps := fun _ _ _ _ h _ => h
theorem Kn.str_keeps : Kn.str.Keeps := fun _ _ _ _ h _ => h
theorem Kn.ask_keeps : Kn.ask.Keeps := fun _ _ _ _ h _ => h
theorem Sl.ext {α : Type} {E : Kn α} {w w' : World} {v : Value} {xs : List α} (h : Sl E w v xs) (hk : E.Keeps) (he : Ext w w') : Sl E w' v xs := by
  obtain ⟨a, cap, hv, hc, h⟩ := h
  refine ⟨a, cap, hv, hc, fun hne => ?_⟩
  obtain ⟨b, o, ha, h⟩ := h hne
  refine ⟨b, o, ha, fun i x hx => ?_⟩
  obtain ⟨cs, h1, h2⟩ := h i x hx
  exact ⟨cs, hk _ _ _ _ h1 he, fun j u hu => he.cell (h2 j u hu)⟩
/-- Kn of a slice: one cell. -/
def Kn.sl {α : Type} (E : Kn α) : Kn (List α) := ⟨1, fun w xs cs => ∃ v, cs = [v] ∧ Sl E w v xs, fun _ _ _ ⟨v, h, _⟩ => by rw [h]; rfl⟩
theorem Kn.sl_keeps {α : Type} {E : Kn α} (hk : E.Keeps) : E.sl.Keeps := fun _ _ _ _ ⟨v, h, hs⟩ he => ⟨v, h, hs.ext hk he⟩

/-! ### reading slices and strings -/
section
variable {P : Program} {w : World} {k : Value → World → Prop}
theorem sliceT_eq {T E : Nat} (h : sliceT P T E = true) : P.underlying T = some (.slice E) := by
  unfold sliceT at h
  split at h
  · rename_i e he; rw [he]; simp at h; rw [h]
  · cases h
theorem strT_eq {T : Nat} (h : strT P T = true) : P.underlying T = some .string := by
  unfold strT at h
  split at h
  · assumption
  · cases h
theorem run_lenSlice {T E R : Nat} {a : Option Addr} {n c : Nat} (h : sliceT P T E = true) : (Builtin.len_ #[T] R #[.slice a n c]).run P w = .ok (.int .i64 n) w := by
  simp [Builtin.len_, run_underlying (sliceT_eq h), goInt]
theorem run_lenStr {T R : Nat} {s : ByteArray} (h : strT P T = true) : (Builtin.len_ #[T] R #[.string s]).run P w = .ok (.int .i64 s.size) w := by
  simp [Builtin.len_, run_underlying (strT_eq h), goInt]
theorem len_ok {T R E : Nat} {a : Option Addr} {n c : Nat} [SlT P T E] (hk : k (.int .i64 n) w) : XV P (Builtin.len_ #[T] R #[.slice a n c]) w k := by
  rw [XV_eq (run_lenSlice (SlT.eq (E := E)))]; exact hk
theorem lens_ok {T R : Nat} {s : ByteArray} [StT P T] (hk : k (.int .i64 s.size) w) : XV P (Builtin.len_ #[T] R #[.string s]) w k := by
  rw [XV_eq (run_lenStr StT.eq)]; exact hk
theorem run_index {T E sz : Nat} {b o n c : Nat} {i : Nat} (h : sliceT P T E = true) (hs : szT P E = some sz) (hi : i < n) :
    (Instr.indexAt T (.slice (some ⟨b, o, none⟩) n c) (.int .i64 i)).run P w = .ok (.pointer (some ⟨b, o + i * sz, none⟩)) w := by
  unfold szT at hs
  cases hq : P.info? E with
  | none => simp [hq] at hs
  | some q =>
    simp [hq] at hs
    have h1 : (0 : Int) ≤ (i : Int) ∧ (i : Int) < n := by omega
    simp [Instr.indexAt, run_underlying (sliceT_eq h), asIntOf, h1, sizeOf, typeInfo, hq, hs, add_at]
    intro hle
    exfalso
    omega
theorem run_index_str {T i : Nat} {s : ByteArray} (h : strT P T = true) (hi : i < s.size) : (Instr.index T (.string s) (.int .i64 i)).run P w = .ok (.int .u8 s[i].toNat) w := by
  have hx : (if (0 : Int) ≤ (i : Int) then s[(i : Int).toNat]? else none) = some s[i] := by simp [hi]
  simp [Instr.index, run_underlying (strT_eq h), asIntOf, hi]
theorem LI_ok {A T E : Nat} {b o n c i sz : Nat} {v : Value} [SlT P A E] [SzT P E sz] [PT P T] (hi : i < n) (hc : w.cell? ⟨b, o + i * sz, none⟩ = some v) (hk : k v w) :
    LI P A T (.slice (some ⟨b, o, none⟩) n c) (.int .i64 i) w k := by
  unfold LI; rw [XV_eq (run_index (SlT.eq (E := E)) SzT.eq hi), XV_eq (run_loadAt PT.eq hc)]; exact hk
/-- A struct or array read whole. -/
theorem run_loadAgg {T n b o : Nat} {cs : List Value} (h : aggT P T = true) (hs : szT P T = some n) (hl : cs.length = n) (hc : ∀ j u, cs[j]? = some u → w.cell? ⟨b, o + j, none⟩ = some u) :
    (Instr.loadAt T (.pointer (some ⟨b, o, none⟩))).run P w = .ok (.agg cs.toArray) w := by
  unfold szT at hs
  cases hq : P.info? T with
  | none => simp [hq] at hs
  | some q =>
    simp [hq] at hs
    have hcells := run_loadCells_list (P := P) w ⟨b, o, none⟩ cs (fun j v hv => by rw [add_at]; exact hc j v hv)
    unfold aggT at h
    cases hu : P.underlying T with
    | none => rw [hu] at h; cases h
    | some d =>
      rw [hu] at h
      have hagg : (isAgg T).run P w = .ok true w := by
        unfold isAgg
        cases d <;> first | (simp at h; done) | (simp [run_underlying hu]; done)
      have hsz : (sizeOf T).run P w = .ok cs.length w := by simp [sizeOf, typeInfo, hq, hs, hl]
      simp only [Instr.loadAt, Instr.sureAddr, loadVar, Sem.run_bind, pure_bind, hagg, Result.andThen, if_true, hsz, hcells]
      rfl
theorem LB_agg {S T f d b o T0 n : Nat} {cs : List Value} (hb : Blk w b cs T0) [FO P S f d] [AT P T] [SzT P T n] {vs : List Value}
    (hv : (cs.drop (o + d)).take n = vs) (hl : vs.length = n) (hk : k (.agg vs.toArray) w) : LB P S T f (.pointer (some ⟨b, o, none⟩)) w k := by
  unfold LB
  rw [XV_eq (run_fieldAt FO.eq), XV_eq (run_loadAgg AT.eq SzT.eq hl (fun j u hu => ?_))]
  · exact hk
  · rw [hb.cell, ← hu, ← hv]
    have hj : j < vs.length := (List.getElem?_eq_some_iff.1 hu).1
    rw [List.getElem?_take_of_lt (by omega), List.getElem?_drop]
/-- Calls. -/
theorem CallF.use {f : FuncId} {args : Array Value} {R : Value → World → Prop} (h : CallF P f args w R) (hk : ∀ v w', R v w' → k v w') : CallF P f args w k :=
  ⟨h.1, h.2.mono fun e w' he => by cases e <;> first | exact hk _ _ he | exact he.elim⟩

/-! ### the same, off a slice that reads as a list in an earlier world -/
section
variable {w0 : World} {α : Type} {E : Kn α} {v : Value} {xs : List α}
theorem Sl.shape (h : Sl E w0 v xs) : ∃ a cap, v = .slice a xs.length cap := let ⟨a, cap, h, _⟩ := h; ⟨a, cap, h⟩
theorem Sl.le (h : Sl E w0 v xs) : xs.length ≤ 9223372036854775807 := let ⟨_, _, _, h, _⟩ := h; h.2
theorem len_sl {T R e : Nat} [SlT P T e] (h : Sl E w0 v xs) (hk : k (.int .i64 xs.length) w) : XV P (Builtin.len_ #[T] R #[v]) w k := by
  obtain ⟨a, cap, rfl⟩ := h.shape
  exact len_ok (E := e) hk
theorem len_sl_run {T R e : Nat} [SlT P T e] (h : Sl E w0 v xs) : (Builtin.len_ #[T] R #[v]).run P w = .ok (.int .i64 xs.length) w := by
  obtain ⟨a, cap, rfl⟩ := h.shape
  exact run_lenSlice (SlT.eq (E := e))
theorem Sl.get (h : Sl E w0 v xs) {i : Nat} {x : α} (hx : xs[i]? = some x) : ∃ b o cap cs, v = .slice (some ⟨b, o, none⟩) xs.length cap ∧ E.rep w0 x cs ∧ ∀ j u, cs[j]? = some u → w0.cell? ⟨b, o + i * E.sz + j, none⟩ = some u := by
  obtain ⟨a, cap, hv, _, h⟩ := h
  obtain ⟨b, o, rfl, h'⟩ := h (by rintro rfl; simp at hx)
  obtain ⟨cs, h1, h2⟩ := h' i x hx
  exact ⟨b, o, cap, cs, hv, h1, h2⟩
/-- An element's address: its cells are known there. -/
theorem idx_sl {A e i n : Nat} {x : α} [SlT P A e] [SzT P e n] (h : Sl E w0 v xs) (hn : n = E.sz) (he : Ext w0 w) (hx : xs[i]? = some x)
    (hk : ∀ b o cs, E.rep w0 x cs → (∀ j u, cs[j]? = some u → w0.cell? ⟨b, o + j, none⟩ = some u) → k (.pointer (some ⟨b, o, none⟩)) w) : XV P (Instr.indexAt A v (.int .i64 i)) w k := by
  obtain ⟨b, o, cap, cs, rfl, h1, h2⟩ := h.get hx
  subst hn
  rw [XV_eq (run_index (SlT.eq (E := e)) SzT.eq (List.getElem?_eq_some_iff.1 hx).1)]
  exact hk b _ cs h1 h2
/-- An element of one cell, read. -/
theorem LI_sl {A T e i n : Nat} {x : α} {u : Value} [SlT P A e] [SzT P e n] [PT P T] (h : Sl E w0 v xs) (hn : n = E.sz) (he : Ext w0 w) (hx : xs[i]? = some x)
    (hr : ∀ cs, E.rep w0 x cs → cs = [u]) (hk : k u w) : LI P A T v (.int .i64 i) w k := by
  obtain ⟨b, o, cap, cs, rfl, h1, h2⟩ := h.get hx
  subst hn
  refine LI_ok (E := e) (List.getElem?_eq_some_iff.1 hx).1 (he.cell (h2 0 u (by rw [hr _ h1]; rfl))) hk
theorem LI_slA {A T e i n : Nat} {x : α} [SlT P A e] [SzT P e n] [AT P T] [SzT P T n] (h : Sl E w0 v xs) (hn : n = E.sz) (he : Ext w0 w) (hx : xs[i]? = some x)
    (hk : ∀ cs, E.rep w0 x cs → k (.agg cs.toArray) w) : LI P A T v (.int .i64 i) w k := by
  obtain ⟨b, o, cap, cs, rfl, h1, h2⟩ := h.get hx
  subst hn
  unfold LI
  rw [XV_eq (run_index (SlT.eq (E := e)) SzT.eq (List.getElem?_eq_some_iff.1 hx).1), XV_eq (run_loadAgg AT.eq SzT.eq (E.len _ _ _ h1) (fun j u hu => he.cell (h2 j u hu)))]
  exact hk cs h1
theorem LI_sl_run {A T e i n : Nat} {x : α} {u : Value} [SlT P A e] [SzT P e n] [PT P T] (h : Sl E w0 v xs) (hn : n = E.sz) (he : Ext w0 w) (hx : xs[i]? = some x)
    (hr : ∀ cs, E.rep w0 x cs → cs = [u]) : ∃ p, (∀ w, (Instr.indexAt A v (.int .i64 i)).run P w = .ok (.pointer (some p)) w) ∧ ∀ w, Ext w0 w → (Instr.loadAt T (.pointer (some p))).run P w = .ok u w := by
  obtain ⟨b, o, cap, cs, rfl, h1, h2⟩ := h.get hx
  subst hn
  exact ⟨_, fun w => run_index (SlT.eq (E := e)) SzT.eq (List.getElem?_eq_some_iff.1 hx).1, fun w he => run_loadAt PT.eq (he.cell (h2 0 u (by rw [hr _ h1]; rfl)))⟩
/-- A field, by the cells known at an address. -/
theorem LB_cells {S T f d b o : Nat} {cs : List Value} {u : Value} (hc : ∀ j u, cs[j]? = some u → w0.cell? ⟨b, o + j, none⟩ = some u) [FO P S f d] [PT P T] (he : Ext w0 w) (hu : cs[d]? = some u) (hk : k u w) :
    LB P S T f (.pointer (some ⟨b, o, none⟩)) w k := LB_ok (he.cell (hc _ _ hu)) hk
theorem LB_cellsA {S T f d b o n : Nat} {cs vs : List Value} (hc : ∀ j u, cs[j]? = some u → w0.cell? ⟨b, o + j, none⟩ = some u) [FO P S f d] [AT P T] [SzT P T n] (he : Ext w0 w)
    (hv : (cs.drop d).take n = vs) (hl : vs.length = n) (hk : k (.agg vs.toArray) w) : LB P S T f (.pointer (some ⟨b, o, none⟩)) w k := by
  unfold LB
  rw [XV_eq (run_fieldAt FO.eq), XV_eq (run_loadAgg AT.eq SzT.eq hl (fun j u hu => ?_))]
  · exact hk
  · rw [Nat.add_assoc]
    refine he.cell (hc _ _ ?_)
    rw [← hu, ← hv]
    have hj : j < vs.length := (List.getElem?_eq_some_iff.1 hu).1
    rw [List.getElem?_take_of_lt (by omega), List.getElem?_drop]
/-- A whole struct of cells known at an address. -/
theorem load_cellsA {T b o n : Nat} {cs : List Value} (hc : ∀ j u, cs[j]? = some u → w0.cell? ⟨b, o + j, none⟩ = some u) [AT P T] [SzT P T n] (he : Ext w0 w) (hl : cs.length = n) (hk : k (.agg cs.toArray) w) :
    XV P (Instr.loadAt T (.pointer (some ⟨b, o, none⟩))) w k := by
  rw [XV_eq (run_loadAgg AT.eq SzT.eq hl (fun j u hu => he.cell (hc j u hu)))]
  exact hk
end
/-! ### the same, in a region whose order is open -/
section
variable {w' w0 : World} {α : Type} {E : Kn α} {v u : Value} {xs : List α} {k : Value → Prop}
theorem LIS_sl {A T e i n : Nat} {x : α} [SlT P A e] [SzT P e n] [PT P T] (h : Sl E w0 v xs) (hn : n = E.sz) (he : Ext w0 w') (hx : xs[i]? = some x)
    (hr : ∀ cs, E.rep w0 x cs → cs = [u]) (hk : k u) : LIS P (Ext w') A T v (.int .i64 i) k := by
  obtain ⟨p, h1, h2⟩ := LI_sl_run (P := P) (A := A) (T := T) (e := e) (n := n) h hn he hx hr
  exact XS_of h1 (XS_at (fun w hw => h2 w (he.trans hw)) hk)
theorem LBS_blk {S T f d b o T0 : Nat} {cs : List Value} [FO P S f d] [PT P T] (hb : Blk w0 b cs T0) (he : Ext w0 w') (hc : cs[o + d]? = some u) (hk : k u) : LBS P (Ext w') S T f (.pointer (some ⟨b, o, none⟩)) k :=
  XS_of (fun w => run_fieldAt FO.eq) (XS_at (fun w hw => run_loadAt PT.eq (((hb.ext he).ext hw).cell _ |>.trans hc)) hk)
theorem LFS_blk {S T f d b o T0 : Nat} {cs : List Value} [FO P S f d] [PT P T] (hb : Blk w0 b cs T0) (he : Ext w0 w') (hc : cs[o + d]? = some u) (hk : k u) : LFS P (Ext w') S T f (.pointer (some ⟨b, o, none⟩)) k :=
  s_nil (XS_of (fun w => run_fieldAt FO.eq) (XS_at (fun w hw => run_loadAt PT.eq (((hb.ext he).ext hw).cell _ |>.trans hc)) hk))
theorem LIS_slA {A T e i n : Nat} {x : α} [SlT P A e] [SzT P e n] [AT P T] [SzT P T n] (h : Sl E w0 v xs) (hn : n = E.sz) (he : Ext w0 w') (hx : xs[i]? = some x)
    (hk : ∀ cs, E.rep w0 x cs → k (.agg cs.toArray)) : LIS P (Ext w') A T v (.int .i64 i) k := by
  subst hn
  obtain ⟨b, o, cap, cs, rfl, h1, h2⟩ := h.get hx
  exact XS_of (fun w => run_index (SlT.eq (E := e)) SzT.eq (List.getElem?_eq_some_iff.1 hx).1) (XS_at (fun w hw => run_loadAgg AT.eq SzT.eq (E.len _ _ _ h1) (fun j u hu => (he.trans hw).cell (h2 j u hu))) (hk cs h1))
end
theorem lt_some {α : Type} {xs : List α} {i : Nat} (h : (i : Int) < xs.length) : ∃ x, xs[i]? = some x := ⟨_, List.getElem?_eq_getElem (by omega)⟩
theorem s_ne_cond {S : World → Prop} {T : TypeId} {c : Bool} {K : IntKind} {a b : Int} {A B : Prop} (h1 : a ≠ b → A) (h2 : a = b → B) : XS P S (binS .neq T c (.int K a) (.int K b)) fun v => condW v A B := s_neq (condW_ne h1 h2)
theorem s_nes_cond {S : World → Prop} {T : TypeId} {c : Bool} {a b : ByteArray} {A B : Prop} (h1 : a ≠ b → A) (h2 : a = b → B) : XS P S (binS .neq T c (.string a) (.string b)) fun v => condW v A B :=
  s_neqs (condW_b (fun h => h1 (fun e => by rw [bytes_eq.2 e] at h; cases h)) (fun h => h2 (bytes_eq.1 (by simpa using h))))
/-- The counter of a loop. -/
def ctr : Value → Nat
  | .int _ i => i.toNat
  | _ => 0
end
end Go.Proofs.YtdgffjkcpbolmaaGreatDoor.Fx
