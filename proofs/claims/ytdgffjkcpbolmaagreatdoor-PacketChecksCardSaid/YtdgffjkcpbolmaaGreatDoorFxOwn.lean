/-
  Rows that a call owns: append, with where the new row lies. No condition.
-/
import Derived.Test.YtdgffjkcpbolmaaGreatDoorFxMem
import Derived.Laws.OwnMore
namespace Go.Proofs.YtdgffjkcpbolmaaGreatDoor.Fx
open Go Go.RowKit
set_option linter.unusedVariables false
/-- A slice value v owns a row whose first cells are xs. -/
abbrev Own (w : World) (E sz : Nat) (v : Value) (n : Nat) (xs : List Value) : Prop := w.ownsRow 0 E sz v n xs
theorem grown_chg {w w' : World} {row : Option Nat} (h : w.grownBy w' row) : Chg (fun b => row = some b) w w' :=
  ⟨h.os, h.tape, h.output, h.size, fun b hb hn => h.block b hb fun e => hn e.symm⟩
/-- Behind an append: the same row, or a new one. -/
def SameOrNew (w : World) (v v' : Value) : Prop := v'.ownBlock = v.ownBlock ∨ ∃ g, v'.ownBlock = some g ∧ w.heap.size ≤ g
theorem oneCell_of {v : Value} (h : oneCell v = true) : v.oneCell' = true := by cases v <;> first | rfl | (simp [oneCell] at h; done)
section
variable {P : Program} {w : World} {T E sz bytes R : Nat}
theorem run_append [h : ApT P T E sz bytes] {v : Value} {n : Nat} {xs : List Value} (hown : Own w E sz v n xs) {a : Addr} {m c : Nat} {news : List Value} (hl : news.length = m * sz)
    (hnews : ∀ j u, news[j]? = some u → w.cell? (a.add j) = some u) (h1 : ∀ u ∈ news, oneCell u = true) (hn : n + m ≤ 140737488355328) (hb : (n + m) * bytes ≤ 140737488355328) :
    ∃ v' w', (Builtin.append_ #[T, T] R #[v, .slice (some a) m c]).run P w = .ok v' w' ∧ Own w' E sz v' (n + m) (xs ++ news) ∧ Chg (fun b => v.ownBlock = some b) w w' ∧ SameOrNew w v v' ∧ (v' = .slice none 0 0 → v = .slice none 0 0 ∧ m = 0) := by
  have h := h.eq
  simp only [appT, Bool.and_eq_true] at h
  obtain ⟨hT, h⟩ := h
  have hT := sliceT_eq hT
  cases hi : P.info? E with
  | none => rw [hi] at h; simp at h
  | some i =>
    rw [hi] at h
    simp only [Bool.and_eq_true, beq_iff_eq] at h
    obtain ⟨⟨⟨hsz, hby⟩, hpos⟩, hz⟩ := h
    cases hzz : i.zero with
    | none => rw [hzz] at hz; simp at hz
    | some z =>
      rw [hzz] at hz
      have hzs : z.cells.size = sz := by simpa using hz
      have hpos' : 0 < sz := Nat.le_of_ble_eq_true hpos
      have h1' : ∀ u ∈ news, u.oneCell' = true := fun u hu => oneCell_of (h1 u hu)
      obtain ⟨v', w', hr, ho, hg, hnil⟩ := run_append_own (P := P) w 0 T R E i z sz bytes hT hi hzz hsz hby hzs hpos' v n xs hown a m c news hl hnews h1' (by unfold maxLen; omega) hb (Nat.zero_le _)
      refine ⟨v', w', hr, ho, grown_chg hg, ?_, fun h => hnil.1 h⟩
      subst hsz
      subst hby
      rcases hown.2 with ⟨rfl, rfl⟩ | ⟨g, cap, cur, rfl, hbg, hgg, hnc, hcm, hcs, htake⟩
      · by_cases hm : m = 0
        · exact .inl (by rw [hnil.2 ⟨rfl, hm⟩])
        · have hr2 := run_append_nil (P := P) w T R E i z hT hi hzz a m c news hl hnews (by omega) (by omega) (by have hb := hb; simp only [Nat.zero_add] at hb; omega)
          rw [hr2] at hr
          injection hr with hv _
          subst hv
          exact .inr ⟨_, rfl, Nat.le_refl _⟩
      · by_cases hroom : n + m ≤ cap
        · obtain ⟨w2, hr2, _⟩ := run_append_fits (P := P) w 0 T R E i i.size hT hi rfl g n cap xs hown a m c news hl hnews h1' hroom
          rw [hr2] at hr
          injection hr with hv _
          subst hv
          exact .inl rfl
        · have hr2 := run_append_grow (P := P) w T R E i z hT hi hzz ⟨g, 0, none⟩ n cap xs hown.1 (hown.cells rfl) a m c news hl hnews (by omega) (by omega) (growslice_fits (by omega) hb)
          rw [hr2] at hr
          injection hr with hv _
          subst hv
          exact .inr ⟨_, rfl, Nat.le_refl _⟩
theorem run_append_nilsrc [h : ApT P T E sz bytes] {v : Value} {n : Nat} {xs : List Value} (hown : Own w E sz v n xs) : (Builtin.append_ #[T, T] R #[v, .slice none 0 0]).run P w = .ok v w := by
  have h := h.eq
  simp only [appT, Bool.and_eq_true] at h
  obtain ⟨hT, h⟩ := h
  cases hi : P.info? E with
  | none => rw [hi] at h; simp at h
  | some i => exact run_append_owned_none (P := P) w 0 T R E i sz (sliceT_eq hT) hi v n xs hown
/-- append of one element that was just laid down alone. -/
theorem append_ok [ApT P T E sz bytes] {v : Value} {n : Nat} {xs : List Value} {k : Value → World → Prop} (hown : Own w E sz v n xs) {b o m c : Nat} {news : List Value} (hl : news.length = m * sz)
    (hnews : ∀ j u, news[j]? = some u → w.cell? ⟨b, o + j, none⟩ = some u) (h1 : ∀ u ∈ news, oneCell u = true) (hn : n + m ≤ 140737488355328) (hb : (n + m) * bytes ≤ 140737488355328)
    (hk : ∀ v' w', Own w' E sz v' (n + m) (xs ++ news) → Chg (fun b => v.ownBlock = some b) w w' → SameOrNew w v v' → k v' w') : XV P (Builtin.append_ #[T, T] R #[v, .slice (some ⟨b, o, none⟩) m c]) w k := by
  obtain ⟨v', w', hr, ho, hc, hs, _⟩ := run_append (P := P) (T := T) (E := E) (sz := sz) (bytes := bytes) (R := R) (a := ⟨b, o, none⟩) (c := c) hown hl (fun j u hu => by rw [add_at]; exact hnews j u hu) h1 hn hb
  rw [XV_eq hr]
  exact hk v' w' ho hc hs
end
/-! ### slices laid down with their elements -/
theorem foldl_setAll (l : List Value) : ∀ (k : Nat) (cs : Array Value) (i : Nat),
    ((l.zipIdx k).foldl (fun cs (x : Value × Nat) => cs.setIfInBounds (0 + x.2) x.1) cs)[i]? = if k ≤ i ∧ i < k + l.length ∧ i < cs.size then l[i - k]? else cs[i]? := by
  induction l with
  | nil => intro k cs i; simp; intro h1 h2; omega
  | cons v l ih =>
    intro k cs i
    rw [List.zipIdx_cons, List.foldl_cons, ih, Array.size_setIfInBounds, Nat.zero_add, List.length_cons]
    by_cases h1 : i < k
    · rw [if_neg (by omega), if_neg (by omega), Array.getElem?_setIfInBounds_ne (by omega)]
    · by_cases h2 : k = i
      · subst h2
        rw [if_neg (by omega)]
        by_cases h3 : k < cs.size
        · rw [if_pos (by omega), Array.getElem?_setIfInBounds_self_of_lt h3, Nat.sub_self, List.getElem?_cons_zero]
        · rw [if_neg (by omega), Array.getElem?_eq_none (by simp; omega), Array.getElem?_eq_none (by omega)]
      · rw [Array.getElem?_setIfInBounds_ne h2]
        by_cases h3 : i < k + 1 + l.length ∧ i < cs.size
        · rw [if_pos (by omega), if_pos (by omega), show i - k = (i - (k + 1)) + 1 by omega, List.getElem?_cons_succ]
        · rw [if_neg (by omega), if_neg (by omega)]
section
variable {P : Program} {w : World} {T E sz bytes : Nat}
theorem run_buildSlice0 [h : ApT P T E sz bytes] : (Instr.buildSlice T 0 #[]).run P w = .ok (.slice (some ⟨w.heap.size, 0, none⟩) 0 0) (w.alloc (.cells #[] E)) := by
  have h := h.eq
  simp only [appT, Bool.and_eq_true] at h
  obtain ⟨hT, h⟩ := h
  cases hi : P.info? E with
  | none => rw [hi] at h; simp at h
  | some i => simp [Instr.buildSlice, run_underlying (sliceT_eq hT), sizeOf, typeInfo, hi, Instr.fill, newRow, newObj, Sem.run, Result.andThen]; rw [show ((Array.range 0).map fun _ => (default : Value)) = #[] from Array.eq_empty_of_size_eq_zero (by simp)]
theorem run_buildSlice1 [h : ApT P T E sz bytes] {v : Value} (hv : v.cells.size = sz) (hs : sz ≤ 1000000) : (Instr.buildSlice T 1 #[(0, v)]).run P w = .ok (.slice (some ⟨w.heap.size, 0, none⟩) 1 1) (w.alloc (.cells v.cells E)) := by
  have h := h.eq
  simp only [appT, Bool.and_eq_true] at h
  obtain ⟨hT, h⟩ := h
  cases hi : P.info? E with
  | none => rw [hi] at h; simp at h
  | some i =>
    rw [hi] at h
    simp only [Bool.and_eq_true, beq_iff_eq] at h
    obtain ⟨⟨⟨hsz, hby⟩, hpos⟩, hz⟩ := h
    cases hzz : i.zero with
    | none => rw [hzz] at hz; simp at hz
    | some z =>
      rw [hzz] at hz
      have hzs : z.cells.size = sz := by simpa using hz
      have hpos' : 0 < sz := Nat.le_of_ble_eq_true hpos
      have hfill : Instr.fill (fun i => some (i * sz, sz)) ((Array.range (1 * sz)).map (z.cells[· % z.cells.size]!)) [(0, v)] = some v.cells := by
        simp only [Instr.fill, hv, Nat.zero_mul, Array.size_map, Array.size_range, Nat.one_mul]
        rw [if_neg (by simp)]
        refine congrArg some (Array.ext_getElem? fun q => ?_)
        rw [← Array.foldl_toList, Array.toList_zipIdx, foldl_setAll]
        by_cases hq : q < sz
        · rw [if_pos (by simp [hv, hq])]; simp
        · rw [if_neg (by simp [hv]; omega), Array.getElem?_eq_none (by simp; omega), Array.getElem?_eq_none (by omega)]
      have hsz' : (sizeOf E).run P w = .ok sz w := by simp [sizeOf, typeInfo, hi, hsz]
      have hzero : (zeroValue E).run P w = .ok z w := by simp [zeroValue, typeInfo, hi, hzz]
      simp only [Instr.buildSlice, Sem.run_bind, run_underlying (sliceT_eq hT), Result.andThen_ok, hsz']
      rw [if_neg (by omega), if_neg (by omega)]
      simp only [Sem.run_bind, hzero, Sem.run_pure, Result.andThen_ok, hfill]
      rfl
end
/-! ### owned rows stay -/
theorem Own.chg {w w' : World} {E sz n : Nat} {v : Value} {xs : List Value} {M : Nat → Prop} (h : Own w E sz v n xs) (hc : Chg M w w') (hm : ∀ b, v.ownBlock = some b → ¬ M b) : Own w' E sz v n xs := by
  refine ⟨h.1, ?_⟩
  rcases h.2 with hn | ⟨g, cap, cur, rfl, hb, hg, r⟩
  · exact .inl hn
  · exact .inr ⟨g, cap, cur, rfl, hb, hc.blk hg (hm g rfl), r⟩
theorem Own.ext {w w' : World} {E sz n : Nat} {v : Value} {xs : List Value} (h : Own w E sz v n xs) (hc : Ext w w') : Own w' E sz v n xs := h.chg (hc.chg (fun _ => False)) (fun _ _ => id)
theorem Own.lt {w : World} {E sz n : Nat} {v : Value} {xs : List Value} (h : Own w E sz v n xs) {b : Nat} (hb : v.ownBlock = some b) : b < w.heap.size := (World.ownsRow.lt h b hb).2
theorem Own.nil (w : World) (E sz : Nat) : Own w E sz (.slice none 0 0) 0 [] := World.ownsRow_nil w 0 E sz
theorem Own.shape {w : World} {E sz n : Nat} {v : Value} {xs : List Value} (h : Own w E sz v n xs) : ∃ a cap, v = .slice a n cap := by
  rcases h.2 with ⟨rfl, rfl⟩ | ⟨g, cap, _, rfl, _⟩
  · exact ⟨_, _, rfl⟩
  · exact ⟨_, _, rfl⟩
/-- What is owned reads as a list. -/
theorem Own.cell {w : World} {E sz n : Nat} {v : Value} {xs : List Value} (h : Own w E sz v n xs) {g cap : Nat} (hv : v = .slice (some ⟨g, 0, none⟩) n cap) {j : Nat} {u : Value} (hu : xs[j]? = some u) : w.cell? ⟨g, j, none⟩ = some u := by
  subst hv
  have := h.cells (g := g) rfl j u hu
  rwa [add_at, Nat.zero_add] at this

/-! ### data that lie flat -/
class Flat {α : Type} (E : Kn α) where
  enc : α → List Value
  rep : ∀ w x cs, E.rep w x cs ↔ cs = enc x
  one : ∀ x u, u ∈ enc x → oneCell u = true
theorem Flat.len {α : Type} (E : Kn α) [Flat E] (w : World) (x : α) : (Flat.enc E x).length = E.sz := E.len w x _ ((Flat.rep w x _).2 rfl)
instance : Flat Kn.byte := ⟨fun x => [.int .u8 x.toNat], fun _ _ _ => Iff.rfl, fun x u h => by simp at h; rw [h]; rfl⟩
instance : Flat Kn.int := ⟨fun x => [.int .i64 x], fun _ _ _ => Iff.rfl, fun x u h => by simp at h; rw [h]; rfl⟩
instance : Flat Kn.str := ⟨fun x => [.string x], fun _ _ _ => Iff.rfl, fun x u h => by simp at h; rw [h]; rfl⟩
instance : Flat Kn.ask := ⟨fun x => [.string x.1, .int .i64 x.2], fun _ _ _ => Iff.rfl, fun x u h => by simp at h; rcases h with h | h <;> rw [h] <;> rfl⟩
section
variable {α : Type} {E : Kn α} [Flat E]
def encs (E : Kn α) [Flat E] (xs : List α) : List Value := xs.flatMap (Flat.enc E)
theorem encs_length (E : Kn α) [Flat E] (w : World) (xs : List α) : (encs E xs).length = xs.length * E.sz := by
  induction xs with
  | nil => simp [encs]
  | cons x xs ih => simp only [encs, List.flatMap_cons, List.length_append, List.length_cons] at ih ⊢; rw [ih, Flat.len E w, Nat.add_mul]; omega
theorem encs_append (xs ys : List α) : encs E (xs ++ ys) = encs E xs ++ encs E ys := by simp [encs]
theorem encs_get (w : World) (xs : List α) : ∀ (j : Nat) (u : Value), (encs E xs)[j]? = some u ↔ ∃ i x r, xs[i]? = some x ∧ (Flat.enc E x)[r]? = some u ∧ j = i * E.sz + r := by
  induction xs with
  | nil => intro j u; simp [encs]
  | cons x xs ih =>
    intro j u
    have hl := Flat.len E w x
    simp only [encs, List.flatMap_cons]
    by_cases hj : j < E.sz
    · rw [List.getElem?_append_left (by omega)]
      constructor
      · intro h; exact ⟨0, x, j, rfl, h, by simp⟩
      · rintro ⟨i, y, r, hi, hr, rfl⟩
        cases i with
        | zero => simp at hi; subst hi; simpa using hr
        | succ i =>
          rw [Nat.add_mul] at hj
          omega
    · rw [List.getElem?_append_right (by omega), hl]
      have := ih (j - E.sz) u
      simp only [encs] at this
      rw [this]
      constructor
      · rintro ⟨i, y, r, hi, hr, he⟩
        exact ⟨i + 1, y, r, by simpa using hi, hr, by rw [Nat.add_mul]; omega⟩
      · rintro ⟨i, y, r, hi, hr, rfl⟩
        cases i with
        | zero =>
          have := (List.getElem?_eq_some_iff.1 hr).1
          rw [Flat.len E w] at this
          simp at hj; omega
        | succ i => exact ⟨i, y, r, by simpa using hi, hr, by rw [Nat.add_mul]; omega⟩
theorem encs_one (xs : List α) : ∀ u ∈ encs E xs, oneCell u = true := by
  intro u hu
  simp only [encs, List.mem_flatMap] at hu
  obtain ⟨x, _, hx⟩ := hu
  exact Flat.one x u hx
/-- A list lent at the head of a block. -/
def SlB (E : Kn α) [Flat E] (w : World) (b : Nat) (v : Value) (xs : List α) : Prop :=
  ∃ cap, v = .slice (some ⟨b, 0, none⟩) xs.length cap ∧ xs.length ≤ cap ∧ xs.length ≤ 140737488355328 ∧ ∀ j u, (encs E xs)[j]? = some u → w.cell? ⟨b, j, none⟩ = some u
theorem SlB.sl {w : World} {b : Nat} {v : Value} {xs : List α} (h : SlB E w b v xs) : Sl E w v xs := by
  obtain ⟨cap, hv, h1, h2, hc⟩ := h
  refine ⟨_, cap, hv, ⟨h1, by omega⟩, fun _ => ⟨b, 0, rfl, fun i x hx => ⟨Flat.enc E x, (Flat.rep w x _).2 rfl, fun j u hu => ?_⟩⟩⟩
  rw [Nat.zero_add]
  exact hc _ _ ((encs_get w xs _ _).2 ⟨i, x, j, hx, hu, rfl⟩)
theorem SlB.chg {w w' : World} {b : Nat} {v : Value} {xs : List α} {M : Nat → Prop} (h : SlB E w b v xs) (hc : Chg M w w') (hm : ¬ M b) : SlB E w' b v xs := by
  obtain ⟨cap, hv, h1, h2, hx⟩ := h
  exact ⟨cap, hv, h1, h2, fun j u hu => hc.cell (hx j u hu) hm⟩
end
/-- append of a whole list. -/
theorem appendL_ok {P : Program} {w w0 : World} {T Ety sz bytes R : Nat} {α : Type} {E : Kn α} [Flat E] [h : ApT P T Ety sz bytes] {v s : Value} {n : Nat} {xs : List Value} {ys : List α} {k : Value → World → Prop} (hsz : sz = E.sz) (hown : Own w Ety sz v n xs)
    (hs : Sl E w0 s ys) (he : Ext w0 w) (hn : n + ys.length ≤ 140737488355328) (hb : (n + ys.length) * bytes ≤ 140737488355328)
    (hk : ∀ v' w', Own w' Ety sz v' (n + ys.length) (xs ++ encs E ys) → Chg (fun b => v.ownBlock = some b) w w' → SameOrNew w v v' → (v' = .slice none 0 0 → v = .slice none 0 0) → k v' w') : XV P (Builtin.append_ #[T, T] R #[v, s]) w k := by
  subst hsz
  obtain ⟨a, cap, rfl, _, hx⟩ := hs
  cases a with
  | some a =>
    have hcells : ∀ j u, (encs E ys)[j]? = some u → w.cell? (a.add j) = some u := fun j u hu => by
      obtain ⟨i, x, r, hi, hr, rfl⟩ := (encs_get w ys j u).1 hu
      obtain ⟨b, o, ha, hx'⟩ := hx (by rintro rfl; simp at hi)
      injection ha with ha; subst ha
      obtain ⟨cs, hcs, hc⟩ := hx' i x hi
      rw [(Flat.rep w0 x cs).1 hcs] at hc
      rw [add_at, ← Nat.add_assoc]
      exact he.cell (hc r u hr)
    obtain ⟨v', w', hr, ho, hc, hsn, hnil⟩ := run_append (P := P) (T := T) (R := R) (E := Ety) (sz := E.sz) (bytes := bytes) (c := cap) hown (encs_length E w ys) hcells (encs_one ys) hn hb
    rw [XV_eq hr]
    exact hk v' w' ho hc hsn (fun h => (hnil h).1)
  | none =>
    have hy : ys = [] := by
      rcases ys with _ | ⟨y, ys⟩
      · rfl
      · obtain ⟨b, o, ha, _⟩ := hx (by simp); cases ha
    subst hy
    have hr : (Builtin.append_ #[T, T] R #[v, .slice none 0 cap]).run P w = .ok v w := by
      have h := h.eq
      simp only [appT, Bool.and_eq_true] at h
      obtain ⟨hT, h⟩ := h
      cases hi : P.info? Ety with
      | none => rw [hi] at h; simp at h
      | some i =>
        rcases hown.2 with ⟨rfl, rfl⟩ | ⟨g, c, cur, rfl, _, _, hnc, _⟩
        · simp [Builtin.append_, run_underlying (sliceT_eq hT), sizeOf, typeInfo, hi, Builtin.lenOf, Builtin.firstCells]
        · simp [Builtin.append_, run_underlying (sliceT_eq hT), sizeOf, typeInfo, hi, Builtin.lenOf, Builtin.firstCells, hnc, storeCells]
    have he : encs E ([] : List α) = [] := rfl
    simp only [List.length_nil] at hk ⊢
    rw [XV_eq hr]
    exact hk v w (by rw [he, List.append_nil]; exact hown) (Chg.refl _ _) (.inl rfl) id
end Go.Proofs.YtdgffjkcpbolmaaGreatDoor.Fx
