/-
  The reader of code, second part: regions in the order of the text, branches, blocks, loops, and starting points within a body. No condition.
-/
import Derived.Test.YtdgffjkcpbolmaaGreatDoorFxCore
namespace Go.Proofs.YtdgffjkcpbolmaaGreatDoor.Fx
open Go

/-! ### a region in the order of its text -/
def putW (n : Nat) (e : Env) (dst : Option Tmp) (v : Option Value) (k : Env → Prop) : Prop :=
  match dst with
  | none => k e
  | some t => match Nat.blt t n with
    | true => k ((t, v) :: e)
    | false => False
def gdB : Bool → Bool → Prop → Prop → Prop
  | true, true, A, _ => A
  | false, false, A, _ => A
  | true, false, _, B => B
  | false, true, _, B => B
def gd (v : Value) (want : Bool) (A B : Prop) : Prop :=
  match v with
  | .bool b => gdB b want A B
  | _ => False
def guardW (e : Env) (t : Nat) (want : Bool) (A B : Env → Prop) : Prop :=
  match find e t with
  | some (some v) => gd v want (A ((t, some (.bool want)) :: e)) (B ((t, some (.bool (!want))) :: e))
  | some none => B e
  | none => False
def opsW (P : Program) (n : Nat) (all : Array Oper) : List Oper → Env → World → (Env → World → Prop) → Prop
  | [], e, w, k => k e w
  | o :: rest, e, w, k =>
    match o.guard with
    | none => opW P e o w fun v w' => putW n e o.dst (some v) fun e' => opsW P n all rest e' w' k
    | some (j, want) =>
      match (all[j]?).bind (·.dst) with
      | none => False
      | some t => guardW e t want (fun e => opW P e o w fun v w' => putW n e o.dst (some v) fun e' => opsW P n all rest e' w' k)
          (fun e => putW n e o.dst none fun e' => opsW P n all rest e' w k)

theorem find_cons_eq {t : Nat} {v : Option Value} {e : Env} : find ((t, v) :: e) t = some v := by simp [find]
theorem find_cons_ne {t u : Nat} {v : Option Value} {e : Env} (h : t ≠ u) : find ((t, v) :: e) u = find e u := by
  have : Nat.beq t u = false := by
    cases hb : Nat.beq t u with
    | true => exact absurd (Nat.eq_of_beq_eq_true hb) h
    | false => rfl
  simp [find, this]

theorem Rel.cons {n : Nat} {e : Env} {a : Act} (r : Rel n e a) {t : Nat} {v : Option Value} (ht : t < n) (hv : a.tmps[t]? = some (v.getD undef)) : Rel n ((t, v) :: e) a :=
  ⟨r.size, r.defers, fun u o hu => by
    by_cases h : t = u
    · subst h
      rw [find_cons_eq] at hu
      obtain rfl := Option.some.inj hu
      exact ⟨ht, hv⟩
    · rw [find_cons_ne h] at hu
      exact r.slot u o hu⟩

theorem Rel.put {n : Nat} {e : Env} {a : Act} (r : Rel n e a) {dst : Option Tmp} {v : Option Value} {k : Env → Prop} (h : putW n e dst v k) :
    ∃ e', Rel n e' (a.put dst (v.getD undef)) ∧ k e' := by
  cases dst with
  | none => exact ⟨e, r, h⟩
  | some t =>
    simp only [putW] at h
    cases hb : Nat.blt t n with
    | false => rw [hb] at h; exact h.elim
    | true =>
      rw [hb] at h
      have ht : t < n := Nat.le_of_ble_eq_true hb
      refine ⟨_, ⟨?_, ?_, ?_⟩, h⟩
      · simp [Act.put, r.size]
      · simp [Act.put, r.defers]
      · intro u o hu
        by_cases htu : t = u
        · subst htu
          rw [find_cons_eq] at hu
          obtain rfl := Option.some.inj hu
          exact ⟨ht, by simp [Act.put, r.size, ht]⟩
        · rw [find_cons_ne htu] at hu
          obtain ⟨h1, h2⟩ := r.slot u o hu
          exact ⟨h1, by simp [Act.put, Array.getElem?_setIfInBounds_ne htu, h2]⟩

theorem guard_split {n : Nat} {e : Env} {a : Act} (r : Rel n e a) {all : Array Oper} {j : Nat} {t : Nat} {want : Bool} {A B : Env → Prop}
    (ht : (all[j]?).bind (·.dst) = some t) (h : guardW e t want A B) :
    (yielded all a.tmps j == some want) = true ∧ (∃ e', Rel n e' a ∧ A e') ∨ (yielded all a.tmps j == some want) = false ∧ (∃ e', Rel n e' a ∧ B e') := by
  unfold guardW at h
  cases hf : find e t with
  | none => rw [hf] at h; exact h.elim
  | some o =>
    obtain ⟨htn, hs⟩ := r.slot t o hf
    cases o with
    | none =>
      rw [hf] at h
      refine .inr ⟨?_, e, r, h⟩
      simp only [Option.getD_none] at hs
      simp [yielded, ht, hs, undef]
    | some v =>
      rw [hf] at h
      simp only [Option.getD_some] at hs
      cases v <;> simp only [gd] at h <;> try exact h.elim
      rename_i b
      have hy : yielded all a.tmps j = some b := by simp [yielded, ht, hs]
      rw [hy]
      cases b <;> cases want <;> simp only [gdB] at h
      · exact .inl ⟨rfl, _, r.cons (v := some (.bool false)) htn hs, h⟩
      · exact .inr ⟨rfl, _, r.cons (v := some (.bool false)) htn hs, h⟩
      · exact .inr ⟨rfl, _, r.cons (v := some (.bool true)) htn hs, h⟩
      · exact .inl ⟨rfl, _, r.cons (v := some (.bool true)) htn hs, h⟩

section
variable {P : Program} {n : Nat}
theorem opsW_sound {all : Array Oper} {Q : Exit → Act → World → Prop} {k : Env → World → Prop} (hk : ∀ e a w, Rel n e a → k e w → Q .normal a w) :
    ∀ (l : List Oper) (e : Env) (a : Act) (w : World), Rel n e a → opsW P n all l e w k → wpList P all Q l a w
  | [], e, a, w, r, h => hk e a w r h
  | o :: rest, e, a, w, r, h => by
    unfold opsW at h
    unfold wpList
    have go : ∀ e, Rel n e a → (opW P e o w fun v w' => putW n e o.dst (some v) fun e' => opsW P n all rest e' w' k) → o.wp P a w (wpList P all Q rest) Q := fun e r h =>
      opW_sound r h fun v w' h => by
        obtain ⟨e', r', h'⟩ := r.put h
        exact opsW_sound hk rest e' _ w' r' h'
    cases hg : o.guard with
    | none =>
      rw [hg] at h
      rw [if_pos (by simp [Region.wanted, hg])]
      exact .inl (go e r h)
    | some gw =>
      obtain ⟨j, want⟩ := gw
      rw [hg] at h
      simp only at h
      cases ht : (all[j]?).bind (·.dst) with
      | none => rw [ht] at h; exact h.elim
      | some t =>
        rw [ht] at h
        rcases guard_split r ht h with ⟨hy, e', r', h'⟩ | ⟨hy, e', r', h'⟩
        · rw [if_pos (by simpa [Region.wanted, hg] using hy)]
          exact .inl (go e' r' h')
        · rw [if_neg (by simpa [Region.wanted, hg] using hy)]
          obtain ⟨e'', r'', h''⟩ := r'.put h'
          exact opsW_sound hk rest e'' _ w r'' h''
end
end Go.Proofs.YtdgffjkcpbolmaaGreatDoor.Fx
