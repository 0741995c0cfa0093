/-
  '==' of structs whose fields are strings, numbers and bools. No condition.
-/
import Derived.Test.YtdgffjkcpbolmaaGreatDoorFxMem
import Derived.Laws.StructEq
namespace Go.Proofs.YtdgffjkcpbolmaaGreatDoor.Fx
open Go
set_option linter.unusedVariables false
def valEq : Value → Value → Bool
  | .string a, .string b => a.toList == b.toList
  | .int _ a, .int _ b => a == b
  | .bool a, .bool b => a == b
  | _, _ => false
def eqCells : List Value → List Value → Bool
  | a :: r, b :: s => valEq a b && eqCells r s
  | _, _ => true
def kindOK (P : Program) (t : TypeId) (v : Value) : Bool :=
  match P.underlying t, v with
  | some .string, .string _ => true
  | some (.int k), .int k' _ => decide (k = k')
  | some .bool, .bool _ => true
  | _, _ => false
def flatOK (P : Program) : Nat → List Field → List Value → Bool
  | _, [], [] => true
  | i, f :: fs, v :: vs => !(f.name == "_") && Nat.beq f.offset i && kindOK P f.type v && flatOK P (i + 1) fs vs
  | _, _, _ => false
def flatT (P : Program) (T : TypeId) (xs ys : List Value) : Bool :=
  match P.underlying T with
  | some (.struct fs) => flatOK P 0 fs.toList xs && flatOK P 0 fs.toList ys && !P.stoodInHeld T && !P.eqGuardType P.depth T
  | _ => false
theorem part_flat {P : Program} {t : TypeId} {v : Value} {cs : Array Value} {i : Nat} {w : World} (h : kindOK P t v = true) (hc : cs[i]? = some v) : (part t cs i).run P w = .ok v w := by
  unfold kindOK at h
  split at h <;> first | (cases h; done) | (rename_i hu; simp [part, isAgg, run_underlying hu, hc])
theorem equalIn_flat {P : Program} {t : TypeId} {a b : Value} {d : Nat} {w : World} (ha : kindOK P t a = true) (hb : kindOK P t b = true) : (Op.equalIn (d + 1) t a b).run P w = .ok (valEq a b) w := by
  unfold kindOK at ha hb
  cases hu : P.underlying t with
  | none => rw [hu] at ha; cases ha
  | some q =>
    rw [hu] at ha hb
    cases q <;> first | (cases ha; done) | skip
    · cases a <;> first | (cases ha; done) | skip
      cases b <;> first | (cases hb; done) | skip
      exact run_equalIn_bool' w d t _ _ hu
    · cases a <;> first | (cases ha; done) | skip
      cases b <;> first | (cases hb; done) | skip
      simp only [decide_eq_true_eq] at ha hb
      subst ha; subst hb
      exact run_equalIn_int w d t _ _ _ _ hu
    · cases a <;> first | (cases ha; done) | skip
      cases b <;> first | (cases hb; done) | skip
      exact run_equalIn_string w d t _ _ hu
theorem eqFields_flat {P : Program} {d : Nat} {w : World} {xs ys : Array Value} : ∀ (fs : List Field) (i : Nat) (us vs : List Value), flatOK P i fs us = true → flatOK P i fs vs = true →
    (∀ j u, us[j]? = some u → xs[i + j]? = some u) → (∀ j u, vs[j]? = some u → ys[i + j]? = some u) → (Op.eqFields (d + 1) xs ys fs).run P w = .ok (eqCells us vs) w
  | [], i, us, vs, hu, hv, _, _ => by
    cases us <;> cases vs <;> simp [flatOK] at hu hv
    rfl
  | f :: fs, i, us, vs, hu, hv, hx, hy => by
    cases us with
    | nil => simp [flatOK] at hu
    | cons u us =>
      cases vs with
      | nil => simp [flatOK] at hv
      | cons v vs =>
        simp only [flatOK, Bool.and_eq_true] at hu hv
        obtain ⟨⟨⟨hn, ho⟩, hk⟩, hu⟩ := hu
        obtain ⟨⟨_, hk'⟩, hv⟩ := hv
        have hn' : f.name ≠ "_" := by simpa using hn
        have ho' : f.offset = i := Nat.eq_of_beq_eq_true ho
        have ih := eqFields_flat (d := d) (w := w) fs (i + 1) us vs hu hv (fun j u h => by have := hx (j + 1) u h; rwa [show i + 1 + j = i + (j + 1) by omega]) (fun j u h => by have := hy (j + 1) u h; rwa [show i + 1 + j = i + (j + 1) by omega])
        have hx0 : xs[i]? = some u := hx 0 u rfl
        have hy0 : ys[i]? = some v := hy 0 v rfl
        rw [Op.eqFields]
        simp only [if_pos hn', ho', Sem.run_bind, part_flat hk hx0, part_flat hk' hy0, equalIn_flat hk hk', Result.andThen_ok, eqCells]
        cases hq : valEq u v with
        | false => simp
        | true => simpa using ih
theorem run_eqA {P : Program} {T : TypeId} {xs ys : List Value} {d : Nat} {w : World} (h : flatT P T xs ys = true) : (Op.equalIn (d + 2) T (.agg xs.toArray) (.agg ys.toArray)).run P w = .ok (eqCells xs ys) w := by
  unfold flatT at h
  split at h <;> first | (cases h; done) | skip
  rename_i fs hu
  simp only [Bool.and_eq_true, Bool.not_eq_true'] at h
  obtain ⟨⟨⟨h1, h2⟩, h3⟩, h4⟩ := h
  have hf : P.fieldsOf T = fs := by simp [Program.fieldsOf, hu]
  rw [run_equalIn_struct (P := P) w (d + 1) T _ _ (by rw [hf]; exact hu) h3, hf]
  exact eqFields_flat fs.toList 0 xs ys h1 h2 (fun j u h => by simpa using h) (fun j u h => by simpa using h)
theorem eqG_A {P : Program} {T : TypeId} {xs ys : List Value} {c : Bool} {op : BinOp} {w : World} (h : flatT P T xs ys = true) : (eqG op T c (.agg xs.toArray) (.agg ys.toArray)).run P w = .ok () w := by
  unfold flatT at h
  split at h <;> first | (cases h; done) | skip
  simp only [Bool.and_eq_true, Bool.not_eq_true'] at h
  unfold eqG
  cases c <;> exact run_eqGuard_agg w op T _ _ _ _ h.2
section
variable {P : Program} {T : TypeId} {xs ys : List Value} {c : Bool} {w : World}
theorem run_neqA (h : flatT P T xs ys = true) : (binS .neq T c (.agg xs.toArray) (.agg ys.toArray)).run P w = .ok (.bool (!(eqCells xs ys))) w :=
  run_binS (eqG_A h) (by rw [run_neq_struct, run_eqA (d := 9998) h]; rfl)
theorem run_eqlA (h : flatT P T xs ys = true) : (binS .eql T c (.agg xs.toArray) (.agg ys.toArray)).run P w = .ok (.bool (eqCells xs ys)) w :=
  run_binS (eqG_A h) (by rw [run_eql_struct, run_eqA (d := 9998) h]; rfl)
theorem x_neqA {k : Value → World → Prop} (h : flatT P T xs ys = true) (hk : k (.bool (!(eqCells xs ys))) w) : XV P (binS .neq T c (.agg xs.toArray) (.agg ys.toArray)) w k := by rw [XV_eq (run_neqA h)]; exact hk
theorem x_eqlA {k : Value → World → Prop} (h : flatT P T xs ys = true) (hk : k (.bool (eqCells xs ys)) w) : XV P (binS .eql T c (.agg xs.toArray) (.agg ys.toArray)) w k := by rw [XV_eq (run_eqlA h)]; exact hk
theorem s_neqA {S : World → Prop} {k : Value → Prop} (h : flatT P T xs ys = true) (hk : k (.bool (!(eqCells xs ys)))) : XS P S (binS .neq T c (.agg xs.toArray) (.agg ys.toArray)) k := XS_of (fun u => run_neqA h) hk
theorem s_eqlA {S : World → Prop} {k : Value → Prop} (h : flatT P T xs ys = true) (hk : k (.bool (eqCells xs ys))) : XS P S (binS .eql T c (.agg xs.toArray) (.agg ys.toArray)) k := XS_of (fun u => run_eqlA h) hk
end
end Go.Proofs.YtdgffjkcpbolmaaGreatDoor.Fx
