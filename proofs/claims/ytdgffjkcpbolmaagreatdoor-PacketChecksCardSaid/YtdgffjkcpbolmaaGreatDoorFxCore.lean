/-
  A reader of code as a predicate transformer over named slots: the body of a Go function, run from known slots, as a plain proposition that no frame stands in; and the proof that the machine does what that proposition says. No condition.
-/
import Derived.Tactics
import Derived.Orders
import Derived.Laws.Sem
import Derived.KernelRfl
import Derived.RowKit
namespace Go.Proofs.YtdgffjkcpbolmaaGreatDoor.Fx
open Go

/-! ### what is known of the slots -/
abbrev Env := List (Nat × Option Value)
def find : Env → Nat → Option (Option Value)
  | [], _ => none
  | (t, v) :: r, u => match Nat.beq t u with
    | true => some v
    | false => find r u
def get (e : Env) (t : Nat) : Option Value :=
  match find e t with
  | some (some v) => some v
  | _ => none
def ev (e : Env) : Operand → Option Value
  | .tmp t => get e t
  | .const v => some v
  | .global g => some (.pointer (some ⟨g, 0, none⟩))
  | .func f => some (.func (.func f) #[] #[])
def E1 (e : Env) (x : Operand) (k : Value → Prop) : Prop :=
  match ev e x with
  | some v => k v
  | none => False
def EO (e : Env) (x : Option Operand) (k : Option Value → Prop) : Prop :=
  match x with
  | none => k none
  | some x => E1 e x fun v => k (some v)
def EL (e : Env) : List Operand → (List Value → Prop) → Prop
  | [], k => k []
  | x :: r, k => E1 e x fun v => EL e r fun vs => k (v :: vs)
def EP (e : Env) : List (Nat × Operand) → (List (Nat × Value) → Prop) → Prop
  | [], k => k []
  | (i, x) :: r, k => E1 e x fun v => EP e r fun vs => k ((i, v) :: vs)

structure Rel (n : Nat) (e : Env) (a : Act) : Prop where
  size : a.tmps.size = n
  defers : a.defers = []
  slot : ∀ t o, find e t = some o → t < n ∧ a.tmps[t]? = some (o.getD undef)

theorem get_find {e : Env} {t : Nat} {v : Value} (h : get e t = some v) : find e t = some (some v) := by
  unfold get at h
  split at h <;> simp_all

theorem Rel.ev {n : Nat} {e : Env} {a : Act} (r : Rel n e a) {x : Operand} {v : Value} (h : ev e x = some v) : a.eval x = v := by
  cases x with
  | tmp t =>
    have := (r.slot t _ (get_find h)).2
    simp [Act.eval, Array.getD_eq_getD_getElem?, this]
  | _ => simpa [Fx.ev, Act.eval] using h

theorem E1.elim {e : Env} {x : Operand} {k : Value → Prop} (h : E1 e x k) : ∃ v, ev e x = some v ∧ k v := by
  unfold E1 at h
  split at h
  · exact ⟨_, by assumption, h⟩
  · exact h.elim
theorem E1.rel {n : Nat} {e : Env} {a : Act} (r : Rel n e a) {x : Operand} {k : Value → Prop} (h : E1 e x k) : k (a.eval x) := by
  obtain ⟨v, h1, h2⟩ := h.elim
  rw [r.ev h1]; exact h2
theorem EO.rel {n : Nat} {e : Env} {a : Act} (r : Rel n e a) {x : Option Operand} {k : Option Value → Prop} (h : EO e x k) : k (x.map a.eval) := by
  cases x with
  | none => exact h
  | some x => exact E1.rel r h
theorem EL.rel {n : Nat} {e : Env} {a : Act} (r : Rel n e a) : ∀ {l : List Operand} {k : List Value → Prop}, EL e l k → k (l.map a.eval)
  | [], _, h => h
  | x :: l, k, h => EL.rel r (l := l) (k := fun vs => k (a.eval x :: vs)) (E1.rel r (k := fun v => EL e l fun vs => k (v :: vs)) h)
theorem EP.rel {n : Nat} {e : Env} {a : Act} (r : Rel n e a) : ∀ {l : List (Nat × Operand)} {k : List (Nat × Value) → Prop}, EP e l k → k (l.map fun (i, x) => (i, a.eval x))
  | [], _, h => h
  | (i, x) :: l, k, h => EP.rel r (l := l) (k := fun vs => k ((i, a.eval x) :: vs)) (E1.rel r (k := fun v => EP e l fun vs => k ((i, v) :: vs)) h)

/-! ### operations -/
def ret1 (k : Value → World → Prop) : Ending → World → Prop
  | .returned v, w => k v w
  | _, _ => False
def XV (P : Program) (s : Sem Value) (w : World) (k : Value → World → Prop) : Prop :=
  match s.run P w with
  | .ok v w' => k v w'
  | .halt _ _ => False
def XU (P : Program) (s : Sem Unit) (w : World) (k : World → Prop) : Prop :=
  match s.run P w with
  | .ok _ w' => k w'
  | .halt _ _ => False
def XN (P : Program) (s : Sem Next) (w : World) (k : Value → World → Prop) : Prop :=
  match s.run P w with
  | .ok (.value v) w' => k v w'
  | .ok .skip w' => k undef w'
  | .ok (.enter f args) w' => Calls P f args w' (ret1 k)
  | .ok (.row row args) w' => Rows P row args w' k
  | _ => False
def enters (P : Program) (f : FuncId) : Bool :=
  match P.funcs[f]? with
  | some fn => fn.body.isSome && !(fn.name == "runtime.NumGoroutine")
  | none => false
def CallF (P : Program) (f : FuncId) (args : Array Value) (w : World) (k : Value → World → Prop) : Prop :=
  enters P f = true ∧ Calls P f args w (ret1 k)
def nilS (v : Value) : Sem Next :=
  match v with
  | .pointer none | .nilIface | .nilFunc => runtimePanic .nilDeref
  | .func (.method name) first captured =>
    match (first[0]? : Option Value) with
    | some .nilIface => runtimePanic .nilDeref
    | some (.iface t w) => do
      if (← nilAhead ((← program).types.size + Made.depth) t w name) != some false then
        unsupported (.noEntry "op/nilCheck.the method's receiver behind this interface value is a nil pointer, or cannot be seen to be none, and the arguments act or may panic (ledger 612)")
      pure (.value (.func (.method name) first captured))
    | _ => pure (.value (.func (.method name) first captured))
  | x => pure (.value x)
def isC : Operand → Bool
  | .const _ => true
  | _ => false
def eqG (op : BinOp) (t : TypeId) (c : Bool) (a b : Value) : Sem Unit := eqGuard op t (match c with | true => .const undef | false => .tmp 0) (.tmp 0) a b
theorem eqG_eq (op : BinOp) (t : TypeId) (x y : Operand) (a b : Value) : eqGuard op t x y a b = eqG op t (isC x || isC y) a b := by
  unfold eqG eqGuard
  cases x <;> cases y <;> rfl
def binS (op : BinOp) (t : TypeId) (c : Bool) (a b : Value) : Sem Value := do eqG op t c a b; binOp op t a b
def condW (v : Value) (A B : Prop) : Prop :=
  match v with
  | .bool true => A
  | .bool false => B
  | _ => False
def pickW (v : Value) (A B : Prop) : Prop := condW v A B
def callF (vf : Value) (args : Array Value) : Sem Next := do let d ← Deferred.ofValue vf args; invoke d.target d.args

/-- A field of what a pointer leads to, read; written; an element, read. -/
def LF (P : Program) (S T f : Nat) (v : Value) (w : World) (k : Value → World → Prop) : Prop :=
  XN P (nilS v) w fun a w => XV P (Instr.fieldAt S a f) w fun b w => XV P (Instr.loadAt T b) w k
def SF (P : Program) (S T f : Nat) (v x : Value) (w : World) (k : World → Prop) : Prop :=
  XN P (nilS v) w fun a w => XV P (Instr.fieldAt S a f) w fun b w => XU P (Instr.storeAt T b x) w k
def LB (P : Program) (S T f : Nat) (v : Value) (w : World) (k : Value → World → Prop) : Prop :=
  XV P (Instr.fieldAt S v f) w fun b w => XV P (Instr.loadAt T b) w k
def SB (P : Program) (S T f : Nat) (v x : Value) (w : World) (k : World → Prop) : Prop :=
  XV P (Instr.fieldAt S v f) w fun b w => XU P (Instr.storeAt T b x) w k
def LI (P : Program) (A T : Nat) (v i : Value) (w : World) (k : Value → World → Prop) : Prop :=
  XV P (Instr.indexAt A v i) w fun b w => XV P (Instr.loadAt T b) w k

def opW (P : Program) (e : Env) (o : Oper) (w : World) (k : Value → World → Prop) : Prop :=
  match o.op with
  | .move x | .assign x => E1 e x fun v => k v w
  | .pick c a b => E1 e c fun vc => pickW vc (E1 e a fun v => k v w) (E1 e b fun v => k v w)
  | .alloc t => XV P (Instr.alloc t true (.tuple #[])) w k
  | .box t x => E1 e x fun v => XV P (Instr.box t v) w k
  | .build t ps => EP e ps.toList fun l => XV P (Instr.build t l.toArray) w k
  | .buildSlice t n ps => EP e ps.toList fun l => XV P (Instr.buildSlice t n l.toArray) w k
  | .load t a => E1 e a fun v => XV P (Instr.loadAt t v) w k
  | .store t a x => E1 e a fun va => E1 e x fun vx => XU P (Instr.storeAt t va vx) w fun w' => k undef w'
  | .nilCheck x => E1 e x fun v => XN P (nilS v) w k
  | .binOp op t x y _ => E1 e x fun vx => E1 e y fun vy => XV P (binS op t (isC x || isC y) vx vy) w k
  | .unOp op _ x => E1 e x fun v => XV P (Op.unary op v) w k
  | .convert s d x => E1 e x fun v => XV P (convert s d v) w k
  | .makeInterface t x => E1 e x fun v => XV P (Instr.makeInterface t v) w k
  | .makeFunc fn f c => EL e f.toList fun fs => EL e c.toList fun cs => XV P (Instr.makeFunc fn fs.toArray cs.toArray) w k
  | .makeMap t r => EO e r fun v => XV P (Instr.makeMap t v) w k
  | .makeSlice t l c => E1 e l fun vl => E1 e c fun vc => XV P (Instr.makeSlice t vl vc) w k
  | .slice t x lo hi mx => E1 e x fun v => EO e lo fun l => EO e hi fun h => EO e mx fun m => XV P (Instr.sliceAt t v l h m) w k
  | .fieldAddr s x f => E1 e x fun v => XV P (Instr.fieldAt s v f) w k
  | .field s x f => E1 e x fun v => XV P (Instr.field s v f) w k
  | .indexAddr t x i => E1 e x fun v => E1 e i fun vi => XV P (Instr.indexAt t v vi) w k
  | .index t x i => E1 e x fun v => E1 e i fun vi => XV P (Instr.index t v vi) w k
  | .lookup t x i ok => E1 e x fun v => E1 e i fun vi => XV P (Instr.lookup t v vi ok) w k
  | .mapUpdate t m x y | .insert t m x y => E1 e m fun vm => E1 e x fun vx => E1 e y fun vy => XU P (Instr.mapUpdate t vm vx vy) w fun w' => k undef w'
  | .mapEntry t m x => E1 e m fun vm => E1 e x fun vx => XV P (Instr.mapEntry t vm vx) w k
  | .entryStore t m s x => E1 e m fun vm => E1 e s fun vs => E1 e x fun vx => XU P (Instr.entryStore t vm vs vx) w fun w' => k undef w'
  | .range t x => E1 e x fun v => XV P (Instr.range t v) w k
  | .next i s => E1 e i fun v => XV P (Instr.next v s o.type) w k
  | .entry i => E1 e i fun v => XV P (Instr.entry v) w k
  | .typeAssert x t as ok => E1 e x fun v => XV P (Instr.typeAssert v t as ok) w k
  | .extract x i => E1 e x fun v => XV P (Instr.extract v i) w k
  | .call c =>
    match c.callee with
    | .builtin .append => EL e c.args.toList fun vs => XV P (Builtin.append_ c.argTypes o.type vs.toArray) w k
    | .builtin .len => EL e c.args.toList fun vs => XV P (Builtin.len_ c.argTypes o.type vs.toArray) w k
    | .builtin b => EL e c.args.toList fun vs => XN P (builtin b c.argTypes o.type (c.args.map fun | .const _ => true | _ => false) vs.toArray) w k
    | .value (.func f) => EL e c.args.toList fun vs => CallF P f vs.toArray w k
    | .value x => E1 e x fun vf => EL e c.args.toList fun vs => XN P (callF vf vs.toArray) w k
    | .invoke r name => E1 e r fun vr => EL e c.args.toList fun vs => XN P (invoke (.fn (.method name) #[]) (#[vr] ++ vs.toArray)) w k
  | _ => False

section
variable {P : Program} {o : Oper} {a : Act} {next : Act → World → Prop} {Q : Exit → Act → World → Prop} {w : World} {k : Value → World → Prop}
theorem upon_value {s : Sem Value} (h : XV P s w k) (hk : ∀ v w', k v w' → next (a.put o.dst v) w') : o.upon P a next Q ((do pure (.value (← s)) : Sem Next).run P w) := by
  unfold XV at h
  simp only [Sem.run_bind]
  cases hr : s.run P w with
  | ok v w' => rw [hr] at h; simp only [Oper.upon]; exact hk _ _ h
  | halt x w' => rw [hr] at h; exact h.elim
theorem upon_unit {s : Sem Unit} {k : World → Prop} (h : XU P s w k) (hk : ∀ w', k w' → next (a.put o.dst undef) w') : o.upon P a next Q ((do s; pure .skip : Sem Next).run P w) := by
  unfold XU at h
  simp only [Sem.run_bind]
  cases hr : s.run P w with
  | ok v w' => rw [hr] at h; simp only [Oper.upon]; exact hk _ h
  | halt x w' => rw [hr] at h; exact h.elim
theorem upon_next {s : Sem Next} (h : XN P s w k) (hk : ∀ v w', k v w' → next (a.put o.dst v) w') : o.upon P a next Q (s.run P w) := by
  unfold XN at h
  cases hr : s.run P w with
  | ok v w' =>
    rw [hr] at h
    cases v <;> simp only [Oper.upon] at h ⊢ <;> first | exact hk _ _ h | exact h.elim | skip
    · exact h.mono fun e w'' he => by cases e <;> first | exact hk _ _ he | exact he.elim
    · exact h.mono fun v w'' he => hk _ _ he
  | halt x w' => rw [hr] at h; exact h.elim
end

section
variable {P : Program}
theorem toList_map {α β : Type} (l : Array α) (f : α → β) : (l.toList.map f).toArray = l.map f := by
  rw [← Array.toList_map, Array.toArray_toList]
theorem callFunc_enters {f : FuncId} (h : enters P f = true) (args : Array Value) (w : World) : (callFunc f args).run P w = .ok (.enter f args) w := by
  unfold enters at h
  cases hf : P.funcs[f]? with
  | none => simp [hf] at h
  | some fn =>
    simp only [hf, Bool.and_eq_true, Bool.not_eq_true'] at h
    obtain ⟨hb, hn⟩ := h
    cases hbody : fn.body with
    | none => simp [hbody] at hb
    | some c =>
      have hn' : ¬ fn.name = "runtime.NumGoroutine" := by simpa using hn
      simp [callFunc, program, Sem.run, hf, hn', hbody, bind, Sem.bind, pure]

theorem opW_sound {n : Nat} {e : Env} {o : Oper} {a : Act} {w : World} {k : Value → World → Prop} {next : Act → World → Prop} {Q : Exit → Act → World → Prop}
    (r : Rel n e a) (h : opW P e o w k) (hk : ∀ v w', k v w' → next (a.put o.dst v) w') : o.wp P a w next Q := by
  unfold Oper.wp
  obtain ⟨dst, op, type, pos, after, guard⟩ := o
  cases op <;> simp only [opW] at h <;> simp only [execOp]
  case move x => exact hk _ _ (E1.rel r h)
  case assign x => exact hk _ _ (E1.rel r h)
  case pick c x y =>
    have h := E1.rel r h
    simp only [pickW, condW] at h
    split at h
    · rename_i hc; simp only [hc, asBool]; exact hk _ _ (E1.rel r h)
    · rename_i hc; simp only [hc, asBool]; exact hk _ _ (E1.rel r h)
    · exact h.elim
  case alloc t => exact upon_value h hk
  case box t x => exact upon_value (E1.rel r h) hk
  case build t ps => exact upon_value (by have h := EP.rel r h; rw [toList_map] at h; exact h) hk
  case buildSlice t m ps => exact upon_value (by have h := EP.rel r h; rw [toList_map] at h; exact h) hk
  case load t x => exact upon_value (E1.rel r h) hk
  case store t x y => exact upon_unit (k := fun w' => k undef w') (E1.rel r (E1.rel r h)) (fun w' h => hk _ _ h)
  case nilCheck x =>
    have h := E1.rel r h
    exact upon_next h hk
  case binOp op t x y yt =>
    have h := E1.rel r (E1.rel r h)
    simp only [eqG_eq]
    exact upon_value h hk
  case unOp op t x => exact upon_value (E1.rel r h) hk
  case convert s d x => exact upon_value (E1.rel r h) hk
  case makeInterface t x => exact upon_value (E1.rel r h) hk
  case makeFunc fn f c => exact upon_value (by have h := EL.rel r (EL.rel r h); rw [toList_map, toList_map] at h; exact h) hk
  case makeMap t x => exact upon_value (EO.rel r h) hk
  case makeSlice t x y => exact upon_value (E1.rel r (E1.rel r h)) hk
  case slice t x lo hi mx => exact upon_value (EO.rel r (EO.rel r (EO.rel r (E1.rel r h)))) hk
  case fieldAddr s x f => exact upon_value (E1.rel r h) hk
  case field s x f => exact upon_value (E1.rel r h) hk
  case indexAddr t x y => exact upon_value (E1.rel r (E1.rel r h)) hk
  case index t x y => exact upon_value (E1.rel r (E1.rel r h)) hk
  case lookup t x y ok => exact upon_value (E1.rel r (E1.rel r h)) hk
  case mapUpdate t m x y => exact upon_unit (k := fun w' => k undef w') (E1.rel r (E1.rel r (E1.rel r h))) (fun w' h => hk _ _ h)
  case insert t m x y => exact upon_unit (k := fun w' => k undef w') (E1.rel r (E1.rel r (E1.rel r h))) (fun w' h => hk _ _ h)
  case mapEntry t m x => exact upon_value (E1.rel r (E1.rel r h)) hk
  case entryStore t m x y => exact upon_unit (k := fun w' => k undef w') (E1.rel r (E1.rel r (E1.rel r h))) (fun w' h => hk _ _ h)
  case range t x => exact upon_value (E1.rel r h) hk
  case next i s => exact upon_value (E1.rel r h) hk
  case entry i => exact upon_value (E1.rel r h) hk
  case typeAssert x t as ok => exact upon_value (E1.rel r h) hk
  case extract x i => exact upon_value (E1.rel r h) hk
  case call c =>
    obtain ⟨callee, args, argTypes⟩ := c
    have hargs : (args.toList.map a.eval).toArray = args.map a.eval := toList_map _ _
    cases callee with
    | builtin b =>
      have hB : ∀ {s : Sem Next}, resolve a.eval ⟨.builtin b, args, argTypes⟩ type = pure { target := .builtin b argTypes type (args.map fun | .const _ => true | _ => false), args := args.map a.eval } := rfl
      rw [hB (s := pure .skip)]
      have hI : (do let d ← (pure { target := .builtin b argTypes type (args.map fun | .const _ => true | _ => false), args := args.map a.eval } : Sem Deferred); invoke d.target d.args : Sem Next) = builtin b argTypes type (args.map fun | .const _ => true | _ => false) (args.map a.eval) := rfl
      rw [hI]
      cases b <;> (have h := EL.rel r h; rw [hargs] at h)
      case append => exact upon_value h hk
      case len => exact upon_value h hk
      all_goals exact upon_next h hk
    | invoke rv name =>
      have h := EL.rel r (E1.rel r h)
      rw [hargs] at h
      exact upon_next h hk
    | value f =>
      have hV : ∀ {f : Operand} {args : Array Operand}, (do let d ← resolve a.eval ⟨.value f, args, argTypes⟩ type; invoke d.target d.args : Sem Next) = callF (a.eval f) (args.map a.eval) := rfl
      rw [hV]
      cases f with
      | func f =>
        have h := EL.rel r h
        rw [hargs] at h
        obtain ⟨hf, hc⟩ := h
        have hrun : (callF (a.eval (.func f)) (args.map a.eval)).run P w = .ok (.enter f (args.map a.eval)) w := by
          have : callF (a.eval (.func f)) (args.map a.eval) = callFunc f ((#[] ++ args.map a.eval) ++ #[]) := rfl
          rw [this, callFunc_enters hf]
          simp
        rw [hrun]
        simp only [Oper.upon]
        exact hc.mono fun e w'' he => by cases e <;> first | exact hk _ _ he | exact he.elim
      | tmp t => have h := EL.rel r (E1.rel r h); rw [hargs] at h; exact upon_next h hk
      | const v => have h := EL.rel r (E1.rel r h); rw [hargs] at h; exact upon_next h hk
      | global g => have h := EL.rel r (E1.rel r h); rw [hargs] at h; exact upon_next h hk
  all_goals exact h.elim
end
end Go.Proofs.YtdgffjkcpbolmaaGreatDoor.Fx
