/-
  The reader of code, fourth part: whole bodies, read from any starting point to any cut; loops; and from a body to the call. No condition.
-/
import Derived.Scope
import Derived.Test.YtdgffjkcpbolmaaGreatDoorFxDraw
import Derived.Laws.World
import Derived.LoopN
namespace Go.Proofs.YtdgffjkcpbolmaaGreatDoor.Fx
open Go Go.RowKit

/-! ### a region whose order is open, over slots -/
def XS (P : Program) (S : World → Prop) (s : Sem Value) (k : Value → Prop) : Prop := ∃ v, (∀ u, S u → s.run P u = .ok v u) ∧ k v
def XSN (P : Program) (S : World → Prop) (s : Sem Next) (k : Value → Prop) : Prop := ∃ v, (∀ u, S u → s.run P u = .ok (.value v) u) ∧ k v
def LFS (P : Program) (S : World → Prop) (St T f : Nat) (v : Value) (k : Value → Prop) : Prop :=
  XSN P S (nilS v) fun a => XS P S (Instr.fieldAt St a f) fun b => XS P S (Instr.loadAt T b) k
def LBS (P : Program) (S : World → Prop) (St T f : Nat) (v : Value) (k : Value → Prop) : Prop :=
  XS P S (Instr.fieldAt St v f) fun b => XS P S (Instr.loadAt T b) k
def LIS (P : Program) (S : World → Prop) (A T : Nat) (v i : Value) (k : Value → Prop) : Prop :=
  XS P S (Instr.indexAt A v i) fun b => XS P S (Instr.loadAt T b) k
def stillW (P : Program) (S : World → Prop) (e : Env) (o : Oper) (k : Value → Prop) : Prop :=
  match o.op with
  | .move x | .assign x => E1 e x k
  | .pick c a b => E1 e c fun vc => pickW vc (E1 e a k) (E1 e b k)
  | .load t a => E1 e a fun v => XS P S (Instr.loadAt t v) k
  | .nilCheck x => E1 e x fun v => XSN P S (nilS v) k
  | .binOp op t x y _ => E1 e x fun vx => E1 e y fun vy => XS P S (binS op t (isC x || isC y) vx vy) k
  | .unOp op _ x => E1 e x fun v => XS P S (Op.unary op v) k
  | .convert s d x => E1 e x fun v => XS P S (convert s d v) k
  | .makeInterface t x => E1 e x fun v => XS P S (Instr.makeInterface t v) k
  | .slice t x lo hi mx => E1 e x fun v => EO e lo fun l => EO e hi fun h => EO e mx fun m => XS P S (Instr.sliceAt t v l h m) k
  | .fieldAddr s x f => E1 e x fun v => XS P S (Instr.fieldAt s v f) k
  | .field s x f => E1 e x fun v => XS P S (Instr.field s v f) k
  | .indexAddr t x i => E1 e x fun v => E1 e i fun vi => XS P S (Instr.indexAt t v vi) k
  | .index t x i => E1 e x fun v => E1 e i fun vi => XS P S (Instr.index t v vi) k
  | .lookup t x i ok => E1 e x fun v => E1 e i fun vi => XS P S (Instr.lookup t v vi ok) k
  | .typeAssert x t as ok => E1 e x fun v => XS P S (Instr.typeAssert v t as ok) k
  | .extract x i => E1 e x fun v => XS P S (Instr.extract v i) k
  | .build t ps => EP e ps.toList fun l => XS P S (Instr.build t l.toArray) k
  | .makeFunc fn f c => EL e f.toList fun fs => EL e c.toList fun cs => XS P S (Instr.makeFunc fn fs.toArray cs.toArray) k
  | .call c =>
    match c.callee with
    | .builtin .len => EL e c.args.toList fun vs => XS P S (Builtin.len_ c.argTypes o.type vs.toArray) k
    | .builtin .cap => EL e c.args.toList fun vs => XS P S (Builtin.cap_ c.argTypes o.type vs.toArray) k
    | _ => False
  | _ => False

section
variable {P : Program} {S : World → Prop} {n : Nat}
theorem XS.run {s : Sem Value} {k : Value → Prop} (h : XS P S s k) : ∃ v, (∀ u, S u → (do pure (.value (← s)) : Sem Next).run P u = .ok (.value v) u) ∧ k v := by
  obtain ⟨v, h1, h2⟩ := h
  exact ⟨v, fun u hu => by simp only [Sem.run_bind, h1 u hu]; rfl, h2⟩
theorem stillW_sound {e : Env} {o : Oper} {a : Act} {k : Value → Prop} (r : Rel n e a) (h : stillW P S e o k) :
    ∃ v, (∀ u, S u → (execOp a.eval o).run P u = .ok (.value v) u) ∧ k v := by
  obtain ⟨dst, op, type, pos, after, guard⟩ := o
  cases op <;> simp only [stillW] at h <;> simp only [execOp]
  case move x => exact ⟨_, fun u _ => rfl, E1.rel r h⟩
  case assign x => exact ⟨_, fun u _ => rfl, E1.rel r h⟩
  case pick c x y =>
    have h := E1.rel r h
    simp only [pickW, condW] at h
    split at h
    · rename_i hc; exact ⟨_, fun u _ => by simp only [hc, asBool]; rfl, E1.rel r h⟩
    · rename_i hc; exact ⟨_, fun u _ => by simp only [hc, asBool]; rfl, E1.rel r h⟩
    · exact h.elim
  case load t x => exact (E1.rel r h).run
  case nilCheck x => exact E1.rel r h
  case binOp op t x y yt =>
    have h := E1.rel r (E1.rel r h)
    simp only [eqG_eq]
    exact h.run
  case unOp op t x => exact (E1.rel r h).run
  case convert s d x => exact (E1.rel r h).run
  case makeInterface t x => exact (E1.rel r h).run
  case slice t x lo hi mx => exact (EO.rel r (EO.rel r (EO.rel r (E1.rel r h)))).run
  case fieldAddr s x f => exact (E1.rel r h).run
  case field s x f => exact (E1.rel r h).run
  case indexAddr t x y => exact (E1.rel r (E1.rel r h)).run
  case index t x y => exact (E1.rel r (E1.rel r h)).run
  case lookup t x y ok => exact (E1.rel r (E1.rel r h)).run
  case typeAssert x t as ok => exact (E1.rel r h).run
  case extract x i => exact (E1.rel r h).run
  case build t ps =>
    have h := EP.rel r h
    rw [toList_map] at h
    exact h.run
  case makeFunc fn f c =>
    have h := EL.rel r (EL.rel r h)
    rw [toList_map, toList_map] at h
    exact h.run
  case call c =>
    obtain ⟨callee, args, argTypes⟩ := c
    cases callee with
    | builtin b =>
      cases b <;> simp only at h <;> first | exact h.elim | skip
      · have h := EL.rel r h
        rw [toList_map] at h
        exact h.run
      · have h := EL.rel r h
        rw [toList_map] at h
        exact h.run
    | invoke rv name => exact h.elim
    | value f => exact h.elim
  all_goals exact h.elim

def heldE (P : Program) (n : Nat) (all : Array Oper) (S : World → Prop) : List (Nat × Bool) → Env → World → (Env → World → Prop) → Prop
  | [], e, w, k => k e w
  | (j, c) :: r, e, w, k =>
    match all[j]? with
    | none => False
    | some o =>
      match o.guard with
      | none =>
        match c with
        | false => stillW P S e o fun v => putW n e o.dst (some v) fun e' => heldE P n all S r e' w k
        | true => opW P e o w fun v w' => S w' ∧ putW n e o.dst (some v) fun e' => heldE P n all S r e' w' k
      | some (g, want) =>
        match (all[g]?).bind (·.dst) with
        | none => False
        | some t => guardW e t want
          (fun e => match c with
            | false => stillW P S e o fun v => putW n e o.dst (some v) fun e' => heldE P n all S r e' w k
            | true => opW P e o w fun v w' => S w' ∧ putW n e o.dst (some v) fun e' => heldE P n all S r e' w' k)
          (fun e => putW n e o.dst none fun e' => heldE P n all S r e' w k)

theorem heldE_sound {all : Array Oper} {Q : Exit → Act → World → Prop} {L : Act → World → Prop} {k : Env → World → Prop} (hk : ∀ e a w, Rel n e a → k e w → L a w) :
    ∀ (l : List (Nat × Bool)) (e : Env) (a : Act) (w : World), Rel n e a → S w → heldE P n all S l e w k → heldA P all Q S L l a w
  | [], e, a, w, r, _, h => hk e a w r h
  | (j, c) :: rest, e, a, w, r, hS, h => by
    unfold heldE at h
    cases ho : all[j]? with
    | none => rw [ho] at h; exact h.elim
    | some o =>
      rw [ho] at h
      simp only at h
      have goF : ∀ e, Rel n e a → Region.wanted o (yielded all a.tmps) = true → (stillW P S e o fun v => putW n e o.dst (some v) fun e' => heldE P n all S rest e' w k) → heldA P all Q S L ((j, false) :: rest) a w := fun e r hw h => by
        obtain ⟨v, h1, h2⟩ := stillW_sound r h
        obtain ⟨e', r', h'⟩ := r.put h2
        exact ⟨o, v, ho, .inl ⟨hw, h1⟩, heldE_sound hk rest e' _ w r' hS h'⟩
      have goT : ∀ e, Rel n e a → Region.wanted o (yielded all a.tmps) = true → (opW P e o w fun v w' => S w' ∧ putW n e o.dst (some v) fun e' => heldE P n all S rest e' w' k) → heldA P all Q S L ((j, true) :: rest) a w := fun e r hw h => by
        unfold heldA wpOp
        simp only [ho, hw, if_true]
        exact .inl (opW_sound r h fun v w' h => by
          obtain ⟨hS', h⟩ := h
          obtain ⟨e', r', h'⟩ := r.put h
          exact ⟨hS', heldE_sound hk rest e' _ w' r' hS' h'⟩)
      cases hg : o.guard with
      | none =>
        rw [hg] at h
        have hw : Region.wanted o (yielded all a.tmps) = true := by simp [Region.wanted, hg]
        cases c with
        | false => exact goF e r hw h
        | true => exact goT e r hw h
      | some gw =>
        obtain ⟨g, want⟩ := gw
        rw [hg] at h
        simp only at h
        cases ht : (all[g]?).bind (·.dst) with
        | none => rw [ht] at h; exact h.elim
        | some t =>
          rw [ht] at h
          rcases guard_split r ht h with ⟨hy, e', r', h'⟩ | ⟨hy, e', r', h'⟩
          · have hw : Region.wanted o (yielded all a.tmps) = true := by simpa [Region.wanted, hg] using hy
            cases c with
            | false => exact goF e' r' hw h'
            | true => exact goT e' r' hw h'
          · have hw : Region.wanted o (yielded all a.tmps) = false := by simpa [Region.wanted, hg] using hy
            obtain ⟨e'', r'', h''⟩ := r'.put h'
            cases c with
            | false => exact ⟨o, undef, ho, .inr ⟨hw, rfl⟩, heldE_sound hk rest e'' _ w r'' hS h''⟩
            | true =>
              unfold heldA wpOp
              simp only [ho, hw, Bool.false_eq_true, if_false]
              exact ⟨hS, heldE_sound hk rest e'' _ w r'' hS h''⟩
end

/-- Nothing that was there has turned. -/
abbrev Ext (w u : World) : Prop := Below w.heap.size w u
def drawW (P : Program) (n : Nat) (all : Array Oper) (l : List (Nat × Bool)) (m : Nat) (e : Env) (w : World) (k : Env → World → Prop) : Prop :=
  heldE P n all (Ext w.drew) l e w.drew fun e w => opsW P n all (all.toList.drop m) e w k

/-! ### code -/
abbrev Post := Exit → Env → World → Prop
def thenQ (K : Env → World → Prop) (Q : Post) : Post
  | .normal, e, w => K e w
  | x, e, w => Q x e w
def blockQ (id : Nat) (Q : Post) : Post
  | .exit i, e, w => match Nat.beq i id with
    | true => Q .normal e w
    | false => Q (.exit i) e w
  | x, e, w => Q x e w
def scopeQ (Q : Post) : Post
  | .goto _, _, _ => False
  | x, e, w => Q x e w
abbrev CutL := List (List Bool × (Env → World → Prop))
def cutHere : CutL → Option (Env → World → Prop)
  | [] => none
  | ([], K) :: _ => some K
  | (_ :: _, _) :: r => cutHere r
def side : Bool → CutL → CutL
  | _, [] => []
  | b, ([], _) :: r => side b r
  | false, (false :: p, K) :: r => (p, K) :: side false r
  | true, (true :: p, K) :: r => (p, K) :: side true r
  | false, (true :: _, _) :: r => side false r
  | true, (false :: _, _) :: r => side true r
def orCut (T : CutL) (e : Env) (w : World) (X : Prop) : Prop :=
  match cutHere T with
  | some K => K e w
  | none => X
abbrev Plans := List (Nat × List (Nat × Bool) × Nat)
def planOf : Plans → Nat → Option (List (Nat × Bool) × Nat)
  | [], _ => none
  | (i, p) :: r, j => match Nat.beq i j with
    | true => some p
    | false => planOf r j

def W (P : Program) (n : Nat) (D : Plans) : Code → CutL → Post → Env → World → Prop
  | .skip, T, Q, e, w => orCut T e w (Q .normal e w)
  | .label _, T, Q, e, w => orCut T e w (Q .normal e w)
  | .region _ ops false, T, Q, e, w => orCut T e w (opsW P n ops ops.toList e w (Q .normal))
  | .region id ops true, T, Q, e, w => orCut T e w (match planOf D id with
    | none => False
    | some (l, m) => match planOK ops m l with
      | true => drawW P n ops l m e w (Q .normal)
      | false => False)
  | .seq x y, T, Q, e, w => orCut T e w (W P n D x (side false T) (thenQ (W P n D y (side true T) Q) Q) e w)
  | .cond c x y, T, Q, e, w => orCut T e w (E1 e c fun v => condW v (W P n D x (side false T) Q e w) (W P n D y (side true T) Q e w))
  | .block id x, T, Q, e, w => orCut T e w (W P n D x (side false T) (blockQ id Q) e w)
  | .exit id, T, Q, e, w => orCut T e w (Q (.exit id) e w)
  | .ret, T, Q, e, w => orCut T e w (Q .ret e w)
  | .loop _, T, _, e, w => orCut T e w False
  | .rangeFunc .., T, _, e, w => orCut T e w False
  | .scope x, T, Q, e, w => orCut T e w (W P n D x (side false T) (scopeQ Q) e w)
  | .goto _, T, _, e, w => orCut T e w False
  | .refuse _, T, _, e, w => orCut T e w False

/-- What the machine knows of a post over slots. -/
def sem (n : Nat) (Q : Post) : Exit → Act → World → Prop
  | .panic _, _, _ => False
  | .outgrown, _, _ => False
  | x, a, w => ∃ e, Rel n e a ∧ Q x e w
def Runs (P : Program) (n : Nat) (c : Code) (Q : Post) (e : Env) (w : World) : Prop := ∀ a, Rel n e a → c.wp P (sem n Q) a w

def subC : List Bool → Code → Code
  | [], c => c
  | false :: p, .seq x _ => subC p x
  | true :: p, .seq _ y => subC p y
  | false :: p, .cond _ x _ => subC p x
  | true :: p, .cond _ _ y => subC p y
  | false :: p, .block _ x => subC p x
  | false :: p, .scope x => subC p x
  | _ :: _, c => c
/-- The post at a place within a body, by what the machine does behind it. -/
def postC (P : Program) (n : Nat) : List Bool → Code → Post → Post
  | [], _, Q => Q
  | false :: p, .seq x y, Q => postC P n p x (thenQ (Runs P n y Q) Q)
  | true :: p, .seq _ y, Q => postC P n p y Q
  | false :: p, .cond _ x _, Q => postC P n p x Q
  | true :: p, .cond _ _ y, Q => postC P n p y Q
  | false :: p, .block id x, Q => postC P n p x (blockQ id Q)
  | false :: p, .scope x, Q => postC P n p x (scopeQ Q)
  | _ :: _, _, _ => fun _ _ _ => False
/-- What is read from a starting place on. -/
def Wp (P : Program) (n : Nat) (D : Plans) : List Bool → Code → CutL → Post → Env → World → Prop
  | [], c, T, Q, e, w => W P n D c T Q e w
  | false :: p, .seq x y, T, Q, e, w => Wp P n D p x (side false T) (thenQ (W P n D y (side true T) Q) Q) e w
  | true :: p, .seq _ y, T, Q, e, w => Wp P n D p y (side true T) Q e w
  | false :: p, .cond _ x _, T, Q, e, w => Wp P n D p x (side false T) Q e w
  | true :: p, .cond _ _ y, T, Q, e, w => Wp P n D p y (side true T) Q e w
  | false :: p, .block id x, T, Q, e, w => Wp P n D p x (side false T) (blockQ id Q) e w
  | false :: p, .scope x, T, Q, e, w => Wp P n D p x (side false T) (scopeQ Q) e w
  | _ :: _, _, _, _, _, _ => False
/-- Each cut holds what it promises. -/
def Cuts (P : Program) (n : Nat) (c : Code) (Q : Post) : CutL → Prop
  | [] => True
  | (p, K) :: r => (∀ e w, K e w → Runs P n (subC p c) (postC P n p c Q) e w) ∧ Cuts P n c Q r

section
variable {P : Program} {n : Nat} {D : Plans}
theorem sem_mono {Q Q' : Post} (h : ∀ x e w, Q x e w → Q' x e w) : ∀ x a w, sem n Q x a w → sem n Q' x a w
  | .panic _, _, _, q => q.elim
  | .outgrown, _, _, q => q.elim
  | .normal, _, _, ⟨e, r, q⟩ => ⟨e, r, h _ _ _ q⟩
  | .exit _, _, _, ⟨e, r, q⟩ => ⟨e, r, h _ _ _ q⟩
  | .goto _, _, _, ⟨e, r, q⟩ => ⟨e, r, h _ _ _ q⟩
  | .ret, _, _, ⟨e, r, q⟩ => ⟨e, r, h _ _ _ q⟩
theorem Runs.mono {c : Code} {Q Q' : Post} {e : Env} {w : World} (h : Runs P n c Q e w) (hq : ∀ x e w, Q x e w → Q' x e w) : Runs P n c Q' e w :=
  fun a r => wp_mono (h a r) (sem_mono hq)
/-- More may be known. -/
theorem Runs.more {c : Code} {Q : Post} {e e' : Env} {w : World} (h : Runs P n c Q e w) (hs : ∀ t o, find e t = some o → find e' t = some o) : Runs P n c Q e' w :=
  fun a r => h a ⟨r.size, r.defers, fun t o ht => r.slot t o (hs t o ht)⟩
theorem Runs.seq {x y : Code} {Q : Post} {e : Env} {w : World} (h : Runs P n x (thenQ (Runs P n y Q) Q) e w) : Runs P n (.seq x y) Q e w := fun a r =>
  wp_seq (wp_mono (h a r) fun x a w hq => by
    cases x with
    | normal => obtain ⟨e, r, hq⟩ := hq; exact hq a r
    | _ => exact hq)
theorem Runs.block {id : Nat} {x : Code} {Q : Post} {e : Env} {w : World} (h : Runs P n x (blockQ id Q) e w) : Runs P n (.block id x) Q e w := fun a r =>
  wp_block (wp_mono (h a r) fun x a w hq => by
    cases x with
    | exit i =>
      obtain ⟨e, r, hq⟩ := hq
      simp only [blockQ] at hq
      simp only [Exit.inBlock]
      cases hb : Nat.beq i id with
      | true => rw [hb] at hq; rw [if_pos (Nat.eq_of_beq_eq_true hb)]; exact ⟨e, r, hq⟩
      | false => rw [hb] at hq; rw [if_neg (fun h => by rw [h, Nat.beq_refl] at hb; cases hb)]; exact ⟨e, r, hq⟩
    | _ => exact hq)
theorem Runs.scope {x : Code} {Q : Post} {e : Env} {w : World} (h : Runs P n x (scopeQ Q) e w) : Runs P n (.scope x) Q e w := fun a r =>
  wp_scope_straight (wp_mono (h a r) fun x a w hq => by
    cases x with
    | goto l => obtain ⟨e, r, hq⟩ := hq; exact hq.elim
    | _ => exact hq)
theorem Runs.cond {c : Operand} {x y : Code} {Q : Post} {e : Env} {w : World} (h : E1 e c fun v => condW v (Runs P n x Q e w) (Runs P n y Q e w)) : Runs P n (.cond c x y) Q e w := fun a r => by
  have h := E1.rel r h
  simp only [condW] at h
  split at h
  · rename_i hc; exact wp_cond_true hc (h a r)
  · rename_i hc; exact wp_cond_false hc (h a r)
  · exact h.elim

theorem Cuts.here {c : Code} {Q : Post} : ∀ {T : CutL} {K : Env → World → Prop}, Cuts P n c Q T → cutHere T = some K → ∀ e w, K e w → Runs P n c Q e w
  | [], _, _, h => by cases h
  | ([], K') :: r, K, hc, h => by obtain rfl := Option.some.inj h; exact hc.1
  | (_ :: _, _) :: r, K, hc, h => Cuts.here (T := r) hc.2 h
theorem Cuts.seqL {x y : Code} {Q : Post} : ∀ {T : CutL}, Cuts P n (.seq x y) Q T → Cuts P n x (thenQ (Runs P n y Q) Q) (side false T)
  | [], _ => trivial
  | ([], _) :: r, h => Cuts.seqL (T := r) h.2
  | (false :: _, _) :: r, h => ⟨h.1, Cuts.seqL (T := r) h.2⟩
  | (true :: _, _) :: r, h => Cuts.seqL (T := r) h.2
theorem Cuts.seqR {x y : Code} {Q : Post} : ∀ {T : CutL}, Cuts P n (.seq x y) Q T → Cuts P n y Q (side true T)
  | [], _ => trivial
  | ([], _) :: r, h => Cuts.seqR (T := r) h.2
  | (true :: _, _) :: r, h => ⟨h.1, Cuts.seqR (T := r) h.2⟩
  | (false :: _, _) :: r, h => Cuts.seqR (T := r) h.2
theorem Cuts.condL {c : Operand} {x y : Code} {Q : Post} : ∀ {T : CutL}, Cuts P n (.cond c x y) Q T → Cuts P n x Q (side false T)
  | [], _ => trivial
  | ([], _) :: r, h => Cuts.condL (T := r) h.2
  | (false :: _, _) :: r, h => ⟨h.1, Cuts.condL (T := r) h.2⟩
  | (true :: _, _) :: r, h => Cuts.condL (T := r) h.2
theorem Cuts.condR {c : Operand} {x y : Code} {Q : Post} : ∀ {T : CutL}, Cuts P n (.cond c x y) Q T → Cuts P n y Q (side true T)
  | [], _ => trivial
  | ([], _) :: r, h => Cuts.condR (T := r) h.2
  | (true :: _, _) :: r, h => ⟨h.1, Cuts.condR (T := r) h.2⟩
  | (false :: _, _) :: r, h => Cuts.condR (T := r) h.2
theorem Cuts.block {id : Nat} {x : Code} {Q : Post} : ∀ {T : CutL}, Cuts P n (.block id x) Q T → Cuts P n x (blockQ id Q) (side false T)
  | [], _ => trivial
  | ([], _) :: r, h => Cuts.block (T := r) h.2
  | (false :: _, _) :: r, h => ⟨h.1, Cuts.block (T := r) h.2⟩
  | (true :: _, _) :: r, h => Cuts.block (T := r) h.2

theorem Cuts.scope {x : Code} {Q : Post} : ∀ {T : CutL}, Cuts P n (.scope x) Q T → Cuts P n x (scopeQ Q) (side false T)
  | [], _ => trivial
  | ([], _) :: r, h => Cuts.scope (T := r) h.2
  | (false :: _, _) :: r, h => ⟨h.1, Cuts.scope (T := r) h.2⟩
  | (true :: _, _) :: r, h => Cuts.scope (T := r) h.2
theorem scopeQ_le {Q Q' : Post} (h : ∀ x e w, Q x e w → Q' x e w) : ∀ x e w, scopeQ Q x e w → scopeQ Q' x e w := fun x e w q => by
  cases x with
  | goto l => exact q.elim
  | _ => exact h _ _ _ q

theorem orCut_sound {c : Code} {Q : Post} {T : CutL} {e : Env} {w : World} {X : Prop} (hc : Cuts P n c Q T) (h : orCut T e w X) (hx : X → Runs P n c Q e w) : Runs P n c Q e w := by
  unfold orCut at h
  split at h
  · rename_i K hK; exact hc.here hK e w h
  · exact hx h

theorem W_sound (hm : P.follows .mixedOrders = true) : ∀ (c : Code) (T : CutL) (Q Q' : Post) (e : Env) (w : World), (∀ x e w, Q x e w → Q' x e w) → Cuts P n c Q' T → W P n D c T Q e w → Runs P n c Q' e w
  | .skip, T, Q, Q', e, w, hq, hc, h => orCut_sound hc h fun h a r => wp_skip ⟨e, r, hq _ _ _ h⟩
  | .label _, T, Q, Q', e, w, hq, hc, h => orCut_sound hc h fun h a r => wp_label ⟨e, r, hq _ _ _ h⟩
  | .region _ ops false, T, Q, Q', e, w, hq, hc, h => orCut_sound hc h fun h a r =>
    wp_region_list (opsW_sound (Q := sem n Q') (fun e a w r h => ⟨e, r, hq _ _ _ h⟩) ops.toList e a w r h)
  | .region id ops true, T, Q, Q', e, w, hq, hc, h => orCut_sound hc h fun h a r => by
    split at h
    · exact h.elim
    · rename_i l m hp
      split at h
      · rename_i hok
        refine region_held (S := Ext w.drew) hm (fun c a w hp => hp.elim) hok (Below.refl _ _) ?_
        exact heldE_sound (fun e a w r h => opsW_sound (Q := sem n Q') (fun e a w r h => ⟨e, r, hq _ _ _ h⟩) _ e a w r h) l e a _ r (Below.refl _ _) h
      · exact h.elim
  | .seq x y, T, Q, Q', e, w, hq, hc, h => orCut_sound hc h fun h => .seq (W_sound hm x _ _ _ e w (fun x' e w h' => by
        cases x' with
        | normal => exact W_sound hm y _ _ _ e w hq hc.seqR h'
        | _ => exact hq _ _ _ h') hc.seqL h)
  | .cond c x y, T, Q, Q', e, w, hq, hc, h => orCut_sound hc h fun h => .cond (by
      obtain ⟨v, h1, h2⟩ := h.elim
      unfold E1
      rw [h1]
      simp only [condW] at h2 ⊢
      split
      · exact W_sound hm x _ _ _ e w hq hc.condL (by simpa using h2)
      · exact W_sound hm y _ _ _ e w hq hc.condR (by simpa using h2)
      · simp_all)
  | .block id x, T, Q, Q', e, w, hq, hc, h => orCut_sound hc h fun h => .block (W_sound hm x _ _ _ e w (fun x' e w h' => by
        cases x' with
        | exit i =>
          simp only [blockQ] at h' ⊢
          split at h' <;> exact hq _ _ _ h'
        | _ => exact hq _ _ _ h') hc.block h)
  | .exit id, T, Q, Q', e, w, hq, hc, h => orCut_sound hc h fun h a r => wp_exit ⟨e, r, hq _ _ _ h⟩
  | .ret, T, Q, Q', e, w, hq, hc, h => orCut_sound hc h fun h a r => wp_ret ⟨e, r, hq _ _ _ h⟩
  | .loop _, T, Q, Q', e, w, _, hc, h => orCut_sound hc h fun h => h.elim
  | .rangeFunc .., T, Q, Q', e, w, _, hc, h => orCut_sound hc h fun h => h.elim
  | .scope x, T, Q, Q', e, w, hq, hc, h => orCut_sound hc h fun h => .scope (W_sound hm x _ _ _ e w (scopeQ_le hq) hc.scope h)
  | .goto _, T, Q, Q', e, w, _, hc, h => orCut_sound hc h fun h => h.elim
  | .refuse _, T, Q, Q', e, w, _, hc, h => orCut_sound hc h fun h => h.elim

theorem Wp_sound (hm : P.follows .mixedOrders = true) : ∀ (p : List Bool) (c : Code) (T : CutL) (Q Q' : Post) (e : Env) (w : World), (∀ x e w, Q x e w → Q' x e w) → Cuts P n c Q' T → Wp P n D p c T Q e w →
    Runs P n (subC p c) (postC P n p c Q') e w
  | [], c, T, Q, Q', e, w, hq, hc, h => W_sound hm c T Q Q' e w hq hc h
  | b :: p, c, T, Q, Q', e, w, hq, hc, h => by
    cases c with
    | seq x y =>
      cases b with
      | false => exact Wp_sound hm p x _ _ _ e w (fun x' e w h' => by
          cases x' with
          | normal => exact W_sound hm y _ _ _ e w hq hc.seqR h'
          | _ => exact hq _ _ _ h') hc.seqL h
      | true => exact Wp_sound hm p y _ _ _ e w hq hc.seqR h
    | cond o x y =>
      cases b with
      | false => exact Wp_sound hm p x _ _ _ e w hq hc.condL h
      | true => exact Wp_sound hm p y _ _ _ e w hq hc.condR h
    | block id x =>
      cases b with
      | false => exact Wp_sound hm p x _ _ _ e w (fun x' e w h' => by
          cases x' with
          | exit i =>
            simp only [blockQ] at h' ⊢
            split at h' <;> exact hq _ _ _ h'
          | _ => exact hq _ _ _ h') hc.block h
      | true => exact h.elim
    | skip => cases b <;> simp only [Wp] at h
    | region a b c => cases b <;> simp only [Wp] at h
    | loop x => cases b <;> simp only [Wp] at h
    | rangeFunc a b c d => cases b <;> simp only [Wp] at h
    | exit i => cases b <;> simp only [Wp] at h
    | scope x =>
      cases b with
      | false => exact Wp_sound hm p x _ _ _ e w (scopeQ_le hq) hc.scope h
      | true => exact h.elim
    | label l => cases b <;> simp only [Wp] at h
    | goto l => cases b <;> simp only [Wp] at h
    | ret => cases b <;> simp only [Wp] at h
    | refuse s => cases b <;> simp only [Wp] at h

theorem Wp_use (hm : P.follows .mixedOrders = true) {p : List Bool} {c : Code} {T : CutL} {Q Q' : Post} {e : Env} {w : World} {X : Prop} (he : X = Wp P n D p c T Q e w) (h : X)
    (hq : ∀ x e w, Q x e w → Q' x e w) (hc : Cuts P n c Q' T) : Runs P n (subC p c) (postC P n p c Q') e w :=
  Wp_sound hm p c T Q Q' e w hq hc (cast he h)

/-! ### loops -/
/-- A loop that ends: something holds at each round's head, and a number goes down. -/
def LoopP {σ : Type} (B : σ → World → (σ → World → Prop) → Prop) (s : σ) (w : World) : Prop :=
  ∃ (I : σ → World → Prop) (μ : σ → World → Nat), I s w ∧ ∀ s w, I s w → B s w (fun s' w' => I s' w' ∧ μ s' w' < μ s w)
theorem Runs.loop {σ : Type} {x : Code} {Q : Post} {B : σ → World → (σ → World → Prop) → Prop} (E : σ → Env) (V : Env → (σ → Prop) → Prop)
    (hV : ∀ e k, V e k → ∃ s, k s ∧ ∀ t o, find (E s) t = some o → find e t = some o)
    (hB : ∀ s w (K : σ → World → Prop), B s w K → Runs P n x (thenQ (fun e w => V e fun s => K s w) Q) (E s) w) {s : σ} {w : World} (h : LoopP B s w) :
    Runs P n (.loop x) Q (E s) w := by
  obtain ⟨I, μ, h0, hI⟩ := h
  have key : ∀ N s w, μ s w < N → I s w → ∀ a, Rel n (E s) a → Code.rounds P x (sem n Q) N a w := by
    intro N
    induction N with
    | zero => intro s w h; omega
    | succ N ih =>
      intro s w hN hs a r
      rw [rounds_succ]
      refine wp_mono (hB s w _ (hI s w hs) a r) fun x' a' w' hq => ?_
      cases x' with
      | normal =>
        obtain ⟨e, r', hq⟩ := hq
        obtain ⟨s', ⟨h1, h2⟩, h3⟩ := hV e _ hq
        exact ih s' w' (by omega) h1 a' ⟨r'.size, r'.defers, fun t o ht => r'.slot t o (h3 t o ht)⟩
      | _ => exact hq
  exact fun a r => wp_loop_rounds (μ s w + 1) (key _ s w (by omega) h0 a r)

/-! ### from a body to the call -/
def resW (P : Program) : List ResultVar → Env → World → (List Value → Prop) → Prop
  | [], _, _, k => k []
  | .tmp t :: r, e, w, k => E1 e (.tmp t) fun v => resW P r e w fun vs => k (v :: vs)
  | .cell a t :: r, e, w, k => E1 e (.tmp a) fun va => ∃ v, (do loadVar t (← asAddr va) : Sem Value).run P w = .ok v w ∧ resW P r e w fun vs => k (v :: vs)
def oneOr (vs : List Value) : Value :=
  match vs with
  | [v] => v
  | vs => .tuple vs.toArray
def retQ (P : Program) (rs : List ResultVar) (R : Value → World → Prop) : Post
  | .normal, e, w | .ret, e, w => resW P rs e w fun vs => R (oneOr vs) w
  | _, _, _ => False

def resF (tmps : Array Value) : ResultVar → Sem Value
  | .tmp t => pure (tmps.getD t undef)
  | .cell a t => do loadVar t (← asAddr (tmps.getD a undef))
theorem results_resF (fn : Func) (tmps : Array Value) : results fn tmps = (do let vs ← fn.results.mapM (resF tmps); pure (if h : vs.size = 1 then vs[0] else .tuple vs) : Sem Value) := by
  unfold results
  congr 1
theorem resW_run {rs : List ResultVar} {e : Env} {a : Act} {w : World} (r : Rel n e a) : ∀ {k : List Value → Prop}, resW P rs e w k →
    ∃ vs, (rs.mapM (resF a.tmps)).run P w = .ok vs w ∧ k vs := by
  induction rs with
  | nil => intro k h; exact ⟨[], by simp [pure], h⟩
  | cons x rs ih =>
    intro k h
    cases x with
    | tmp t =>
      have h := E1.rel r h
      obtain ⟨vs, h1, h2⟩ := ih h
      refine ⟨_, ?_, h2⟩
      rw [List.mapM_cons]
      simp only [resF, Sem.run_bind, Act.eval, pure_bind, h1]
      rfl
    | cell b t =>
      have h := E1.rel r h
      obtain ⟨v, hv, h⟩ := h
      obtain ⟨vs, h1, h2⟩ := ih h
      refine ⟨_, ?_, h2⟩
      rw [List.mapM_cons]
      simp only [Act.eval] at hv
      simp only [resF, Sem.run_bind, hv, Result.andThen, h1]
      rfl

theorem oneOr_eq (vs : List Value) : (if h : vs.toArray.size = 1 then vs.toArray[0] else .tuple vs.toArray : Value) = oneOr vs := by
  match vs with
  | [] => rfl
  | [v] => rfl
  | v :: u :: vs => simp [oneOr]

theorem calls_of_runs {f : FuncId} {fn : Func} {c : Code} {args : List Value} {w : World} {R : Value → World → Prop} (hf : P.funcs[f]? = some fn) (hb : fn.body = some c)
    (e : Env) (he : ∀ t o, find e t = some o → t < fn.ntmps ∧ o = args[t]?) (hargs : args.length ≤ fn.ntmps) (h : Runs P fn.ntmps c (retQ P fn.results.toList R) e w) : Calls P f args.toArray w (ret1 R) := by
  refine calls_of_wp hf hb ?_
  refine wp_mono (h _ ⟨?_, rfl, ?_⟩) ?_
  · simp; omega
  · intro t o ht
    obtain ⟨h1, h2⟩ := he t o ht
    refine ⟨h1, ?_⟩
    subst h2
    by_cases hl : t < args.length
    · rw [Array.getElem?_append_left (by simpa using hl)]
      simp [hl]
    · simp [hl, Array.getElem?_append, Array.getElem?_replicate]
      omega
  · have fin : ∀ e a w, Rel fn.ntmps e a → (resW P fn.results.toList e w fun vs => R (oneOr vs) w) → a.defers = [] ∧ ∃ v, (results fn a.tmps).run P w = .ok v w ∧ ret1 R (.returned v) w := by
      intro e a w r hq
      obtain ⟨vs, h1, h2⟩ := resW_run r hq
      refine ⟨r.defers, _, ?_, h2⟩
      rw [results_resF, Array.mapM_eq_mapM_toList]
      simp only [map_eq_pure_bind, bind_assoc, Sem.run_bind]
      rw [h1]
      show Result.ok _ w = _
      rw [← oneOr_eq]
    intro x a w hq
    cases x with
    | normal => obtain ⟨e, r, hq⟩ := hq; exact fin e a w r hq
    | ret => obtain ⟨e, r, hq⟩ := hq; exact fin e a w r hq
    | exit i => obtain ⟨e, r, hq⟩ := hq; exact hq.elim
    | goto i => obtain ⟨e, r, hq⟩ := hq; exact hq.elim
    | panic c => exact hq.elim
    | outgrown => exact hq.elim

/-! ### small words for the printed texts -/
def envOf : Nat → List Value → Env
  | _, [] => []
  | i, v :: r => (i, some v) :: envOf (i + 1) r
theorem find_envOf : ∀ (l : List Value) (i t : Nat) (o : Option Value), find (envOf i l) t = some o → i ≤ t ∧ t < i + l.length ∧ o = l[t - i]?
  | [], i, t, o, h => by simp [envOf, find] at h
  | v :: l, i, t, o, h => by
    by_cases hit : i = t
    · subst hit
      rw [envOf, find_cons_eq] at h
      obtain rfl := Option.some.inj h
      exact ⟨Nat.le_refl _, by simp, by simp⟩
    · rw [envOf, find_cons_ne hit] at h
      obtain ⟨h1, h2, h3⟩ := find_envOf l (i + 1) t o h
      refine ⟨by omega, by simp only [List.length_cons]; omega, ?_⟩
      rw [h3, show t - i = (t - (i + 1)) + 1 by omega]
      simp
theorem call_of_runs {f : FuncId} {fn : Func} {c : Code} {args : List Value} {w : World} {R : Value → World → Prop} (hen : enters P f = true) (hf : P.funcs[f]? = some fn) (hb : fn.body = some c)
    (hargs : Nat.ble args.length fn.ntmps = true) (h : Runs P fn.ntmps c (retQ P fn.results.toList R) (envOf 0 args) w) : CallF P f args.toArray w R :=
  ⟨hen, calls_of_runs hf hb _ (fun t o ht => by have := find_envOf args 0 t o ht; have h' := Nat.le_of_ble_eq_true hargs; exact ⟨by omega, by simpa using this.2.2⟩) (Nat.le_of_ble_eq_true hargs) h⟩

/-- The computational post at a place within a body. -/
def postW (P : Program) (n : Nat) (D : Plans) : List Bool → Code → CutL → Post → Post
  | [], _, _, Q => Q
  | false :: p, .seq x y, T, Q => postW P n D p x (side false T) (thenQ (W P n D y (side true T) Q) Q)
  | true :: p, .seq _ y, T, Q => postW P n D p y (side true T) Q
  | false :: p, .cond _ x _, T, Q => postW P n D p x (side false T) Q
  | true :: p, .cond _ _ y, T, Q => postW P n D p y (side true T) Q
  | false :: p, .block id x, T, Q => postW P n D p x (side false T) (blockQ id Q)
  | false :: p, .scope x, T, Q => postW P n D p x (side false T) (scopeQ Q)
  | _ :: _, _, _, _ => fun _ _ _ => False
theorem thenQ_le {K : Env → World → Prop} {Q Q' : Post} (h : ∀ x e w, Q x e w → Q' x e w) : ∀ x e w, thenQ K Q x e w → thenQ K Q' x e w := fun x e w q => by
  cases x with
  | normal => exact q
  | _ => exact h _ _ _ q
theorem postW_le (hm : P.follows .mixedOrders = true) : ∀ (p : List Bool) (c : Code) (T : CutL) (Q Q' : Post), (∀ x e w, Q x e w → Q' x e w) → Cuts P n c Q' T → ∀ x e w, postW P n D p c T Q x e w → postC P n p c Q' x e w
  | [], _, _, _, _, hq, _, x, e, w, h => hq x e w h
  | b :: p, c, T, Q, Q', hq, hc, x', e', w', h => by
    cases c with
    | seq x y =>
      cases b with
      | false => exact postW_le hm p x _ _ _ (fun x' e w h' => by
          cases x' with
          | normal => exact W_sound hm y _ _ _ e w hq hc.seqR h'
          | _ => exact hq _ _ _ h') hc.seqL x' e' w' h
      | true => exact postW_le hm p y _ _ _ hq hc.seqR x' e' w' h
    | cond o x y =>
      cases b with
      | false => exact postW_le hm p x _ _ _ hq hc.condL x' e' w' h
      | true => exact postW_le hm p y _ _ _ hq hc.condR x' e' w' h
    | block id x =>
      cases b with
      | false => exact postW_le hm p x _ _ _ (fun x' e w h' => by
          cases x' with
          | exit i =>
            simp only [blockQ] at h' ⊢
            split at h' <;> exact hq _ _ _ h'
          | _ => exact hq _ _ _ h') hc.block x' e' w' h
      | true => exact h.elim
    | skip => cases b <;> simp only [postW] at h
    | region a b' c' => cases b <;> simp only [postW] at h
    | loop x => cases b <;> simp only [postW] at h
    | rangeFunc a b' c' d => cases b <;> simp only [postW] at h
    | exit i => cases b <;> simp only [postW] at h
    | scope x =>
      cases b with
      | false => exact postW_le hm p x _ _ _ (scopeQ_le hq) hc.scope x' e' w' h
      | true => exact h.elim
    | label l => cases b <;> simp only [postW] at h
    | goto l => cases b <;> simp only [postW] at h
    | ret => cases b <;> simp only [postW] at h
    | refuse s => cases b <;> simp only [postW] at h

theorem sub_nil {e : Env} : ∀ t o, find ([] : Env) t = some o → find e t = some o := fun _ _ h => by simp [find] at h
theorem sub_cons {e r : Env} {u : Nat} {v : Value} (h : ev e (.tmp u) = some v) (hr : ∀ t o, find r t = some o → find e t = some o) : ∀ t o, find ((u, some v) :: r) t = some o → find e t = some o := fun t o ht => by
  by_cases hut : u = t
  · subst hut
    rw [find_cons_eq] at ht
    obtain rfl := Option.some.inj ht
    exact get_find h
  · rw [find_cons_ne hut] at ht
    exact hr t o ht
end
end Go.Proofs.YtdgffjkcpbolmaaGreatDoor.Fx
