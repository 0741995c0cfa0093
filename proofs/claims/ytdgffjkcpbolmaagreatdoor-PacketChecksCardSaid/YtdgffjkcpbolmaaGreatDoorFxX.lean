/-
  The steps of a shallow form: what each operation comes to, by the shapes of its values. No condition.
-/
import Derived.Test.YtdgffjkcpbolmaaGreatDoorFxW
import Derived.WalkKit
import Derived.Laws.Slices
namespace Go.Proofs.YtdgffjkcpbolmaaGreatDoor.Fx
open Go Go.RowKit
set_option linter.unusedVariables false
set_option linter.unusedSimpArgs false

variable {P : Program} {w : World}

/-! simp looks at a step's head alone -/
@[congr] theorem XV_congr {s s' : Sem Value} {k : Value → World → Prop} (h : s = s') : XV P s w k = XV P s' w k := by rw [h]
@[congr] theorem XN_congr {s s' : Sem Next} {k : Value → World → Prop} (h : s = s') : XN P s w k = XN P s' w k := by rw [h]
@[congr] theorem XU_congr {s s' : Sem Unit} {k : World → Prop} (h : s = s') : XU P s w k = XU P s' w k := by rw [h]
@[congr] theorem XS_congr {S : World → Prop} {s s' : Sem Value} {k : Value → Prop} (h : s = s') : XS P S s k = XS P S s' k := by rw [h]
@[congr] theorem XSN_congr {S : World → Prop} {s s' : Sem Next} {k : Value → Prop} (h : s = s') : XSN P S s k = XSN P S s' k := by rw [h]
@[congr] theorem condW_congr {v v' : Value} {A B : Prop} (h : v = v') : condW v A B = condW v' A B := by rw [h]
@[congr] theorem gd_congr {v v' : Value} {b : Bool} {A B : Prop} (h : v = v') : gd v b A B = gd v' b A B := by rw [h]
@[congr] theorem LF_congr {S T f : Nat} {v v' : Value} {k : Value → World → Prop} (h : v = v') : LF P S T f v w k = LF P S T f v' w k := by rw [h]
@[congr] theorem LB_congr {S T f : Nat} {v v' : Value} {k : Value → World → Prop} (h : v = v') : LB P S T f v w k = LB P S T f v' w k := by rw [h]
@[congr] theorem SF_congr {S T f : Nat} {v v' x x' : Value} {k : World → Prop} (h : v = v') (hx : x = x') : SF P S T f v x w k = SF P S T f v' x' w k := by rw [h, hx]
@[congr] theorem SB_congr {S T f : Nat} {v v' x x' : Value} {k : World → Prop} (h : v = v') (hx : x = x') : SB P S T f v x w k = SB P S T f v' x' w k := by rw [h, hx]
@[congr] theorem LI_congr {A T : Nat} {v v' i i' : Value} {k : Value → World → Prop} (h : v = v') (hi : i = i') : LI P A T v i w k = LI P A T v' i' w k := by rw [h, hi]
@[congr] theorem CallF_congr {f : FuncId} {a a' : Array Value} {k : Value → World → Prop} (h : a = a') : CallF P f a w k = CallF P f a' w k := by rw [h]

/-- A cell read. -/
def LC (w : World) (a : Addr) (k : Value → World → Prop) : Prop :=
  match w.cell? a with
  | some v => k v w
  | none => False
/-- A cell written. -/
def ST (w : World) (a : Addr) (v : Value) (k : World → Prop) : Prop :=
  (∃ u, w.cell? a = some u) ∧ w.frozen? a = false ∧ k (w.setCell a v)
@[congr] theorem LC_congr {a a' : Addr} {k : Value → World → Prop} (h : a = a') : LC w a k = LC w a' k := by rw [h]
@[congr] theorem ST_congr {a a' : Addr} {v v' : Value} {k : World → Prop} (h : a = a') (hv : v = v') : ST w a v k = ST w a' v' k := by rw [h, hv]
theorem LC_of {a : Addr} {v : Value} {k : Value → World → Prop} (h : w.cell? a = some v) (hk : k v w) : LC w a k := by unfold LC; rw [h]; exact hk

def oneCell : Value → Bool
  | .agg _ | .tuple _ => false
  | _ => true
/-- What a struct type's field is: its place, if it takes cells. -/
def fieldOff (P : Program) (S f : Nat) : Option Nat :=
  match P.underlying S with
  | some (.struct fs) => match fs[f]? with
    | some fd => match P.info? fd.type with
      | some i => if i.size = 0 then none else some fd.offset
      | none => none
    | none => none
  | _ => none
def plainT (P : Program) (T : Nat) : Bool :=
  match P.underlying T with
  | some (.struct _) | some (.array ..) | none => false
  | _ => true
def oneT (P : Program) (T : Nat) : Bool :=
  match P.info? T with
  | some i => i.size == 1
  | none => false
/-! ### what a seat's table of types says, as instances -/
class FO (P : Program) (S f : Nat) (d : outParam Nat) : Prop where
  eq : fieldOff P S f = some d
class PT (P : Program) (T : Nat) : Prop where
  eq : plainT P T = true
class OT (P : Program) (T : Nat) : Prop where
  eq : oneT P T = true
def aggT (P : Program) (T : Nat) : Bool :=
  match P.underlying T with
  | some (.struct _) | some (.array ..) => true
  | _ => false
class AT (P : Program) (T : Nat) : Prop where
  eq : aggT P T = true
def sliceT (P : Program) (T E : Nat) : Bool :=
  match P.underlying T with
  | some (.slice e) => e == E
  | _ => false
class SlT (P : Program) (T : Nat) (E : outParam Nat) : Prop where
  eq : sliceT P T E = true
def szT (P : Program) (T : Nat) : Option Nat := (P.info? T).map (·.size)
class SzT (P : Program) (T : Nat) (n : outParam Nat) : Prop where
  eq : szT P T = some n
def strT (P : Program) (T : Nat) : Bool :=
  match P.underlying T with
  | some .string => true
  | _ => false
class StT (P : Program) (T : Nat) : Prop where
  eq : strT P T = true
def appT (P : Program) (T E sz bytes : Nat) : Bool :=
  sliceT P T E && match P.info? E with
    | some i => i.size == sz && i.bytes == bytes && Nat.blt 0 sz && match i.zero with
      | some z => z.cells.size == sz
      | none => false
    | none => false
class ApT (P : Program) (T : Nat) (E sz bytes : outParam Nat) : Prop where
  eq : appT P T E sz bytes = true
class BoT (P : Program) (T : Nat) : Prop where
  eq : P.underlying T = some .bool
/-! ### numbers, bools, strings -/
section
variable {k : Value → World → Prop} {T : TypeId} {c : Bool} {K : IntKind} {a b : Int}
theorem eqG_int {op : BinOp} {x y : Value} {K : IntKind} : (eqG op T c (.int K a) y).run P w = .ok () w := by
  unfold eqG eqGuard
  cases op <;> cases c <;> rfl
theorem XV_binS {op : BinOp} {x y v : Value} (hg : (eqG op T c x y).run P w = .ok () w) (h : (binOp op T x y).run P w = .ok v w) : XV P (binS op T c x y) w k = k v w := by
  unfold XV binS
  simp only [Sem.run_bind, hg, Result.andThen, h]
theorem run_binS {op : BinOp} {x y v : Value} (hg : (eqG op T c x y).run P w = .ok () w) (h : (binOp op T x y).run P w = .ok v w) : (binS op T c x y).run P w = .ok v w := by
  unfold binS
  simp only [Sem.run_bind, hg, Result.andThen, h]
@[go_sem] theorem x_add : XV P (binS .add T c (.int K a) (.int K b)) w k = k (.int K (K.wrap (a + b))) w := XV_binS (eqG_int (x := .int K a)) (by simp [binOp, Op.intArith])
@[go_sem] theorem x_sub : XV P (binS .sub T c (.int K a) (.int K b)) w k = k (.int K (K.wrap (a - b))) w := XV_binS (eqG_int (x := .int K a)) (by simp [binOp, Op.intArith])
@[go_sem] theorem x_mul : XV P (binS .mul T c (.int K a) (.int K b)) w k = k (.int K (K.wrap (a * b))) w := XV_binS (eqG_int (x := .int K a)) (by simp [binOp, Op.intArith])
theorem x_rem {b : Int} (hb : b ≠ 0) : XV P (binS .rem T c (.int K a) (.int K b)) w k = k (.int K (a.tmod b)) w := XV_binS (eqG_int (x := .int K a)) (by simp [binOp, Op.intDiv, hb])
@[go_sem] theorem x_lss : XV P (binS .lss T c (.int K a) (.int K b)) w k = k (.bool (decide (a < b))) w := XV_binS (eqG_int (x := .int K a)) (by simp [binOp, Op.intCmp])
@[go_sem] theorem x_leq : XV P (binS .leq T c (.int K a) (.int K b)) w k = k (.bool (decide (a ≤ b))) w := XV_binS (eqG_int (x := .int K a)) (by simp [binOp, Op.intCmp])
@[go_sem] theorem x_gtr : XV P (binS .gtr T c (.int K a) (.int K b)) w k = k (.bool (decide (a > b))) w := XV_binS (eqG_int (x := .int K a)) (by simp [binOp, Op.intCmp])
@[go_sem] theorem x_geq : XV P (binS .geq T c (.int K a) (.int K b)) w k = k (.bool (decide (a ≥ b))) w := XV_binS (eqG_int (x := .int K a)) (by simp [binOp, Op.intCmp])
@[go_sem] theorem x_eql : XV P (binS .eql T c (.int K a) (.int K b)) w k = k (.bool (a == b)) w := XV_binS (eqG_int (x := .int K a)) (by simp [binOp, Op.intCmp])
@[go_sem] theorem x_neq : XV P (binS .neq T c (.int K a) (.int K b)) w k = k (.bool (a != b)) w := XV_binS (eqG_int (x := .int K a)) (by simp [binOp, Op.intCmp])
theorem eqG_string {op : BinOp} {s : ByteArray} {y : Value} : (eqG op T c (.string s) y).run P w = .ok () w := by
  unfold eqG eqGuard
  cases op <;> cases c <;> rfl
theorem eqG_bool {op : BinOp} {s : Bool} {y : Value} : (eqG op T c (.bool s) y).run P w = .ok () w := by
  unfold eqG eqGuard
  cases op <;> cases c <;> rfl
@[go_sem] theorem x_eqls {s t : ByteArray} : XV P (binS .eql T c (.string s) (.string t)) w k = k (.bool (s.toList == t.toList)) w := XV_binS eqG_string (by simp [binOp, Op.stringOp])
@[go_sem] theorem x_neqs {s t : ByteArray} : XV P (binS .neq T c (.string s) (.string t)) w k = k (.bool (!(s.toList == t.toList))) w := XV_binS eqG_string (by simp [binOp, Op.stringOp])
@[go_sem] theorem x_eqlb {s t : Bool} [hT : BoT P T] : XV P (binS .eql T c (.bool s) (.bool t)) w k = k (.bool (s == t)) w := XV_binS eqG_bool (by simp [binOp, run_equal_bool, hT.eq])
@[go_sem] theorem x_neqb {s t : Bool} [hT : BoT P T] : XV P (binS .neq T c (.bool s) (.bool t)) w k = k (.bool (!(s == t))) w := XV_binS eqG_bool (by simp [binOp, run_equal_bool, hT.eq])
@[go_sem] theorem x_not {s : Bool} : XV P (Op.unary .not (.bool s)) w k = k (.bool (!s)) w := by unfold XV; simp [Op.unary]
@[go_sem] theorem x_nil {p : Addr} : XN P (nilS (.pointer (some p))) w k = k (.pointer (some p)) w := by unfold XN nilS; rfl
end
/-! the same, in a region whose order is open -/
section
variable {k : Value → Prop} {T : TypeId} {c : Bool} {K : IntKind} {a b : Int} {S : World → Prop}
theorem XS_of {s : Sem Value} {v : Value} (h : ∀ u, s.run P u = .ok v u) (hk : k v) : XS P S s k := ⟨v, fun u _ => h u, hk⟩
theorem XS_at {s : Sem Value} {v : Value} (h : ∀ u, S u → s.run P u = .ok v u) (hk : k v) : XS P S s k := ⟨v, h, hk⟩
theorem s_add (h : k (.int K (K.wrap (a + b)))) : XS P S (binS .add T c (.int K a) (.int K b)) k := XS_of (fun u => run_binS (eqG_int (x := .int K a)) (by simp [binOp, Op.intArith])) h
theorem s_sub (h : k (.int K (K.wrap (a - b)))) : XS P S (binS .sub T c (.int K a) (.int K b)) k := XS_of (fun u => run_binS (eqG_int (x := .int K a)) (by simp [binOp, Op.intArith])) h
theorem s_lss (h : k (.bool (decide (a < b)))) : XS P S (binS .lss T c (.int K a) (.int K b)) k := XS_of (fun u => run_binS (eqG_int (x := .int K a)) (by simp [binOp, Op.intCmp])) h
theorem s_leq (h : k (.bool (decide (a ≤ b)))) : XS P S (binS .leq T c (.int K a) (.int K b)) k := XS_of (fun u => run_binS (eqG_int (x := .int K a)) (by simp [binOp, Op.intCmp])) h
theorem s_gtr (h : k (.bool (decide (a > b)))) : XS P S (binS .gtr T c (.int K a) (.int K b)) k := XS_of (fun u => run_binS (eqG_int (x := .int K a)) (by simp [binOp, Op.intCmp])) h
theorem s_geq (h : k (.bool (decide (a ≥ b)))) : XS P S (binS .geq T c (.int K a) (.int K b)) k := XS_of (fun u => run_binS (eqG_int (x := .int K a)) (by simp [binOp, Op.intCmp])) h
theorem s_eql (h : k (.bool (a == b))) : XS P S (binS .eql T c (.int K a) (.int K b)) k := XS_of (fun u => run_binS (eqG_int (x := .int K a)) (by simp [binOp, Op.intCmp])) h
theorem s_neq (h : k (.bool (a != b))) : XS P S (binS .neq T c (.int K a) (.int K b)) k := XS_of (fun u => run_binS (eqG_int (x := .int K a)) (by simp [binOp, Op.intCmp])) h
theorem s_eqls {s t : ByteArray} (h : k (.bool (s.toList == t.toList))) : XS P S (binS .eql T c (.string s) (.string t)) k := XS_of (fun u => run_binS eqG_string (by simp [binOp, Op.stringOp])) h
theorem s_neqs {s t : ByteArray} (h : k (.bool (!(s.toList == t.toList)))) : XS P S (binS .neq T c (.string s) (.string t)) k := XS_of (fun u => run_binS eqG_string (by simp [binOp, Op.stringOp])) h
theorem s_neqb {s t : Bool} [hT : BoT P T] (h : k (.bool (!(s == t)))) : XS P S (binS .neq T c (.bool s) (.bool t)) k := XS_of (fun u => run_binS eqG_bool (by simp [binOp, run_equal_bool, hT.eq])) h
theorem s_not {s : Bool} (h : k (.bool (!s))) : XS P S (Op.unary .not (.bool s)) k := XS_of (fun u => by simp [Op.unary]) h
theorem s_nil {p : Addr} (h : k (.pointer (some p))) : XSN P S (nilS (.pointer (some p))) k := ⟨_, fun u _ => rfl, h⟩
end

/-! ### branches -/
theorem condW_b {b : Bool} {A B : Prop} (h1 : b = true → A) (h2 : b = false → B) : condW (.bool b) A B := by cases b <;> simp only [condW] <;> simp_all
theorem condW_dec {p : Prop} [Decidable p] {A B : Prop} (h1 : p → A) (h2 : ¬ p → B) : condW (.bool (decide p)) A B := condW_b (fun h => h1 (by simpa using h)) (fun h => h2 (by simpa using h))
theorem condW_eq {a b : Int} {A B : Prop} (h1 : a = b → A) (h2 : a ≠ b → B) : condW (.bool (a == b)) A B := condW_b (fun h => h1 (by simpa using h)) (fun h => h2 (by simpa using h))
theorem condW_ne {a b : Int} {A B : Prop} (h1 : a ≠ b → A) (h2 : a = b → B) : condW (.bool (a != b)) A B := condW_b (fun h => h1 (by simpa using h)) (fun h => h2 (by simpa using h))
theorem gd_b {b want : Bool} {A B : Prop} (h1 : b = want → A) (h2 : b = (!want) → B) : gd (.bool b) want A B := by cases b <;> cases want <;> simp only [gd, gdB] <;> simp_all
theorem gd_dec {p : Prop} [Decidable p] {A B : Prop} (h1 : p → A) (h2 : ¬ p → B) : gd (.bool (decide p)) true A B := by
  by_cases h : p
  · simp only [h, decide_true, gd, gdB]; exact h1 h
  · simp only [h, decide_false, gd, gdB]; exact h2 h
theorem gd_same {b : Bool} {A B : Prop} (h1 : b = false → A) (h2 : b = true → B) : gd (.bool b) false A B := by cases b <;> simp only [gd, gdB] <;> simp_all
/-! two values held against one another, and the branch -/
section
variable {T : TypeId} {c : Bool} {K : IntKind} {a b : Int} {A B : World → Prop}
theorem ne_gd (h1 : a = b → A w) (h2 : a ≠ b → B w) : XV P (binS .neq T c (.int K a) (.int K b)) w fun v w => gd v false (A w) (B w) := by
  rw [x_neq]; exact gd_same (fun h => h1 (by simpa using h)) (fun h => h2 (by simpa using h))
theorem ne_cond (h1 : a ≠ b → A w) (h2 : a = b → B w) : XV P (binS .neq T c (.int K a) (.int K b)) w fun v w => condW v (A w) (B w) := by
  rw [x_neq]; exact condW_ne h1 h2
theorem eq_gd (h1 : a = b → A w) (h2 : a ≠ b → B w) : XV P (binS .eql T c (.int K a) (.int K b)) w fun v w => gd v true (A w) (B w) := by
  rw [x_eql]; exact gd_b (fun h => h1 (by simpa using h)) (fun h => h2 (by simpa using h))
theorem eq_cond (h1 : a = b → A w) (h2 : a ≠ b → B w) : XV P (binS .eql T c (.int K a) (.int K b)) w fun v w => condW v (A w) (B w) := by
  rw [x_eql]; exact condW_eq h1 h2
theorem lt_cond (h1 : a < b → A w) (h2 : b ≤ a → B w) : XV P (binS .lss T c (.int K a) (.int K b)) w fun v w => condW v (A w) (B w) := by
  rw [x_lss]; exact condW_dec h1 (fun h => h2 (by omega))
theorem lt_gd (h1 : a < b → A w) (h2 : b ≤ a → B w) : XV P (binS .lss T c (.int K a) (.int K b)) w fun v w => gd v true (A w) (B w) := by
  rw [x_lss]; exact gd_dec h1 (fun h => h2 (by omega))
theorem bytes_eq {s t : ByteArray} : (s.toList == t.toList) = true ↔ s = t := by
  rw [beq_iff_eq, ByteArray.toList_eq, ByteArray.toList_eq]
  constructor
  · intro h; cases s; cases t; simpa using h
  · rintro rfl; rfl
theorem nes_gd {s t : ByteArray} (h1 : s = t → A w) (h2 : s ≠ t → B w) : XV P (binS .neq T c (.string s) (.string t)) w fun v w => gd v false (A w) (B w) := by
  rw [x_neqs]; exact gd_same (fun h => h1 (bytes_eq.1 (by simpa using h))) (fun h => h2 (fun e => by rw [bytes_eq.2 e] at h; cases h))
theorem eqs_gd {s t : ByteArray} (h1 : s = t → A w) (h2 : s ≠ t → B w) : XV P (binS .eql T c (.string s) (.string t)) w fun v w => gd v true (A w) (B w) := by
  rw [x_eqls]; exact gd_b (fun h => h1 (bytes_eq.1 h)) (fun h => h2 (fun e => by rw [bytes_eq.2 e] at h; cases h))
theorem nes_cond {s t : ByteArray} (h1 : s ≠ t → A w) (h2 : s = t → B w) : XV P (binS .neq T c (.string s) (.string t)) w fun v w => condW v (A w) (B w) := by
  rw [x_neqs]; exact condW_b (fun h => h1 (fun e => by rw [bytes_eq.2 e] at h; cases h)) (fun h => h2 (bytes_eq.1 (by simpa using h)))
theorem neb_gd {s t : Bool} [BoT P T] (h1 : s = t → A w) (h2 : s ≠ t → B w) : XV P (binS .neq T c (.bool s) (.bool t)) w fun v w => gd v false (A w) (B w) := by
  rw [x_neqb]; exact gd_same (fun h => h1 (by simpa using h)) (fun h => h2 (by simpa using h))
theorem eqb_gd {s t : Bool} [BoT P T] (h1 : s = t → A w) (h2 : s ≠ t → B w) : XV P (binS .eql T c (.bool s) (.bool t)) w fun v w => gd v true (A w) (B w) := by
  rw [x_eqlb]; exact gd_b (fun h => h1 (by simpa using h)) (fun h => h2 (by simpa using h))
theorem neb_cond {s t : Bool} [BoT P T] (h1 : s ≠ t → A w) (h2 : s = t → B w) : XV P (binS .neq T c (.bool s) (.bool t)) w fun v w => condW v (A w) (B w) := by
  rw [x_neqb]; exact condW_b (fun h => h1 (by simpa using h)) (fun h => h2 (by simpa using h))
theorem not_gd {s : Bool} (h1 : s = true → A w) (h2 : s = false → B w) : XV P (Op.unary .not (.bool s)) w fun v w => gd v false (A w) (B w) := by
  rw [x_not]; exact gd_same (fun h => h1 (by simpa using h)) (fun h => h2 (by simpa using h))
theorem not_cond {s : Bool} (h1 : s = false → A w) (h2 : s = true → B w) : XV P (Op.unary .not (.bool s)) w fun v w => condW v (A w) (B w) := by
  rw [x_not]; exact condW_b (fun h => h1 (by simpa using h)) (fun h => h2 (by simpa using h))
end
theorem wrap_id {n : Int} (h1 : -9223372036854775808 ≤ n) (h2 : n ≤ 9223372036854775807) : IntKind.i64.wrap n = n := by
  unfold IntKind.wrap
  simp only [IntKind.bits, IntKind.signed, Bool.true_and, decide_eq_true_eq, ge_iff_le]
  split <;> omega
@[go_sem] theorem condW_true {A B : Prop} : condW (.bool true) A B = A := rfl
@[go_sem] theorem condW_false {A B : Prop} : condW (.bool false) A B = B := rfl
@[go_sem] theorem gd_tt {A B : Prop} : gd (.bool true) true A B = A := rfl
@[go_sem] theorem gd_tf {A B : Prop} : gd (.bool true) false A B = B := rfl
@[go_sem] theorem gd_ft {A B : Prop} : gd (.bool false) true A B = B := rfl
@[go_sem] theorem gd_ff {A B : Prop} : gd (.bool false) false A B = A := rfl

/-! ### memory -/
theorem XV_eq {s : Sem Value} {v : Value} {w' : World} {k : Value → World → Prop} (h : s.run P w = .ok v w') : XV P s w k = k v w' := by unfold XV; rw [h]
theorem XU_eq {s : Sem Unit} {u : Unit} {w' : World} {k : World → Prop} (h : s.run P w = .ok u w') : XU P s w k = k w' := by unfold XU; rw [h]
@[go_sem] theorem x_box {T : TypeId} {v : Value} {k : Value → World → Prop} : XV P (Instr.box T v) w k = k (.pointer (some ⟨w.heap.size, 0, none⟩)) (w.alloc (.cells v.cells T)) := by
  unfold XV Instr.box newVar newRow newObj
  rfl
def add0 (a : Addr) (n : Nat) : Addr := a.add n
theorem add_at (b o n : Nat) : (⟨b, o, none⟩ : Addr).add n = ⟨b, o + n, none⟩ := by unfold Addr.add; split <;> simp_all
theorem run_fieldAt {S f d b o : Nat} (h : fieldOff P S f = some d) : (Instr.fieldAt S (.pointer (some ⟨b, o, none⟩)) f).run P w = .ok (.pointer (some ⟨b, o + d, none⟩)) w := by
  unfold fieldOff at h
  split at h <;> try cases h
  rename_i fs hu
  split at h <;> try cases h
  rename_i fd hf
  split at h <;> try cases h
  rename_i i hi
  split at h <;> try cases h
  rename_i hsz
  simp [Instr.fieldAt, run_underlying hu, hf, Instr.sureAddr, fieldPlace, sizeOf, typeInfo, hi, hsz, add_at]
theorem run_loadAt {T : Nat} {a : Addr} {v : Value} (h : plainT P T = true) (hc : w.cell? a = some v) : (Instr.loadAt T (.pointer (some a))).run P w = .ok v w := by
  unfold plainT at h
  cases hu : P.underlying T with
  | none => rw [hu] at h; cases h
  | some d =>
    rw [hu] at h
    have : ∀ fs, d ≠ .struct fs := fun fs e => by subst e; cases h
    have h2 : ∀ n e, d ≠ .array n e := fun n e he => by subst he; cases h
    cases d <;> simp_all [Instr.loadAt, Instr.sureAddr, loadVar, isAgg, run_underlying hu]
theorem run_store_one {a : Addr} {v u : Value} (ho : oneCell v = true) (hc : w.cell? a = some u) (hf : w.frozen? a = false) : (store a v).run P w = .ok () (w.setCell a v) := by
  cases v <;> first | (simp [store, Sem.run, hc, hf]; done) | (simp [oneCell] at ho; done)
theorem run_storeAt {T : Nat} {a : Addr} {v u : Value} (h : oneT P T = true) (ho : oneCell v = true) (hc : w.cell? a = some u) (hf : w.frozen? a = false) : (Instr.storeAt T (.pointer (some a)) v).run P w = .ok () (w.setCell a v) := by
  unfold oneT at h
  cases hi : P.info? T with
  | none => rw [hi] at h; cases h
  | some i =>
    rw [hi] at h
    have hsz : i.size = 1 := by simpa using h
    have h0 : a.add 0 = a := rfl
    have hs := run_store_one (P := P) ho hc hf
    have hv : v.cells = #[v] := by cases v <;> first | rfl | (simp [oneCell] at ho; done)
    simp [Instr.storeAt, Instr.sureAddr, storeVar, sizeOf, typeInfo, hi, hsz, hv, storeCells, h0, hs]
section
variable {S T f d b o : Nat} {k : Value → World → Prop} {v x : Value}
theorem LF_ok [FO P S f d] [PT P T] (hc : w.cell? ⟨b, o + d, none⟩ = some v) (hk : k v w) : LF P S T f (.pointer (some ⟨b, o, none⟩)) w k := by
  unfold LF; rw [x_nil, XV_eq (run_fieldAt FO.eq), XV_eq (run_loadAt PT.eq hc)]; exact hk
theorem LB_ok [FO P S f d] [PT P T] (hc : w.cell? ⟨b, o + d, none⟩ = some v) (hk : k v w) : LB P S T f (.pointer (some ⟨b, o, none⟩)) w k := by
  unfold LB; rw [XV_eq (run_fieldAt FO.eq), XV_eq (run_loadAt PT.eq hc)]; exact hk
theorem SF_ok {u : Value} {k : World → Prop} [FO P S f d] [OT P T] (hx : oneCell x = true) (hc : w.cell? ⟨b, o + d, none⟩ = some u) (hf : w.frozen? ⟨b, o + d, none⟩ = false) (hk : k (w.setCell ⟨b, o + d, none⟩ x)) :
    SF P S T f (.pointer (some ⟨b, o, none⟩)) x w k := by
  unfold SF; rw [x_nil, XV_eq (run_fieldAt FO.eq), XU_eq (run_storeAt OT.eq hx hc hf)]; exact hk
theorem SB_ok {u : Value} {k : World → Prop} [FO P S f d] [OT P T] (hx : oneCell x = true) (hc : w.cell? ⟨b, o + d, none⟩ = some u) (hf : w.frozen? ⟨b, o + d, none⟩ = false) (hk : k (w.setCell ⟨b, o + d, none⟩ x)) :
    SB P S T f (.pointer (some ⟨b, o, none⟩)) x w k := by
  unfold SB; rw [XV_eq (run_fieldAt FO.eq), XU_eq (run_storeAt OT.eq hx hc hf)]; exact hk
end
end Go.Proofs.YtdgffjkcpbolmaaGreatDoor.Fx
