/-
  The program's packet: the tables, numbers, messages, foreign fields. No condition.
-/
import Derived.Test.YtdgffjkcpbolmaaGreatDoorGPkt
import Derived.Test.YtdgffjkcpbolmaaGreatDoorRef2b
import Derived.Test.YtdgffjkcpbolmaaGreatDoorFxEq
import Derived.Test.YtdgffjkcpbolmaaGreatDoorStr
import Derived.Laws.BytesString
namespace Go.Proofs.YtdgffjkcpbolmaaGreatDoor.X
open Go Go.RowKit Go.Proofs.YtdgffjkcpbolmaaGreatDoor.Fx
set_option maxRecDepth 100000
set_option linter.unusedVariables false
set_option linter.unusedSimpArgs false
def hasv (k : Nat) : Int := [0, 1, 2, 4, 8, 8, 8, 8, 24, 40, 72, 8, 0, 0, 0].getD k 0
def flagv (k : Nat) : Int := [0, 0, 0, 0, 0, 0, 2, 0, 2, 0, 2, 0, 0, 0, 0].getD k 0
/-- The two tables lie as the program's text lays them. -/
structure Tabs (w : World) : Prop where
  has : ∀ i, i < 15 → w.cell? ⟨0, i, none⟩ = some (.int .i64 (hasv i))
  flags : ∀ i, i < 15 → w.cell? ⟨1, i, none⟩ = some (.int .i64 (flagv i))
theorem Tabs.ext {w w' : World} (h : Tabs w) (e : Ext w w') : Tabs w' := ⟨fun i hi => e.cell (h.has i hi), fun i hi => e.cell (h.flags i hi)⟩
theorem Tabs.chg {w w' : World} {M : Nat → Prop} (h : Tabs w) (e : Chg M w w') (h1 : ¬ M 0) (h2 : ¬ M 1) : Tabs w' := ⟨fun i hi => e.cell (h.has i hi) h1, fun i hi => e.cell (h.flags i hi) h2⟩
section
variable {w : World} {k : Value → World → Prop}
theorem has_ok {n : Int} (ht : Tabs w) (h0 : 1 ≤ n ∧ n ≤ 14) (hk : k (.int .i64 (hasv n.toNat)) w) : LI P 159 3 (.pointer (some ⟨0, 0, none⟩)) (.int .i64 n) w k := by
  obtain ⟨m, rfl⟩ : ∃ m : Nat, n = m := ⟨n.toNat, by omega⟩
  unfold LI
  rw [XV_eq (run_indexArr (n := 15) (E := 3) (sz := 1) (by kernel_rfl) (by kernel_rfl) (by omega)), XV_eq (run_loadAt PT.eq (by rw [show 0 + m * 1 = m by omega]; exact ht.has m (by omega)))]
  exact hk
theorem flag_ok {n : Int} (ht : Tabs w) (h0 : 1 ≤ n ∧ n ≤ 14) (hk : k (.int .i64 (flagv n.toNat)) w) : LI P 159 3 (.pointer (some ⟨1, 0, none⟩)) (.int .i64 n) w k := by
  obtain ⟨m, rfl⟩ : ∃ m : Nat, n = m := ⟨n.toNat, by omega⟩
  unfold LI
  rw [XV_eq (run_indexArr (n := 15) (E := 3) (sz := 1) (by kernel_rfl) (by kernel_rfl) (by omega)), XV_eq (run_loadAt PT.eq (by rw [show 0 + m * 1 = m by omega]; exact ht.flags m (by omega)))]
  exact hk
theorem x_and {T : TypeId} {c : Bool} {a b : Int} : XV P (binS .and T c (.int .i64 a) (.int .i64 b)) w k = k (.int .i64 (bits .and .i64 a b)) w := XV_binS (eqG_int (x := .int .i64 a)) (by simp [binOp, Op.intBits]; rfl)
theorem x_or {T : TypeId} {c : Bool} {a b : Int} : XV P (binS .or T c (.int .i64 a) (.int .i64 b)) w k = k (.int .i64 (bits .or .i64 a b)) w := XV_binS (eqG_int (x := .int .i64 a)) (by simp [binOp, Op.intBits]; rfl)
theorem masks : ((List.range 15).all fun n => decide (bits .and .i64 (hasv n) 1 = if n = 1 then 1 else 0) && decide (bits .and .i64 (hasv n) 2 = if n = 2 then 2 else 0) && decide (bits .and .i64 (hasv n) 4 = if n = 3 then 4 else 0) &&
    decide (bits .and .i64 (hasv n) 8 = if 4 ≤ n ∧ n ≤ 11 then 8 else 0) && decide (bits .and .i64 (hasv n) 16 = if n = 8 then 16 else 0) && decide (bits .and .i64 (hasv n) 32 = if n = 9 then 32 else 0) && decide (bits .and .i64 (hasv n) 64 = if n = 10 then 64 else 0)) = true := by kernel_rfl
theorem mask {n : Int} (h0 : 1 ≤ n ∧ n ≤ 14) : bits .and .i64 (hasv n.toNat) 1 = (if n = 1 then 1 else 0) ∧ bits .and .i64 (hasv n.toNat) 2 = (if n = 2 then 2 else 0) ∧ bits .and .i64 (hasv n.toNat) 4 = (if n = 3 then 4 else 0) ∧
    bits .and .i64 (hasv n.toNat) 8 = (if 4 ≤ n ∧ n ≤ 11 then 8 else 0) ∧ bits .and .i64 (hasv n.toNat) 16 = (if n = 8 then 16 else 0) ∧ bits .and .i64 (hasv n.toNat) 32 = (if n = 9 then 32 else 0) ∧ bits .and .i64 (hasv n.toNat) 64 = (if n = 10 then 64 else 0) := by
  obtain ⟨m, rfl⟩ : ∃ m : Nat, n = m := ⟨n.toNat, by omega⟩
  have := List.all_eq_true.1 masks m (List.mem_range.2 (by omega))
  simp only [Bool.and_eq_true, decide_eq_true_eq] at this
  obtain ⟨⟨⟨⟨⟨⟨a1, a2⟩, a3⟩, a4⟩, a5⟩, a6⟩, a7⟩ := this
  have e : ∀ q : Nat, ((m : Int) = (q : Int)) = (m = q) := fun q => propext (by omega)
  have t1 : ((m : Int) = 1) = (m = 1) := e 1
  have t2 : ((m : Int) = 2) = (m = 2) := e 2
  have t3 : ((m : Int) = 3) = (m = 3) := e 3
  have t5 : ((m : Int) = 8) = (m = 8) := e 8
  have t6 : ((m : Int) = 9) = (m = 9) := e 9
  have t7 : ((m : Int) = 10) = (m = 10) := e 10
  have t4 : (4 ≤ (m : Int) ∧ (m : Int) ≤ 11) = (4 ≤ m ∧ m ≤ 11) := propext (by omega)
  simp only [t1, t2, t3, t4, t5, t6, t7, Int.toNat_natCast]
  exact ⟨a1, a2, a3, a4, a5, a6, a7⟩
section
variable {T : TypeId} {c : Bool} {n : Int}
theorem m1 (h0 : 1 ≤ n ∧ n ≤ 14) : XV P (binS .and T c (.int .i64 (hasv n.toNat)) (.int .i64 1)) w k = k (.int .i64 (if n = 1 then 1 else 0)) w := by rw [x_and, (mask h0).1]
theorem m2 (h0 : 1 ≤ n ∧ n ≤ 14) : XV P (binS .and T c (.int .i64 (hasv n.toNat)) (.int .i64 2)) w k = k (.int .i64 (if n = 2 then 2 else 0)) w := by rw [x_and, (mask h0).2.1]
theorem m4 (h0 : 1 ≤ n ∧ n ≤ 14) : XV P (binS .and T c (.int .i64 (hasv n.toNat)) (.int .i64 4)) w k = k (.int .i64 (if n = 3 then 4 else 0)) w := by rw [x_and, (mask h0).2.2.1]
theorem m8 (h0 : 1 ≤ n ∧ n ≤ 14) : XV P (binS .and T c (.int .i64 (hasv n.toNat)) (.int .i64 8)) w k = k (.int .i64 (if 4 ≤ n ∧ n ≤ 11 then 8 else 0)) w := by rw [x_and, (mask h0).2.2.2.1]
theorem m16 (h0 : 1 ≤ n ∧ n ≤ 14) : XV P (binS .and T c (.int .i64 (hasv n.toNat)) (.int .i64 16)) w k = k (.int .i64 (if n = 8 then 16 else 0)) w := by rw [x_and, (mask h0).2.2.2.2.1]
theorem m32 (h0 : 1 ≤ n ∧ n ≤ 14) : XV P (binS .and T c (.int .i64 (hasv n.toNat)) (.int .i64 32)) w k = k (.int .i64 (if n = 9 then 32 else 0)) w := by rw [x_and, (mask h0).2.2.2.2.2.1]
theorem m64 (h0 : 1 ≤ n ∧ n ≤ 14) : XV P (binS .and T c (.int .i64 (hasv n.toNat)) (.int .i64 64)) w k = k (.int .i64 (if n = 10 then 64 else 0)) w := by rw [x_and, (mask h0).2.2.2.2.2.2]
end
/-! ### bytes as a string -/
def strOf (xs : List UInt8) : ByteArray := ⟨xs.toArray⟩
theorem strOf_inj {xs ys : List UInt8} : strOf xs = strOf ys ↔ xs = ys := by
  unfold strOf
  constructor
  · intro h; injection h with h; simpa using h
  · rintro rfl; rfl
theorem foldl_push : ∀ (xs : List UInt8) (s : ByteArray), ((xs.map fun x : UInt8 => (x.toNat : Int)).foldl (fun r n => r.push (UInt8.ofNat n.toNat)) s) = ⟨s.data ++ xs.toArray⟩
  | [], s => by simp
  | x :: xs, s => by
    rw [List.map_cons, List.foldl_cons, foldl_push xs]
    have : UInt8.ofNat ((x.toNat : Int)).toNat = x := by simp
    rw [this]
    congr 1
    simp [ByteArray.push]
theorem conv_ok {w0 : World} {S D : TypeId} {v : Value} {xs : List UInt8} (hS : P.underlying S = some (.slice 5)) (hD : P.underlying D = some .string) (h : Sl Kn.byte w0 v xs) (h0 : Ext w0 w) (hk : k (.string (strOf xs)) w) : XV P (convert S D v) w k := by
  obtain ⟨a, cap, rfl, _, hx⟩ := h
  have hc := run_convert_bytes_string (P := P) w S D 5 a xs.length cap hS (by kernel_rfl) hD
  cases a with
  | none =>
    have : xs = [] := by
      cases xs with
      | nil => rfl
      | cons x xs => obtain ⟨b, o, h, _⟩ := hx (by simp); cases h
    subst this
    rw [XV_eq (hc.trans (show _ = Result.ok (.string (strOf [])) w from rfl))]
    exact hk
  | some a =>
    have hl : (loadCells a xs.length).run P w = .ok ((xs.map fun x : UInt8 => (x.toNat : Int)).map (Value.int .u8)).toArray w := by
      have := run_loadCells_list (P := P) w a ((xs.map fun x : UInt8 => (x.toNat : Int)).map (Value.int .u8)) (fun j v hj => by
        obtain ⟨b, o, ha, hx'⟩ := hx (by rintro rfl; simp at hj)
        injection ha with ha; subst ha
        rw [List.getElem?_map, List.getElem?_map] at hj
        cases hxj : xs[j]? with
        | none => rw [hxj] at hj; cases hj
        | some x =>
          rw [hxj] at hj
          obtain rfl := Option.some.inj hj
          obtain ⟨cs, hcs, hc⟩ := hx' j x hxj
          obtain rfl : cs = [.int .u8 x.toNat] := hcs
          have := h0.cell (hc 0 _ rfl)
          rw [add_at]
          rw [show o + j * Kn.byte.sz + 0 = o + j by show o + j * 1 + 0 = o + j; omega] at this
          exact this)
      simpa using this
    rw [XV_eq (hc.trans (run_bytesToString (P := P) w a xs.length cap _ hl)), foldl_push]
    have : (⟨ByteArray.empty.data ++ xs.toArray⟩ : ByteArray) = strOf xs := by unfold strOf; simp [ByteArray.empty, ByteArray.emptyWithCapacity]; rfl
    rw [this]
    exact hk
theorem equal_ok {w0 : World} {a b : Value} {xs ys : List UInt8} (ha : Sl Kn.byte w0 a xs) (hb : Sl Kn.byte w0 b ys) (h0 : Ext w0 w) (hk : k (.bool (decide (xs = ys))) w) : CallF P 19 #[a, b] w k := by
  refine c19 _ _ _ _ ?_
  unfold S19_0
  refine conv_ok (by kernel_rfl) (by kernel_rfl) ha h0 (conv_ok (by kernel_rfl) (by kernel_rfl) hb h0 ?_)
  rw [x_eqs2]
  simp only [strOf_inj]
  exact hk
theorem plainly_ok {w0 : World} {cs : List Value} {m : Msg} (hm : Kn.msg.rep w0 m cs) (hk : ∀ w', Ext w w' → k (.agg #[.string m.topic, .int .i64 m.qos, .bool m.retain]) w') : CallF P 88 #[.agg cs.toArray] w k := by
  obtain ⟨vp, rfl, hv⟩ := hm
  refine c88 _ _ _ ?_
  unfold S88_0
  refine box_ok fun w1 b1 e1 n1 hA z1 => alloc_ok (T := 93) (zs := [.string ⟨#[]⟩, .int .i64 0, .bool false]) (by kernel_rfl) fun w2 b2 e2 n2 hB z2 => ?_
  have hA := hA.ext e2
  refine LB_blk hA rfl (LB_blk hA rfl (LB_blk hA rfl ?_))
  rw [XV_eq (show (Instr.build 93 #[(0, .string m.topic), (1, .int .i64 m.qos), (2, .bool m.retain)]).run P w2 = .ok (.agg #[.string m.topic, .int .i64 m.qos, .bool m.retain]) w2 by kernel_rfl)]
  refine store_blkA (vs := [.string m.topic, .int .i64 m.qos, .bool m.retain]) hB rfl rfl rfl fun w3 k3 c3 z3 => ?_
  refine ret_blkA k3 rfl (hk _ ?_)
  exact e1.trans (e2.chg_new c3 fun i hi => by omega)
end
theorem LAS_blk {P : Program} {w0 w' : World} {T b T0 n : Nat} {cs : List Value} {k : Value → Prop} [AT P T] [SzT P T n] (hb : Blk w0 b cs T0) (he : Ext w0 w') (hl : cs.length = n) (hk : k (.agg cs.toArray)) :
    XS P (Ext w') (Instr.loadAt T (.pointer (some ⟨b, 0, none⟩))) k :=
  XS_at (fun u hu => run_loadAgg (o := 0) AT.eq SzT.eq hl (fun j v hv => by rw [Nat.zero_add, ((hb.ext he).ext hu).cell]; exact hv)) hk
section
variable {w w0 : World} {p : Pk} {cs : List Value} {k : Value → World → Prop}
theorem sameMsg_ok {ca cb : List Value} {m q : Msg} (ha : Kn.msg.rep w0 m ca) (hb : Kn.msg.rep w0 q cb) (h0 : Ext w0 w) (hk : ∀ w' r, Ext w w' → (r = true ↔ m = q) → k (.bool r) w') : CallF P 20 #[.agg ca.toArray, .agg cb.toArray] w k := by
  have ha' := ha
  have hb' := hb
  obtain ⟨va, rfl, ha⟩ := ha
  obtain ⟨vb, rfl, hb⟩ := hb
  refine c20 _ _ _ _ ?_
  unfold S20_0
  refine box_ok fun w1 b1 e1 n1 hA _ => box_ok fun w2 b2 e2 n2 hB _ => ?_
  replace hA := hA.ext e2
  have e := e1.trans e2
  have d := ext_drew w2
  refine LAS_blk hA d rfl (LAS_blk hB d rfl (plainly_ok ha' fun w3 e3 => ⟨e3, plainly_ok hb' fun w4 e4 => ⟨e3.trans e4, ?_⟩⟩))
  refine s_eqlA (xs := [.string m.topic, .int .i64 m.qos, .bool m.retain]) (ys := [.string q.topic, .int .i64 q.qos, .bool q.retain]) (by kernel_rfl) ?_
  have ee := e.trans (d.trans (e3.trans e4))
  refine gd_b (fun h => ?_) fun h => ?_
  · refine LBS_blk hA d rfl (LBS_blk hB d rfl (equal_ok ha hb (h0.trans ee) ⟨e3.trans e4, ?_⟩))
    refine hk _ _ ee ?_
    simp only [eqCells, valEq, Bool.and_true, Bool.and_eq_true, beq_iff_eq] at h
    have ht := bytes_eq.1 (beq_iff_eq.2 h.1)
    rw [decide_eq_true_eq]
    constructor
    · intro hp; cases m; cases q; simp_all
    · rintro rfl; rfl
  · refine hk _ _ ee ?_
    simp only [Bool.false_eq_true, false_iff]
    rintro rfl
    have : eqCells [.string m.topic, .int .i64 m.qos, .bool m.retain] [.string m.topic, .int .i64 m.qos, .bool m.retain] = true := by simp [eqCells, valEq]
    rw [this] at h; cases h
theorem isKind_ok {n : Int} (hk : ∀ r, (r = true ↔ 1 ≤ n ∧ n ≤ 14) → k (.bool r) w) : CallF P 119 #[.int .i64 n] w k := by
  refine c119 _ _ _ ?_
  unfold S119_0
  repeat' first | refine LB_blk hB rfl ?_ | rw [x_eqs2] | rw [x_nes2] | rw [x_not] | rw [x_pure] | with_reducible refine gd_b (fun _ => ?_) (fun _ => ?_) | with_reducible refine condW_b (fun _ => ?_) (fun _ => ?_) | refine len_sl (by assumption) ?_ | refine lens_ok ?_ | refine fld_ok ?_ | simp only [go_sem]
  all_goals exact hk _ (by clear hk; grind)
theorem isQoS_ok {n : Int} (hk : ∀ r, (r = true ↔ Within n 2) → k (.bool r) w) : CallF P 135 #[.int .i64 n] w k := by
  refine c135 _ _ _ ?_
  unfold S135_0
  repeat' first | refine LB_blk hB rfl ?_ | rw [x_eqs2] | rw [x_nes2] | rw [x_not] | rw [x_pure] | with_reducible refine gd_b (fun _ => ?_) (fun _ => ?_) | with_reducible refine condW_b (fun _ => ?_) (fun _ => ?_) | refine len_sl (by assumption) ?_ | refine lens_ok ?_ | refine fld_ok ?_ | simp only [go_sem]
  all_goals exact hk _ (by clear hk; unfold Within; grind)
theorem numbered_ok (hp : Kn.pk.rep w0 p cs) (ht : Tabs w) (hd : 1 ≤ p.kind ∧ p.kind ≤ 14) (hk : ∀ w' r, Ext w w' → (r = true ↔ Numbered p) → k (.bool r) w') : CallF P 125 #[.agg cs.toArray] w k := by
  obtain ⟨vw, vp, vm, va, vc, vf, rfl, h1, h2, h3, h4, h5, h6⟩ := hp
  refine c125 _ _ _ ?_
  unfold S125_0
  refine box_ok fun w1 b e1 n1 hB z1 => ?_
  have ht := ht.ext e1
  repeat' first | refine has_ok ht hd ?_ | rw [m8 hd] | rw [m4 hd] | refine LB_blk hB rfl ?_ | rw [x_eqs2] | rw [x_nes2] | rw [x_not] | rw [x_pure] | with_reducible refine gd_b (fun _ => ?_) (fun _ => ?_) | with_reducible refine condW_b (fun _ => ?_) (fun _ => ?_) | refine len_sl (by assumption) ?_ | refine lens_ok ?_ | refine fld_ok ?_ | simp only [go_sem]
  all_goals exact hk _ _ e1 (by clear hk h1 h2 h3 h4 h5 h6 hB ht; unfold Numbered; grind)
end
end Go.Proofs.YtdgffjkcpbolmaaGreatDoor.X
