/-
  Structs and arrays stored whole, made anew, and read at the end. No condition.
-/
import Derived.Test.YtdgffjkcpbolmaaGreatDoorFxMem
namespace Go.Proofs.YtdgffjkcpbolmaaGreatDoor.Fx
open Go Go.RowKit
set_option linter.unusedVariables false
section
variable {P : Program}
theorem run_storeCells_blk {b o T : Nat} : ∀ (vs : List Value) (i : Nat) (w : World) (cs : List Value), Blk w b cs T → o + i + vs.length ≤ cs.length → (∀ v ∈ vs, oneCell v = true) →
    ∃ w', (storeCells ⟨b, o, none⟩ vs i).run P w = .ok () w' ∧ Blk w' b (cs.take (o + i) ++ vs ++ cs.drop (o + i + vs.length)) T ∧ Chg (· = b) w w' ∧ w'.heap.size = w.heap.size := by
  intro vs
  induction vs with
  | nil => intro i w cs hb hl _; exact ⟨w, rfl, by simpa using hb, Chg.refl _ _, rfl⟩
  | cons v vs ih =>
    intro i w cs hb hl h1
    simp only [List.length_cons] at hl
    have hc : w.cell? ⟨b, o + i, none⟩ = some cs[o + i] := by rw [hb.cell]; exact List.getElem?_eq_getElem (by omega)
    have hs := run_store_one (P := P) (h1 v (by simp)) hc (hb.free _)
    obtain ⟨w', hr, hb', hc', hz'⟩ := ih (i + 1) _ _ (hb.set (o + i) v) (by simp; omega) (fun u hu => h1 u (by simp [hu]))
    refine ⟨w', ?_, ?_, (chg_set w b _ v).trans hc', by rw [hz', size_set]⟩
    · simp only [storeCells, add_at, Sem.run_bind, hs, Result.andThen, hr]
    · have : List.take (o + (i + 1)) (cs.set (o + i) v) ++ vs ++ List.drop (o + (i + 1) + vs.length) (cs.set (o + i) v) = List.take (o + i) cs ++ v :: vs ++ List.drop (o + i + (v :: vs).length) cs := by
        rw [List.drop_set_of_lt (by omega), ← Nat.add_assoc, List.take_add_one, List.getElem?_set_self (by omega), List.take_set_of_le (by omega)]
        simp [Nat.add_assoc, Nat.add_comm 1]
      rw [← this]; exact hb'
theorem run_storeAt_blk {w : World} {b o T T0 n : Nat} {cs : List Value} {vs : List Value} (hb : Blk w b cs T0) (hs : szT P T = some n) (hl : vs.length = n) (hle : o + n ≤ cs.length) (h1 : vs.all oneCell = true) :
    ∃ w', (Instr.storeAt T (.pointer (some ⟨b, o, none⟩)) (.agg vs.toArray)).run P w = .ok () w' ∧ Blk w' b (cs.take o ++ vs ++ cs.drop (o + n)) T0 ∧ Chg (· = b) w w' ∧ w'.heap.size = w.heap.size := by
  unfold szT at hs
  cases hq : P.info? T with
  | none => simp [hq] at hs
  | some q =>
    simp [hq] at hs
    obtain ⟨w', hr, hb', hc, hz⟩ := run_storeCells_blk (P := P) (o := o) vs 0 w cs hb (by omega) (fun v hv => List.all_eq_true.1 h1 v hv)
    refine ⟨w', ?_, by simpa [hl] using hb', hc, hz⟩
    have hcells : (Value.agg vs.toArray).cells = vs.toArray := rfl
    simp only [Instr.storeAt, Instr.sureAddr, storeVar, pure_bind, Sem.run_bind, sizeOf, typeInfo, hcells]
    simp [hq, hs, hl, hr]
/-- A struct stored in a field. -/
theorem SB_blkA {w : World} {S T f d b o T0 n : Nat} {cs vs : List Value} {k : World → Prop} (hb : Blk w b cs T0) [FO P S f d] [SzT P T n] (hl : vs.length = n) (hle : o + d + n ≤ cs.length) (h1 : vs.all oneCell = true)
    (hk : ∀ w', Blk w' b (cs.take (o + d) ++ vs ++ cs.drop (o + d + n)) T0 → Chg (· = b) w w' → w'.heap.size = w.heap.size → k w') : SB P S T f (.pointer (some ⟨b, o, none⟩)) (.agg vs.toArray) w k := by
  obtain ⟨w', hr, hb', hc, hz⟩ := run_storeAt_blk (P := P) (T := T) (vs := vs) hb SzT.eq hl hle h1
  unfold SB
  rw [XV_eq (run_fieldAt FO.eq), XU_eq hr]
  exact hk w' hb' hc hz
/-- A struct stored whole. -/
theorem store_blkA {w : World} {T b T0 n : Nat} {cs vs : List Value} {k : World → Prop} (hb : Blk w b cs T0) [SzT P T n] (hl : vs.length = n) (hle : cs.length = n) (h1 : vs.all oneCell = true)
    (hk : ∀ w', Blk w' b vs T0 → Chg (· = b) w w' → w'.heap.size = w.heap.size → k w') : XU P (Instr.storeAt T (.pointer (some ⟨b, 0, none⟩)) (.agg vs.toArray)) w k := by
  obtain ⟨w', hr, hb', hc, hz⟩ := run_storeAt_blk (P := P) (T := T) (vs := vs) (o := 0) hb SzT.eq hl (by omega) h1
  rw [XU_eq hr]
  refine hk w' ?_ hc hz
  have : List.take 0 cs ++ vs ++ List.drop (0 + n) cs = vs := by rw [List.drop_of_length_le (by omega)]; simp
  rwa [this] at hb'
/-- A struct read whole, of a block known whole. -/
theorem load_blkA {w : World} {T b T0 n : Nat} {cs : List Value} {k : Value → World → Prop} (hb : Blk w b cs T0) [AT P T] [SzT P T n] (hl : cs.length = n) (hk : k (.agg cs.toArray) w) : XV P (Instr.loadAt T (.pointer (some ⟨b, 0, none⟩))) w k := by
  rw [XV_eq (run_loadAgg AT.eq SzT.eq hl (fun j u hu => by rw [Nat.zero_add, hb.cell]; exact hu))]
  exact hk
/-- What a call answers off its result's own block. -/
theorem ret_blkA {w : World} {T b T0 n : Nat} {cs : List Value} {R : Value → World → Prop} (hb : Blk w b cs T0) [AT P T] [SzT P T n] (hl : cs.length = n) (hk : R (.agg cs.toArray) w) :
    ∃ v, (do loadVar T (← asAddr (.pointer (some ⟨b, 0, none⟩))) : Sem Value).run P w = .ok v w ∧ R v w := by
  refine ⟨_, ?_, hk⟩
  have := run_loadAgg (P := P) (T := T) (w := w) (b := b) (o := 0) (cs := cs) AT.eq SzT.eq hl (fun j u hu => by rw [Nat.zero_add, hb.cell]; exact hu)
  exact this
def zeroC (P : Program) (T : Nat) : Option (List Value) := (P.info? T).bind fun i => i.zero.map (·.cells.toList)
/-- A new variable. -/
theorem alloc_ok {w : World} {T : Nat} {zs : List Value} {x : Value} {k : Value → World → Prop} (hz : zeroC P T = some zs)
    (hk : ∀ w' b, Ext w w' → w.heap.size ≤ b → Blk w' b zs T → w'.heap.size = w.heap.size + 1 → k (.pointer (some ⟨b, 0, none⟩)) w') : XV P (Instr.alloc T true x) w k := by
  unfold zeroC at hz
  cases hi : P.info? T with
  | none => simp [hi] at hz
  | some i =>
    simp [hi] at hz
    obtain ⟨z, hz, rfl⟩ := hz
    have hr : (Instr.alloc T true x).run P w = .ok (.pointer (some ⟨w.heap.size, 0, none⟩)) (w.alloc (.cells z.cells T)) := by
      simp only [Instr.alloc, Sem.run_bind, zeroValue, typeInfo]
      simp [hi, hz, newVar, newRow, newObj, Sem.run, Result.andThen]
    rw [XV_eq hr]
    have := Blk.new w z.cells.toList T
    exact hk _ _ (ext_alloc _ _) (Nat.le_refl _) (by simpa using this) (by simp)
end
end Go.Proofs.YtdgffjkcpbolmaaGreatDoor.Fx
