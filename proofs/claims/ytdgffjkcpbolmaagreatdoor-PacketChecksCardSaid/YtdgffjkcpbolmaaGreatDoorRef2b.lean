/-
  The document's packet: what the reference computes. No condition.
-/
import Derived.Test.YtdgffjkcpbolmaaGreatDoorGRef2b
import Derived.Test.YtdgffjkcpbolmaaGreatDoorPkS
import Derived.Test.YtdgffjkcpbolmaaGreatDoorFxAgg
namespace Go.Proofs.YtdgffjkcpbolmaaGreatDoor.X
open Go Go.RowKit Go.Proofs.YtdgffjkcpbolmaaGreatDoor.Fx
set_option maxRecDepth 100000
set_option linter.unusedVariables false
set_option linter.unusedSimpArgs false
section
variable {w : World} {k : Value → World → Prop}
theorem x_eqs2 {T : TypeId} {c : Bool} {s t : ByteArray} : XV P (binS .eql T c (.string s) (.string t)) w k = k (.bool (decide (s = t))) w := by
  rw [x_eqls, show (s.toList == t.toList) = decide (s = t) by rw [Bool.eq_iff_iff, bytes_eq, decide_eq_true_eq]]
theorem x_nes2 {T : TypeId} {c : Bool} {s t : ByteArray} : XV P (binS .neq T c (.string s) (.string t)) w k = k (.bool (decide (s ≠ t))) w := by
  rw [x_neqs, show (!(s.toList == t.toList)) = decide (s ≠ t) by rw [show (s.toList == t.toList) = decide (s = t) by rw [Bool.eq_iff_iff, bytes_eq, decide_eq_true_eq]]; simp]
theorem x_pure {v : Value} : XV P (pure v) w k = k v w := rfl
theorem fld_ok {S f b o d : Nat} [FO P S f d] (hk : k (.pointer (some ⟨b, o + d, none⟩)) w) : XV P (Instr.fieldAt S (.pointer (some ⟨b, o, none⟩)) f) w k := by
  rw [XV_eq (run_fieldAt FO.eq)]; exact hk
end
section
variable {w w0 : World} {p : Pk} {m : Msg} {cs : List Value} {k : Value → World → Prop}
theorem rNumbered_ok (hp : Kn.pk.rep w0 p cs) (hk : ∀ w' r, Ext w w' → (r = true ↔ Numbered p) → k (.bool r) w') : CallF P 133 #[.agg cs.toArray] w k := by
  obtain ⟨vw, vp, vm, va, vc, vf, rfl, h1, h2, h3, h4, h5, h6⟩ := hp
  refine c133 _ _ _ ?_
  unfold S133_0
  refine box_ok fun w1 b e1 n1 hB z1 => ?_
  repeat' first | refine LB_blk hB rfl ?_ | rw [x_eqs2] | rw [x_nes2] | rw [x_not] | rw [x_pure] | with_reducible refine gd_b (fun _ => ?_) (fun _ => ?_) | with_reducible refine condW_b (fun _ => ?_) (fun _ => ?_) | refine len_sl (by assumption) ?_ | refine lens_ok ?_ | refine fld_ok ?_ | simp only [go_sem]
  all_goals exact hk _ _ e1 (by clear hk h1 h2 h3 h4 h5 h6 hB; unfold Numbered; grind)
theorem rWithin_ok {n q : Int} (hk : ∀ r, (r = true ↔ Within n q) → k (.bool r) w) : CallF P 128 #[.int .i64 n, .int .i64 q] w k := by
  refine c128 _ _ _ _ ?_
  unfold S128_0
  repeat' first | refine LB_blk hB rfl ?_ | rw [x_eqs2] | rw [x_nes2] | rw [x_not] | rw [x_pure] | with_reducible refine gd_b (fun _ => ?_) (fun _ => ?_) | with_reducible refine condW_b (fun _ => ?_) (fun _ => ?_) | refine len_sl (by assumption) ?_ | refine lens_ok ?_ | refine fld_ok ?_ | simp only [go_sem]
  all_goals exact hk _ (by clear hk; unfold Within; grind)
theorem rZero_ok (hm : Kn.msg.rep w0 m cs) (hk : ∀ w' r, Ext w w' → (r = true ↔ ZeroMsg m) → k (.bool r) w') : CallF P 199 #[.agg cs.toArray] w k := by
  obtain ⟨vp, rfl, hv⟩ := hm
  refine c199 _ _ _ ?_
  unfold S199_0
  refine box_ok fun w1 b e1 n1 hB z1 => ?_
  repeat' first | refine LB_blk hB rfl ?_ | rw [x_eqs2] | rw [x_nes2] | rw [x_not] | rw [x_pure] | with_reducible refine gd_b (fun _ => ?_) (fun _ => ?_) | with_reducible refine condW_b (fun _ => ?_) (fun _ => ?_) | refine len_sl (by assumption) ?_ | refine lens_ok ?_ | refine fld_ok ?_ | simp only [go_sem]
  all_goals exact hk _ _ e1 (by clear hk hv hB; unfold ZeroMsg; grind)
def F1 (p : Pk) : Prop := p.kind ≠ 1 ∧ (p.level ≠ 0 ∨ p.clean = true ∨ p.keep ≠ 0 ∨ p.client ≠ ⟨#[]⟩ ∨ p.hasWill = true ∨ p.hasUser = true ∨ p.hasPass = true)
def F2 (p : Pk) : Prop := (¬ (p.kind = 1 ∧ p.hasWill = true) ∧ ¬ ZeroMsg p.will) ∨ (¬ (p.kind = 1 ∧ p.hasUser = true) ∧ p.user ≠ ⟨#[]⟩) ∨ (¬ (p.kind = 1 ∧ p.hasPass = true) ∧ p.pass.length ≠ 0)
def F3 (p : Pk) : Prop := p.kind ≠ 2 ∧ (p.present = true ∨ p.code ≠ 0)
def F4 (p : Pk) : Prop := p.kind ≠ 3 ∧ (p.dup = true ∨ ¬ ZeroMsg p.msg)
def F5 (p : Pk) : Prop := (¬ Numbered p ∧ p.id ≠ 0) ∨ (p.kind ≠ 8 ∧ p.asks.length ≠ 0) ∨ (p.kind ≠ 9 ∧ p.codes.length ≠ 0) ∨ (p.kind ≠ 10 ∧ p.filters.length ≠ 0)
theorem foreign_iff : Foreign p ↔ (F1 p ∨ F2 p ∨ F3 p ∨ F4 p ∨ F5 p) := by unfold Foreign F1 F2 F3 F4 F5; simp only [or_assoc]
attribute [local irreducible] S127_1 S127_2 S127_3 S127_4
set_option maxHeartbeats 4000000 in
theorem rForeign_ok (hp : Kn.pk.rep w0 p cs) (h0 : Ext w0 w) (hk : ∀ w' r, Ext w w' → (r = true ↔ Foreign p) → k (.bool r) w') : CallF P 127 #[.agg cs.toArray] w k := by
  have hp' := hp
  obtain ⟨vw, vp, vm, va, vc, vf, rfl, h1, h2, h3, h4, h5, h6⟩ := hp
  rw [foreign_iff] at hk
  refine c127 _ _ _ ?_
  unfold S127_0 B127_0
  refine box_ok fun w1 b e1 n1 hB0 z1 => ?_
  have t1 : ∀ w', Ext w1 w' → ¬ (F1 p ∨ F2 p ∨ F3 p ∨ F4 p) → S127_1 (.pointer (some ⟨b, 0, none⟩)) w' k := fun w' e hn => by
    have hB := hB0.ext e
    unfold S127_1
    refine load_blkA hB rfl ?_
    refine rNumbered_ok hp' fun w2 r e2 hr => ?_
    have hB := hB.ext e2
    repeat' first | refine LB_blk hB rfl ?_ | rw [x_eqs2] | rw [x_nes2] | rw [x_not] | rw [x_pure] | with_reducible refine gd_b (fun _ => ?_) (fun _ => ?_) | with_reducible refine condW_b (fun _ => ?_) (fun _ => ?_) | refine len_sl (by assumption) ?_ | refine lens_ok ?_ | refine fld_ok ?_ | simp only [go_sem]
    all_goals exact hk _ _ ((e1.trans e).trans e2) (by clear hk h1 h2 h3 h4 h5 h6 hB hB0 hp'; unfold F5; grind)
  have t2 : ∀ w', Ext w1 w' → ¬ (F1 p ∨ F2 p ∨ F3 p) → S127_2 (.pointer (some ⟨b, 0, none⟩)) w' k := fun w' e hn => by
    have hB := hB0.ext e
    unfold S127_2 B127_2
    repeat' first | (refine LB_agg hB (o := 0) rfl rfl (rZero_ok (m := p.msg) ⟨vm, rfl, h3⟩ fun w2 r e2 hr => ?_); have hB := hB.ext e2; have e := e.trans e2) | refine LB_blk hB rfl ?_ | rw [x_eqs2] | rw [x_nes2] | rw [x_not] | rw [x_pure] | with_reducible refine gd_b (fun _ => ?_) (fun _ => ?_) | with_reducible refine condW_b (fun _ => ?_) (fun _ => ?_) | refine len_sl (by assumption) ?_ | refine lens_ok ?_ | refine fld_ok ?_ | simp only [go_sem]
    all_goals first | exact t1 _ e (by clear hk h1 h2 h3 h4 h5 h6 hB hB0 hp' t1; unfold F4; grind) | exact hk _ _ (e1.trans e) (by clear hk h1 h2 h3 h4 h5 h6 hB hB0 hp' t1; unfold F4; grind)
  have t3 : ∀ w', Ext w1 w' → ¬ (F1 p ∨ F2 p) → S127_3 (.pointer (some ⟨b, 0, none⟩)) w' k := fun w' e hn => by
    have hB := hB0.ext e
    unfold S127_3 B127_3
    repeat' first | refine LB_blk hB rfl ?_ | rw [x_eqs2] | rw [x_nes2] | rw [x_not] | rw [x_pure] | with_reducible refine gd_b (fun _ => ?_) (fun _ => ?_) | with_reducible refine condW_b (fun _ => ?_) (fun _ => ?_) | refine len_sl (by assumption) ?_ | refine lens_ok ?_ | refine fld_ok ?_ | simp only [go_sem]
    all_goals first | exact t2 _ e (by clear hk h1 h2 h3 h4 h5 h6 hB hB0 hp' t1 t2; unfold F3; grind) | exact hk _ _ (e1.trans e) (by clear hk h1 h2 h3 h4 h5 h6 hB hB0 hp' t1 t2; unfold F3; grind)
  have t4 : ∀ w' c, Ext w1 w' → (c = true ↔ p.kind = 1) → ¬ F1 p → S127_4 (.pointer (some ⟨b, 0, none⟩)) (.bool c) w' k := fun w' c e hc hn => by
    have hB := hB0.ext e
    unfold S127_4 B127_4
    repeat' first | (refine LB_agg hB (o := 0) rfl rfl (rZero_ok (m := p.will) ⟨vw, rfl, h1⟩ fun w2 r e2 hr => ?_); have hB := hB.ext e2; have e := e.trans e2) | refine LB_blk hB rfl ?_ | rw [x_eqs2] | rw [x_nes2] | rw [x_not] | rw [x_pure] | with_reducible refine gd_b (fun _ => ?_) (fun _ => ?_) | with_reducible refine condW_b (fun _ => ?_) (fun _ => ?_) | refine len_sl (by assumption) ?_ | refine lens_ok ?_ | refine fld_ok ?_ | simp only [go_sem]
    all_goals first | exact t3 _ e (by clear hk h1 h2 h3 h4 h5 h6 hB hB0 hp' t1 t2 t3; unfold F2; grind) | exact hk _ _ (e1.trans e) (by clear hk h1 h2 h3 h4 h5 h6 hB hB0 hp' t1 t2 t3; unfold F2; grind)
  have hB := hB0
  have e := Ext.refl w1
  repeat' first | refine LB_blk hB rfl ?_ | rw [x_eqs2] | rw [x_nes2] | rw [x_not] | rw [x_pure] | with_reducible refine gd_b (fun _ => ?_) (fun _ => ?_) | with_reducible refine condW_b (fun _ => ?_) (fun _ => ?_) | refine len_sl (by assumption) ?_ | refine lens_ok ?_ | refine fld_ok ?_ | simp only [go_sem]
  all_goals first | exact t4 _ _ e (by grind) (by clear hk h1 h2 h3 h4 h5 h6 hB hB0 hp' t1 t2 t3 t4; unfold F1; grind) | exact hk _ _ (e1.trans e) (by clear hk h1 h2 h3 h4 h5 h6 hB hB0 hp' t1 t2 t3 t4; unfold F1; grind)
end
end Go.Proofs.YtdgffjkcpbolmaaGreatDoor.X
