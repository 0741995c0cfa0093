/-
  The program's packet: foreign fields. No condition.
-/
import Derived.Test.YtdgffjkcpbolmaaGreatDoorPkt
namespace Go.Proofs.YtdgffjkcpbolmaaGreatDoor.X
open Go Go.RowKit Go.Proofs.YtdgffjkcpbolmaaGreatDoor.Fx
set_option maxRecDepth 100000
set_option linter.unusedVariables false
set_option linter.unusedSimpArgs false
def E2 (p : Pk) : Prop := p.hasWill = false ∧ ¬ ZeroMsg p.will
def E3 (p : Pk) : Prop := p.hasUser = false ∧ p.user ≠ ⟨#[]⟩
def E4 (p : Pk) : Prop := p.hasPass = false ∧ p.pass.length ≠ 0
def E7 (p : Pk) : Prop := ¬ Numbered p ∧ p.id ≠ 0
def E8 (p : Pk) : Prop := p.kind ≠ 8 ∧ p.asks.length ≠ 0
def E9 (p : Pk) : Prop := p.kind ≠ 9 ∧ p.codes.length ≠ 0
def E10 (p : Pk) : Prop := p.kind ≠ 10 ∧ p.filters.length ≠ 0
theorem foreign_prog {p : Pk} : Foreign p ↔ (F1 p ∨ E2 p ∨ E3 p ∨ E4 p ∨ F3 p ∨ F4 p ∨ E7 p ∨ E8 p ∨ E9 p ∨ E10 p) := by
  rw [foreign_iff]
  have a : F5 p ↔ (E7 p ∨ E8 p ∨ E9 p ∨ E10 p) := Iff.rfl
  have b : (F1 p ∨ F2 p) ↔ (F1 p ∨ E2 p ∨ E3 p ∨ E4 p) := by
    unfold F1 F2 E2 E3 E4
    by_cases hk : p.kind = 1
    · simp [hk]
    · cases p.hasWill <;> cases p.hasUser <;> cases p.hasPass <;> simp [hk]
  rw [a, ← or_assoc, b]
  simp only [or_assoc]
def zmsg : Msg := ⟨⟨#[]⟩, [], 0, false⟩
theorem zmsg_iff {m : Msg} : ZeroMsg m ↔ m = zmsg := by
  unfold ZeroMsg zmsg
  constructor
  · rintro ⟨h1, h2, h3, h4⟩; cases m; simp_all
  · rintro rfl; exact ⟨rfl, rfl, rfl, rfl⟩
theorem Sl.nil {α : Type} (E : Kn α) (w : World) : Sl E w (.slice none 0 0) [] := ⟨none, 0, rfl, ⟨Nat.le_refl _, Nat.zero_le _⟩, fun h => absurd rfl h⟩
section
variable {w w0 : World} {p : Pk} {cs : List Value} {k : Value → World → Prop}
attribute [local irreducible] S120_1 S120_2 S120_3 S120_4 S120_5 S120_6 S120_7 S120_8 S120_9
set_option maxHeartbeats 2000000 in
theorem foreign_ok (hp : Kn.pk.rep w0 p cs) (h0 : Ext w0 w) (ht : Tabs w) (hd : 1 ≤ p.kind ∧ p.kind ≤ 14) (hk : ∀ w' r, Ext w w' → (r = true ↔ Foreign p) → k (.bool r) w') : CallF P 120 #[.agg cs.toArray] w k := by
  have hp' := hp
  obtain ⟨vw, vp, vm, va, vc, vf, rfl, h1, h2, h3, h4, h5, h6⟩ := hp
  refine c120 _ _ _ ?_
  unfold S120_0 B120_0
  refine box_ok fun w0' b e1 n1 hB0 z1 => LB_blk hB0 rfl (has_ok (ht.ext e1) hd ?_)
  refine alloc_ok (T := 24) (zs := [.string ⟨#[]⟩, .slice none 0 0, .int .i64 0, .bool false]) (by kernel_rfl) fun w1 b4 e2 n2 hA0 z2 => ?_
  have hB0 := hB0.ext e2
  have e1 := e1.trans e2
  have ht0 := ht.ext e1
  clear ht e2 n2 z2 n1 z1
  have t1 : ∀ w' c, Ext w1 w' → (Foreign p ↔ (c = true ∨ E10 p)) → S120_1 (.pointer (some ⟨b, 0, none⟩)) (.int .i64 (hasv p.kind.toNat)) (.bool c) w' k := fun w' c e hc => by
    have hB := hB0.ext e
    have hA := hA0.ext e
    have ht := ht0.ext e
    unfold S120_1
    repeat' first | rw [m1 hd] | rw [m2 hd] | rw [m4 hd] | rw [m16 hd] | rw [m32 hd] | rw [m64 hd] | refine LB_blk hB rfl ?_ | rw [x_eqs2] | rw [x_nes2] | rw [x_not] | rw [x_pure] | with_reducible refine gd_b (fun _ => ?_) (fun _ => ?_) | with_reducible refine condW_b (fun _ => ?_) (fun _ => ?_) | refine len_sl (by assumption) ?_ | refine lens_ok ?_ | refine fld_ok ?_ | simp only [go_sem]
    all_goals exact hk _ _ (e1.trans e) (by clear hk h1 h2 h3 h4 h5 h6 hB hB0 hA0 hp' ht0  hA ht; unfold E10 at hc; grind)
  have t2 : ∀ w' c, Ext w1 w' → (Foreign p ↔ (c = true ∨ E9 p ∨ E10 p)) → S120_2 (.pointer (some ⟨b, 0, none⟩)) (.int .i64 (hasv p.kind.toNat)) (.bool c) w' k := fun w' c e hc => by
    have hB := hB0.ext e
    have hA := hA0.ext e
    have ht := ht0.ext e
    unfold S120_2 B120_2
    repeat' first | rw [m1 hd] | rw [m2 hd] | rw [m4 hd] | rw [m16 hd] | rw [m32 hd] | rw [m64 hd] | refine LB_blk hB rfl ?_ | rw [x_eqs2] | rw [x_nes2] | rw [x_not] | rw [x_pure] | with_reducible refine gd_b (fun _ => ?_) (fun _ => ?_) | with_reducible refine condW_b (fun _ => ?_) (fun _ => ?_) | refine len_sl (by assumption) ?_ | refine lens_ok ?_ | refine fld_ok ?_ | simp only [go_sem]
    all_goals first | exact hk _ _ (e1.trans e) (by clear hk h1 h2 h3 h4 h5 h6 hB hB0 hA0 hp' ht0 t1 hA ht; grind) | exact t1 _ _ e (by clear hk h1 h2 h3 h4 h5 h6 hB hB0 hA0 hp' ht0 t1 hA ht; unfold E9 at hc; grind)
  have t3 : ∀ w' c, Ext w1 w' → (Foreign p ↔ (c = true ∨ E8 p ∨ E9 p ∨ E10 p)) → S120_3 (.pointer (some ⟨b, 0, none⟩)) (.int .i64 (hasv p.kind.toNat)) (.bool c) w' k := fun w' c e hc => by
    have hB := hB0.ext e
    have hA := hA0.ext e
    have ht := ht0.ext e
    unfold S120_3 B120_3
    repeat' first | rw [m1 hd] | rw [m2 hd] | rw [m4 hd] | rw [m16 hd] | rw [m32 hd] | rw [m64 hd] | refine LB_blk hB rfl ?_ | rw [x_eqs2] | rw [x_nes2] | rw [x_not] | rw [x_pure] | with_reducible refine gd_b (fun _ => ?_) (fun _ => ?_) | with_reducible refine condW_b (fun _ => ?_) (fun _ => ?_) | refine len_sl (by assumption) ?_ | refine lens_ok ?_ | refine fld_ok ?_ | simp only [go_sem]
    all_goals first | exact hk _ _ (e1.trans e) (by clear hk h1 h2 h3 h4 h5 h6 hB hB0 hA0 hp' ht0 t1 t2 hA ht; grind) | exact t2 _ _ e (by clear hk h1 h2 h3 h4 h5 h6 hB hB0 hA0 hp' ht0 t1 t2 hA ht; unfold E8 at hc; grind)
  have t4 : ∀ w' c, Ext w1 w' → (Foreign p ↔ (c = true ∨ E7 p ∨ E8 p ∨ E9 p ∨ E10 p)) → S120_4 (.pointer (some ⟨b, 0, none⟩)) (.int .i64 (hasv p.kind.toNat)) (.bool c) w' k := fun w' c e hc => by
    have hB := hB0.ext e
    have hA := hA0.ext e
    have ht := ht0.ext e
    unfold S120_4 B120_4
    repeat' first | (refine load_blkA hB rfl (numbered_ok hp' ht hd fun w2 r e2 hr => ?_); have hB := hB.ext e2; have e := e.trans e2) | rw [m1 hd] | rw [m2 hd] | rw [m4 hd] | rw [m16 hd] | rw [m32 hd] | rw [m64 hd] | refine LB_blk hB rfl ?_ | rw [x_eqs2] | rw [x_nes2] | rw [x_not] | rw [x_pure] | with_reducible refine gd_b (fun _ => ?_) (fun _ => ?_) | with_reducible refine condW_b (fun _ => ?_) (fun _ => ?_) | refine len_sl (by assumption) ?_ | refine lens_ok ?_ | refine fld_ok ?_ | simp only [go_sem]
    all_goals first | exact hk _ _ (e1.trans e) (by clear hk h1 h2 h3 h4 h5 h6 hB hB0 hA0 hp' ht0 t1 t2 t3 hA ht; grind) | exact t3 _ _ e (by clear hk h1 h2 h3 h4 h5 h6 hB hB0 hA0 hp' ht0 t1 t2 t3 hA ht; unfold E7 at hc; grind)
  have t5 : ∀ w' c, Ext w1 w' → (Foreign p ↔ (c = true ∨ F4 p ∨ E7 p ∨ E8 p ∨ E9 p ∨ E10 p)) → S120_5 (.pointer (some ⟨b, 0, none⟩)) (.int .i64 (hasv p.kind.toNat)) (.pointer (some ⟨b4, 0, none⟩)) (.bool c) w' k := fun w' c e hc => by
    have hB := hB0.ext e
    have hA := hA0.ext e
    have ht := ht0.ext e
    unfold S120_5 B120_5
    repeat' first | (refine LB_agg hB (o := 0) rfl rfl (load_blkA hA rfl (sameMsg_ok (m := p.msg) (q := zmsg) ⟨vm, rfl, h3⟩ ⟨_, rfl, Sl.nil _ _⟩ (h0.trans (e1.trans e)) fun w2 r e2 hr => ?_)); rw [← zmsg_iff] at hr; have hB := hB.ext e2; have e := e.trans e2) | rw [m1 hd] | rw [m2 hd] | rw [m4 hd] | rw [m16 hd] | rw [m32 hd] | rw [m64 hd] | refine LB_blk hB rfl ?_ | rw [x_eqs2] | rw [x_nes2] | rw [x_not] | rw [x_pure] | with_reducible refine gd_b (fun _ => ?_) (fun _ => ?_) | with_reducible refine condW_b (fun _ => ?_) (fun _ => ?_) | refine len_sl (by assumption) ?_ | refine lens_ok ?_ | refine fld_ok ?_ | simp only [go_sem]
    all_goals first | exact hk _ _ (e1.trans e) (by clear hk h1 h2 h3 h4 h5 h6 hB hB0 hA0 hp' ht0 t1 t2 t3 t4 hA ht; grind) | exact t4 _ _ e (by clear hk h1 h2 h3 h4 h5 h6 hB hB0 hA0 hp' ht0 t1 t2 t3 t4 hA ht; unfold F4 at hc; grind)
  have t6 : ∀ w' c, Ext w1 w' → (Foreign p ↔ (c = true ∨ F3 p ∨ F4 p ∨ E7 p ∨ E8 p ∨ E9 p ∨ E10 p)) → S120_6 (.pointer (some ⟨b, 0, none⟩)) (.int .i64 (hasv p.kind.toNat)) (.pointer (some ⟨b4, 0, none⟩)) (.bool c) w' k := fun w' c e hc => by
    have hB := hB0.ext e
    have hA := hA0.ext e
    have ht := ht0.ext e
    unfold S120_6 B120_6
    repeat' first | rw [m1 hd] | rw [m2 hd] | rw [m4 hd] | rw [m16 hd] | rw [m32 hd] | rw [m64 hd] | refine LB_blk hB rfl ?_ | rw [x_eqs2] | rw [x_nes2] | rw [x_not] | rw [x_pure] | with_reducible refine gd_b (fun _ => ?_) (fun _ => ?_) | with_reducible refine condW_b (fun _ => ?_) (fun _ => ?_) | refine len_sl (by assumption) ?_ | refine lens_ok ?_ | refine fld_ok ?_ | simp only [go_sem]
    all_goals first | exact hk _ _ (e1.trans e) (by clear hk h1 h2 h3 h4 h5 h6 hB hB0 hA0 hp' ht0 t1 t2 t3 t4 t5 hA ht; grind) | exact t5 _ _ e (by clear hk h1 h2 h3 h4 h5 h6 hB hB0 hA0 hp' ht0 t1 t2 t3 t4 t5 hA ht; unfold F3 at hc; grind)
  have t7 : ∀ w' c, Ext w1 w' → (Foreign p ↔ (c = true ∨ E4 p ∨ F3 p ∨ F4 p ∨ E7 p ∨ E8 p ∨ E9 p ∨ E10 p)) → S120_7 (.pointer (some ⟨b, 0, none⟩)) (.int .i64 (hasv p.kind.toNat)) (.pointer (some ⟨b4, 0, none⟩)) (.bool c) w' k := fun w' c e hc => by
    have hB := hB0.ext e
    have hA := hA0.ext e
    have ht := ht0.ext e
    unfold S120_7 B120_7
    repeat' first | rw [m1 hd] | rw [m2 hd] | rw [m4 hd] | rw [m16 hd] | rw [m32 hd] | rw [m64 hd] | refine LB_blk hB rfl ?_ | rw [x_eqs2] | rw [x_nes2] | rw [x_not] | rw [x_pure] | with_reducible refine gd_b (fun _ => ?_) (fun _ => ?_) | with_reducible refine condW_b (fun _ => ?_) (fun _ => ?_) | refine len_sl (by assumption) ?_ | refine lens_ok ?_ | refine fld_ok ?_ | simp only [go_sem]
    all_goals first | exact hk _ _ (e1.trans e) (by clear hk h1 h2 h3 h4 h5 h6 hB hB0 hA0 hp' ht0 t1 t2 t3 t4 t5 t6 hA ht; grind) | exact t6 _ _ e (by clear hk h1 h2 h3 h4 h5 h6 hB hB0 hA0 hp' ht0 t1 t2 t3 t4 t5 t6 hA ht; unfold E4 at hc; grind)
  have t8 : ∀ w' c, Ext w1 w' → (Foreign p ↔ (c = true ∨ E3 p ∨ E4 p ∨ F3 p ∨ F4 p ∨ E7 p ∨ E8 p ∨ E9 p ∨ E10 p)) → S120_8 (.pointer (some ⟨b, 0, none⟩)) (.int .i64 (hasv p.kind.toNat)) (.pointer (some ⟨b4, 0, none⟩)) (.bool c) w' k := fun w' c e hc => by
    have hB := hB0.ext e
    have hA := hA0.ext e
    have ht := ht0.ext e
    unfold S120_8 B120_8
    repeat' first | rw [m1 hd] | rw [m2 hd] | rw [m4 hd] | rw [m16 hd] | rw [m32 hd] | rw [m64 hd] | refine LB_blk hB rfl ?_ | rw [x_eqs2] | rw [x_nes2] | rw [x_not] | rw [x_pure] | with_reducible refine gd_b (fun _ => ?_) (fun _ => ?_) | with_reducible refine condW_b (fun _ => ?_) (fun _ => ?_) | refine len_sl (by assumption) ?_ | refine lens_ok ?_ | refine fld_ok ?_ | simp only [go_sem]
    all_goals first | exact hk _ _ (e1.trans e) (by clear hk h1 h2 h3 h4 h5 h6 hB hB0 hA0 hp' ht0 t1 t2 t3 t4 t5 t6 t7 hA ht; grind) | exact t7 _ _ e (by clear hk h1 h2 h3 h4 h5 h6 hB hB0 hA0 hp' ht0 t1 t2 t3 t4 t5 t6 t7 hA ht; unfold E3 at hc; grind)
  have t9 : ∀ w' c, Ext w1 w' → (Foreign p ↔ (c = true ∨ E2 p ∨ E3 p ∨ E4 p ∨ F3 p ∨ F4 p ∨ E7 p ∨ E8 p ∨ E9 p ∨ E10 p)) → S120_9 (.pointer (some ⟨b, 0, none⟩)) (.int .i64 (hasv p.kind.toNat)) (.pointer (some ⟨b4, 0, none⟩)) (.bool c) w' k := fun w' c e hc => by
    have hB := hB0.ext e
    have hA := hA0.ext e
    have ht := ht0.ext e
    unfold S120_9 B120_9
    repeat' first | (refine LB_agg hB (o := 0) rfl rfl (load_blkA hA rfl (sameMsg_ok (m := p.will) (q := zmsg) ⟨vw, rfl, h1⟩ ⟨_, rfl, Sl.nil _ _⟩ (h0.trans (e1.trans e)) fun w2 r e2 hr => ?_)); rw [← zmsg_iff] at hr; have hB := hB.ext e2; have e := e.trans e2) | rw [m1 hd] | rw [m2 hd] | rw [m4 hd] | rw [m16 hd] | rw [m32 hd] | rw [m64 hd] | refine LB_blk hB rfl ?_ | rw [x_eqs2] | rw [x_nes2] | rw [x_not] | rw [x_pure] | with_reducible refine gd_b (fun _ => ?_) (fun _ => ?_) | with_reducible refine condW_b (fun _ => ?_) (fun _ => ?_) | refine len_sl (by assumption) ?_ | refine lens_ok ?_ | refine fld_ok ?_ | simp only [go_sem]
    all_goals first | exact hk _ _ (e1.trans e) (by clear hk h1 h2 h3 h4 h5 h6 hB hB0 hA0 hp' ht0 t1 t2 t3 t4 t5 t6 t7 t8 hA ht; grind) | exact t8 _ _ e (by clear hk h1 h2 h3 h4 h5 h6 hB hB0 hA0 hp' ht0 t1 t2 t3 t4 t5 t6 t7 t8 hA ht; unfold E2 at hc; grind)
  have hB := hB0
  have e := Ext.refl w1
  rw [foreign_prog] at t9
  repeat' first | rw [m1 hd] | refine LB_blk hB rfl ?_ | rw [x_eqs2] | rw [x_nes2] | rw [x_not] | rw [x_pure] | with_reducible refine gd_b (fun _ => ?_) (fun _ => ?_) | with_reducible refine condW_b (fun _ => ?_) (fun _ => ?_) | refine len_sl (by assumption) ?_ | refine lens_ok ?_ | refine fld_ok ?_ | simp only [go_sem]
  all_goals exact t9 _ _ e (by clear hk h1 h2 h3 h4 h5 h6 hB hB0 hA0 hp' ht0 t1 t2 t3 t4 t5 t6 t7 t8 t9; unfold F1; grind)
end
end Go.Proofs.YtdgffjkcpbolmaaGreatDoor.X
