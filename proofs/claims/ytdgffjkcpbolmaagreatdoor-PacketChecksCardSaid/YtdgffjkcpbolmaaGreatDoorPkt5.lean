/-
  The program's packet: the verdict, the flags, the length: they are the reference's. No condition.
-/
import Derived.Test.YtdgffjkcpbolmaaGreatDoorPkt4
namespace Go.Proofs.YtdgffjkcpbolmaaGreatDoor.X
open Go Go.RowKit Go.Proofs.YtdgffjkcpbolmaaGreatDoor.Fx
set_option maxRecDepth 100000
set_option linter.unusedVariables false
set_option linter.unusedSimpArgs false
section
variable {w w0 : World} {p : Pk} {m : Msg} {cs : List Value} {k : Value → World → Prop}
theorem will_kind (hn : ¬ Foreign p) (h : p.hasWill = true) : p.kind = 1 := Decidable.byContradiction fun hk => hn (.inl ⟨hk, .inr (.inr (.inr (.inr (.inl h))))⟩)
attribute [local irreducible] S79_1 S79_2 S79_3 S79_4 S79_5 S79_6 S79_7 S79_8 S79_9 S79_10 S79_11
set_option maxHeartbeats 2000000 in
theorem check_ok (hp : Kn.pk.rep w0 p cs) (h0 : Ext w0 w) (ht : Tabs w) (hs : Small p) (hk : ∀ w', Ext w w' → k (.int .i64 (checkS p)) w') : CallF P 79 #[.agg cs.toArray] w k := by
  have hp' := hp
  obtain ⟨vw, vp, vm, va, vc, vf, rfl, h1, h2, h3, h4, h5, h6⟩ := hp
  refine c79 _ _ _ ?_
  unfold S79_0 B79_0
  refine box_ok fun w1 b e1 nb hB0 z1 => ?_
  have ht0 := ht.ext e1
  clear ht
  have fin : ∀ w' n, Ext w1 w' → checkS p = n → k (.int .i64 n) w' := fun w' n e hn => by have := hk w' (e1.trans e); rw [hn] at this; exact this
  have t1 : ∀ w' c, Ext w1 w' → ¬ BadKind p → ¬ BadField p → ¬ BadText p → ¬ BadTopics p → ¬ BadFilters p → ¬ BadQualities p → ¬ BadID p → ¬ BadSize p → ¬ BadEmpty p → (p.hasPass = false ∨ p.hasUser = true) → (c = true ↔ (p.dup = true ∧ p.msg.qos = 0)) → S79_1 (.pointer (some ⟨b, 0, none⟩)) (.bool c) w' k := fun w' c e n0 n1 n2 n3 n4 n5 n6 n7 n8 hu hc => by
    have hB := hB0.ext e
    unfold S79_1
    repeat' first | refine LB_blk hB rfl ?_ | rw [x_eqs2] | rw [x_nes2] | rw [x_not] | rw [x_pure] | with_reducible refine gd_b (fun _ => ?_) (fun _ => ?_) | with_reducible refine condW_b (fun _ => ?_) (fun _ => ?_) | refine len_sl (by assumption) ?_ | refine lens_ok ?_ | refine fld_ok ?_ | simp only [go_sem]
    all_goals first
      | exact fin _ _ e (chk29 n0 n1 n2 n3 n4 n5 n6 n7 n8 (by clear fin hk h1 h2 h3 h4 h5 h6 hB hB0 hp' ht0 n0 n1 n2 n3 n4 n5 n6 n7 n8; unfold BadMarks; grind))
      | exact fin _ _ e (chk0 n0 n1 n2 n3 n4 n5 n6 n7 n8 (by clear fin hk h1 h2 h3 h4 h5 h6 hB hB0 hp' ht0 n0 n1 n2 n3 n4 n5 n6 n7 n8; unfold BadMarks; grind))
      | (exfalso; clear fin hk h1 h2 h3 h4 h5 h6 hB hB0 hp' ht0 n0 n1 n2 n3 n4 n5 n6 n7 n8; grind)
  have t2 : ∀ w' c, Ext w1 w' → ¬ BadKind p → ¬ BadField p → ¬ BadText p → ¬ BadTopics p → ¬ BadFilters p → ¬ BadQualities p → ¬ BadID p → ¬ BadSize p → ¬ BadEmpty p → (c = true ↔ (p.hasPass = true ∧ p.hasUser = false)) → S79_2 (.pointer (some ⟨b, 0, none⟩)) (.bool c) w' k := fun w' c e n0 n1 n2 n3 n4 n5 n6 n7 n8 hc => by
    have hB := hB0.ext e
    unfold S79_2 B79_2
    repeat' first | refine LB_blk hB rfl ?_ | rw [x_eqs2] | rw [x_nes2] | rw [x_not] | rw [x_pure] | with_reducible refine gd_b (fun _ => ?_) (fun _ => ?_) | with_reducible refine condW_b (fun _ => ?_) (fun _ => ?_) | refine len_sl (by assumption) ?_ | refine lens_ok ?_ | refine fld_ok ?_ | simp only [go_sem]
    all_goals first
      | exact t1 _ _ e n0 n1 n2 n3 n4 n5 n6 n7 n8 (by clear fin hk h1 h2 h3 h4 h5 h6 hB hB0 hp' ht0 t1 n0 n1 n2 n3 n4 n5 n6 n7 n8; grind) (by clear fin hk h1 h2 h3 h4 h5 h6 hB hB0 hp' ht0 t1 n0 n1 n2 n3 n4 n5 n6 n7 n8; grind)
      | exact fin _ _ e (chk29 n0 n1 n2 n3 n4 n5 n6 n7 n8 (by clear fin hk h1 h2 h3 h4 h5 h6 hB hB0 hp' ht0 t1 n0 n1 n2 n3 n4 n5 n6 n7 n8; unfold BadMarks; grind))
      | (exfalso; clear fin hk h1 h2 h3 h4 h5 h6 hB hB0 hp' ht0 t1 n0 n1 n2 n3 n4 n5 n6 n7 n8; grind)
  have t3 : ∀ w' c, Ext w1 w' → ¬ BadKind p → ¬ BadField p → ¬ BadText p → ¬ BadTopics p → ¬ BadFilters p → ¬ BadQualities p → ¬ BadID p → ¬ BadSize p → (c = true ↔ BadEmpty p) → S79_3 (.pointer (some ⟨b, 0, none⟩)) (.bool c) w' k := fun w' c e n0 n1 n2 n3 n4 n5 n6 n7 hc => by
    have hB := hB0.ext e
    unfold S79_3 B79_3
    refine condW_b (fun h => fin _ _ e (chk28 n0 n1 n2 n3 n4 n5 n6 n7 (hc.1 h))) fun h => ?_
    have n8 : ¬ BadEmpty p := fun hq => by rw [hc.2 hq] at h; cases h
    repeat' first | refine LB_blk hB rfl ?_ | rw [x_eqs2] | rw [x_nes2] | rw [x_not] | rw [x_pure] | with_reducible refine gd_b (fun _ => ?_) (fun _ => ?_) | with_reducible refine condW_b (fun _ => ?_) (fun _ => ?_) | refine len_sl (by assumption) ?_ | refine lens_ok ?_ | refine fld_ok ?_ | simp only [go_sem]
    all_goals exact t2 _ _ e n0 n1 n2 n3 n4 n5 n6 n7 n8 (by clear fin hk h1 h2 h3 h4 h5 h6 hB hB0 hp' ht0 t1 t2 n0 n1 n2 n3 n4 n5 n6 n7 n8 hc; grind)
  have t4 : ∀ w' c, Ext w1 w' → 1 ≤ p.kind ∧ p.kind ≤ 14 → ¬ BadKind p → ¬ BadField p → ¬ BadText p → ¬ BadTopics p → ¬ BadFilters p → ¬ BadQualities p → ¬ BadID p → ¬ BadSize p → (c = true ↔ (p.kind = 8 ∧ p.asks.length = 0) ∨ (p.kind = 9 ∧ p.codes.length = 0)) → S79_4 (.pointer (some ⟨b, 0, none⟩)) (.int .i64 (hasv p.kind.toNat)) (.bool c) w' k := fun w' c e hd n0 n1 n2 n3 n4 n5 n6 n7 hc => by
    have hB := hB0.ext e
    unfold S79_4 B79_4
    repeat' first | rw [m64 hd] | refine LB_blk hB rfl ?_ | rw [x_eqs2] | rw [x_nes2] | rw [x_not] | rw [x_pure] | with_reducible refine gd_b (fun _ => ?_) (fun _ => ?_) | with_reducible refine condW_b (fun _ => ?_) (fun _ => ?_) | refine len_sl (by assumption) ?_ | refine lens_ok ?_ | refine fld_ok ?_ | simp only [go_sem]
    all_goals exact t3 _ _ e n0 n1 n2 n3 n4 n5 n6 n7 (by clear fin hk h1 h2 h3 h4 h5 h6 hB hB0 hp' ht0 t1 t2 t3 n0 n1 n2 n3 n4 n5 n6 n7; unfold BadEmpty; grind)
  have t5 : ∀ w' c, Ext w1 w' → 1 ≤ p.kind ∧ p.kind ≤ 14 → ¬ BadKind p → ¬ BadField p → ¬ BadText p → ¬ BadTopics p → ¬ BadFilters p → ¬ BadQualities p → ¬ BadID p → ¬ BadSize p → (c = true ↔ (p.kind = 8 ∧ p.asks.length = 0)) → S79_5 (.pointer (some ⟨b, 0, none⟩)) (.int .i64 (hasv p.kind.toNat)) (.bool c) w' k := fun w' c e hd n0 n1 n2 n3 n4 n5 n6 n7 hc => by
    have hB := hB0.ext e
    unfold S79_5 B79_5
    repeat' first | rw [m32 hd] | refine LB_blk hB rfl ?_ | rw [x_eqs2] | rw [x_nes2] | rw [x_not] | rw [x_pure] | with_reducible refine gd_b (fun _ => ?_) (fun _ => ?_) | with_reducible refine condW_b (fun _ => ?_) (fun _ => ?_) | refine len_sl (by assumption) ?_ | refine lens_ok ?_ | refine fld_ok ?_ | simp only [go_sem]
    all_goals first | exact t4 _ _ e hd n0 n1 n2 n3 n4 n5 n6 n7 (by clear fin hk h1 h2 h3 h4 h5 h6 hB hB0 hp' ht0 t1 t2 t3 t4 n0 n1 n2 n3 n4 n5 n6 n7; grind) | exact t3 _ _ e n0 n1 n2 n3 n4 n5 n6 n7 (by clear fin hk h1 h2 h3 h4 h5 h6 hB hB0 hp' ht0 t1 t2 t3 t4 n0 n1 n2 n3 n4 n5 n6 n7; unfold BadEmpty; grind)
  have t6 : ∀ w' c, Ext w1 w' → 1 ≤ p.kind ∧ p.kind ≤ 14 → ¬ BadKind p → ¬ BadField p → ¬ BadText p → ¬ BadTopics p → ¬ BadFilters p → ¬ BadQualities p → ¬ BadID p → (c = true ↔ BadSize p) → S79_6 (.pointer (some ⟨b, 0, none⟩)) (.int .i64 (hasv p.kind.toNat)) (.bool c) w' k := fun w' c e hd n0 n1 n2 n3 n4 n5 n6 hc => by
    have hB := hB0.ext e
    unfold S79_6 B79_6
    refine condW_b (fun h => fin _ _ e (chk27 n0 n1 n2 n3 n4 n5 n6 (hc.1 h))) fun h => ?_
    have n7 : ¬ BadSize p := fun hq => by rw [hc.2 hq] at h; cases h
    repeat' first | rw [m16 hd] | refine LB_blk hB rfl ?_ | rw [x_eqs2] | rw [x_nes2] | rw [x_not] | rw [x_pure] | with_reducible refine gd_b (fun _ => ?_) (fun _ => ?_) | with_reducible refine condW_b (fun _ => ?_) (fun _ => ?_) | refine len_sl (by assumption) ?_ | refine lens_ok ?_ | refine fld_ok ?_ | simp only [go_sem]
    all_goals exact t5 _ _ e hd n0 n1 n2 n3 n4 n5 n6 n7 (by clear fin hk h1 h2 h3 h4 h5 h6 hB hB0 hp' ht0 t1 t2 t3 t4 t5 n0 n1 n2 n3 n4 n5 n6 n7 hc; grind)
  have t7 : ∀ w' c, Ext w1 w' → 1 ≤ p.kind ∧ p.kind ≤ 14 → ¬ BadKind p → ¬ BadField p → ¬ BadText p → ¬ BadTopics p → ¬ BadFilters p → ¬ BadQualities p → (c = true ↔ BadID p) → S79_7 (.pointer (some ⟨b, 0, none⟩)) (.int .i64 (hasv p.kind.toNat)) (.bool c) w' k := fun w' c e hd n0 n1 n2 n3 n4 n5 hc => by
    have hB := hB0.ext e
    have ht := ht0.ext e
    unfold S79_7 B79_7
    refine condW_b (fun h => fin _ _ e (chk26 n0 n1 n2 n3 n4 n5 (hc.1 h))) fun h => ?_
    have n6 : ¬ BadID p := fun hq => by rw [hc.2 hq] at h; cases h
    have hl : lenS p = bytesS p := lenS_eq fun hf => n1 (.inl hf)
    repeat' first | (refine load_blkA hB rfl (length_ok hp' (h0.trans (e1.trans e)) ht hd hs fun w2 e2 => ?_); have hB := hB.ext e2; have e := e.trans e2) | refine LB_blk hB rfl ?_ | rw [x_eqs2] | rw [x_nes2] | rw [x_not] | rw [x_pure] | with_reducible refine gd_b (fun _ => ?_) (fun _ => ?_) | with_reducible refine condW_b (fun _ => ?_) (fun _ => ?_) | refine len_sl (by assumption) ?_ | refine lens_ok ?_ | refine fld_ok ?_ | simp only [go_sem]
    all_goals exact t6 _ _ e hd n0 n1 n2 n3 n4 n5 n6 (by clear fin hk h1 h2 h3 h4 h5 h6 hB hB0 hp' ht ht0 t1 t2 t3 t4 t5 t6 n0 n1 n2 n3 n4 n5 n6 hc; unfold BadSize; grind)
  have t8 : ∀ w' c, Ext w1 w' → 1 ≤ p.kind ∧ p.kind ≤ 14 → ¬ BadKind p → ¬ BadField p → ¬ BadText p → (c = true ↔ BadTopics p) → S79_8 (.pointer (some ⟨b, 0, none⟩)) (.int .i64 (hasv p.kind.toNat)) (.bool c) w' k := fun w' c e hd n0 n1 n2 hc => by
    have hB := hB0.ext e
    have ht := ht0.ext e
    have hn : ¬ Foreign p := fun hf => n1 (.inl hf)
    unfold S79_8 B79_8
    refine condW_b (fun h => fin _ _ e (chk23 n0 n1 n2 (hc.1 h))) fun h => ?_
    have n3 : ¬ BadTopics p := fun hq => by rw [hc.2 hq] at h; cases h
    refine load_blkA hB rfl (filters_ok hp' (h0.trans (e1.trans e)) fun w3 r3 e3 hr3 => ?_)
    have hB := hB.ext e3; have e := e.trans e3
    refine not_cond (fun h => fin _ _ e (chk24 n0 n1 n2 n3 (by clear fin hk t1 t2 t3 t4 t5 t6 t7; grind))) fun h => ?_
    have n4 := hr3.1 h
    refine load_blkA hB rfl (qualities_ok hp' (h0.trans (e1.trans e)) hn fun w4 r4 e4 hr4 => ?_)
    have hB := hB.ext e4; have e := e.trans e4
    refine not_cond (fun h => fin _ _ e (chk25 n0 n1 n2 n3 n4 (by clear fin hk t1 t2 t3 t4 t5 t6 t7; grind))) fun h => ?_
    have n5 := hr4.1 h
    refine load_blkA hB rfl (numbered_ok hp' (ht0.ext e) hd fun w5 r5 e5 hr5 => ?_)
    have hB := hB.ext e5; have e := e.trans e5
    repeat' first | refine LB_blk hB rfl ?_ | rw [x_eqs2] | rw [x_nes2] | rw [x_not] | rw [x_pure] | with_reducible refine gd_b (fun _ => ?_) (fun _ => ?_) | with_reducible refine condW_b (fun _ => ?_) (fun _ => ?_) | refine len_sl (by assumption) ?_ | refine lens_ok ?_ | refine fld_ok ?_ | simp only [go_sem]
    all_goals exact t7 _ _ e hd n0 n1 n2 n3 n4 n5 (by clear fin hk h1 h2 h3 h4 h5 h6 hB hB0 hp' ht ht0 t1 t2 t3 t4 t5 t6 t7 n0 n1 n2 n3 n4 n5 hc hr3 hr4 hn; unfold BadID; grind)
  have q1 := hs.fits.will
  have q2 := hs.fits.msg
  have t9 : ∀ w' c, Ext w1 w' → 1 ≤ p.kind ∧ p.kind ≤ 14 → ¬ BadKind p → ¬ BadField p → ¬ BadText p → (c = true ↔ (p.kind = 1 ∧ p.hasWill = true ∧ refTopic p.will.topic ≠ 0)) → S79_9 (.pointer (some ⟨b, 0, none⟩)) (.int .i64 (hasv p.kind.toNat)) (.bool c) w' k := fun w' c e hd n0 n1 n2 hc => by
    have hB := hB0.ext e
    unfold S79_9 B79_9
    repeat' first | rw [m4 hd] | (refine topic_ok q2 (Ext.refl _) fun w2 e2 => ?_; have hB := hB.ext e2; have e := e.trans e2) | refine LB_blk hB rfl ?_ | rw [x_eqs2] | rw [x_nes2] | rw [x_not] | rw [x_pure] | with_reducible refine gd_b (fun _ => ?_) (fun _ => ?_) | with_reducible refine condW_b (fun _ => ?_) (fun _ => ?_) | refine len_sl (by assumption) ?_ | refine lens_ok ?_ | refine fld_ok ?_ | simp only [go_sem]
    all_goals exact t8 _ _ e hd n0 n1 n2 (by clear fin hk h1 h2 h3 h4 h5 h6 hB hB0 hp' ht0 t1 t2 t3 t4 t5 t6 t7 t8 n0 n1 n2; unfold BadTopics; grind)
  have t10 : ∀ w' c, Ext w1 w' → 1 ≤ p.kind ∧ p.kind ≤ 14 → ¬ BadKind p → ¬ BadField p → (c = true ↔ BadText p) → S79_10 (.pointer (some ⟨b, 0, none⟩)) (.int .i64 (hasv p.kind.toNat)) (.bool c) w' k := fun w' c e hd n0 n1 hc => by
    have hB := hB0.ext e
    have hwk : p.hasWill = true → p.kind = 1 := will_kind fun hf => n1 (.inl hf)
    unfold S79_10 B79_10
    refine condW_b (fun h => fin _ _ e (chk22 n0 n1 (hc.1 h))) fun h => ?_
    have n2 : ¬ BadText p := fun hq => by rw [hc.2 hq] at h; cases h
    repeat' first | (refine topic_ok q1 (Ext.refl _) fun w2 e2 => ?_; have hB := hB.ext e2; have e := e.trans e2) | refine LB_blk hB rfl ?_ | rw [x_eqs2] | rw [x_nes2] | rw [x_not] | rw [x_pure] | with_reducible refine gd_b (fun _ => ?_) (fun _ => ?_) | with_reducible refine condW_b (fun _ => ?_) (fun _ => ?_) | refine len_sl (by assumption) ?_ | refine lens_ok ?_ | refine fld_ok ?_ | simp only [go_sem]
    all_goals exact t9 _ _ e hd n0 n1 n2 (by clear fin hk h1 h2 h3 h4 h5 h6 hB hB0 hp' ht0 t1 t2 t3 t4 t5 t6 t7 t8 t9 n0 n1 n2 hc; grind)
  have t11 : ∀ w' c, Ext w1 w' → 1 ≤ p.kind ∧ p.kind ≤ 14 → ¬ BadKind p → (c = true ↔ BadField p) → S79_11 (.pointer (some ⟨b, 0, none⟩)) (.int .i64 (hasv p.kind.toNat)) (.bool c) w' k := fun w' c e hd n0 hc => by
    have hB := hB0.ext e
    unfold S79_11 B79_11
    refine condW_b (fun h => fin _ _ e (chk21 n0 (hc.1 h))) fun h => ?_
    have n1 : ¬ BadField p := fun hq => by rw [hc.2 hq] at h; cases h
    repeat' first | (refine pText_ok fun w2 r2 e2 hr2 => ?_; have hB := hB.ext e2; have e := e.trans e2) | refine LB_blk hB rfl ?_ | rw [x_eqs2] | rw [x_nes2] | rw [x_not] | rw [x_pure] | with_reducible refine gd_b (fun _ => ?_) (fun _ => ?_) | with_reducible refine condW_b (fun _ => ?_) (fun _ => ?_) | refine len_sl (by assumption) ?_ | refine lens_ok ?_ | refine fld_ok ?_ | simp only [go_sem]
    all_goals exact t10 _ _ e hd n0 n1 (by clear fin hk h1 h2 h3 h4 h5 h6 hB hB0 hp' ht0 t1 t2 t3 t4 t5 t6 t7 t8 t9 t10 n0 n1 hc; unfold BadText; grind)
  have hB := hB0
  have e := Ext.refl w1
  refine LB_blk hB rfl (isKind_ok fun r hr => not_cond (fun h => fin _ _ e (chk20 ?_)) fun h => ?_)
  · unfold BadKind; clear fin hk t1 t2 t3 t4 t5 t6 t7 t8 t9 t10 t11; grind
  have hd := hr.1 h
  have n0 : ¬ BadKind p := by unfold BadKind; omega
  refine LB_blk hB rfl (has_ok ht0 hd (load_blkA hB rfl (foreign_ok hp' (h0.trans e1) ht0 hd fun w2 r2 e2 hr2 => ?_)))
  have hB := hB.ext e2; have e := e.trans e2
  repeat' first | refine LB_blk hB rfl ?_ | rw [x_eqs2] | rw [x_nes2] | rw [x_not] | rw [x_pure] | with_reducible refine gd_b (fun _ => ?_) (fun _ => ?_) | with_reducible refine condW_b (fun _ => ?_) (fun _ => ?_) | refine len_sl (by assumption) ?_ | refine lens_ok ?_ | refine fld_ok ?_ | simp only [go_sem]
  all_goals exact t11 _ _ e hd n0 (by clear fin hk h1 h2 h3 h4 h5 h6 hB hB0 hp' ht0 t1 t2 t3 t4 t5 t6 t7 t8 t9 t10 t11 n0; unfold BadField Within; grind)
theorem flagv_eq {n : Int} (hd : 1 ≤ n ∧ n ≤ 14) : flagv n.toNat = if n = 6 ∨ n = 8 ∨ n = 10 then 2 else 0 := by
  obtain ⟨m, rfl⟩ : ∃ m : Nat, n = m := ⟨n.toNat, by omega⟩
  have : ((List.range 15).all fun m => decide (flagv m = if m = 6 ∨ m = 8 ∨ m = 10 then 2 else 0)) = true := by kernel_rfl
  have := List.all_eq_true.1 this m (List.mem_range.2 (by omega))
  simp only [decide_eq_true_eq] at this
  rw [Int.toNat_natCast, this]
  split <;> split <;> first | rfl | omega
theorem orTab : ((List.range 3).all fun q => decide (bits .or .i64 ((2 * q : Nat) : Int) 8 = ((2 * q + 8 : Nat) : Int)) && decide (bits .or .i64 ((2 * q : Nat) : Int) 1 = ((2 * q + 1 : Nat) : Int)) && decide (bits .or .i64 ((2 * q + 8 : Nat) : Int) 1 = ((2 * q + 9 : Nat) : Int))) = true := by kernel_rfl
theorem or_eq {q : Int} (h : q = 0 ∨ q = 1 ∨ q = 2) : bits .or .i64 (2 * q) 8 = 2 * q + 8 ∧ bits .or .i64 (2 * q) 1 = 2 * q + 1 ∧ bits .or .i64 (2 * q + 8) 1 = 2 * q + 9 := by
  obtain ⟨m, rfl⟩ : ∃ m : Nat, q = m := ⟨q.toNat, by omega⟩
  have := List.all_eq_true.1 orTab m (List.mem_range.2 (by omega))
  simp only [Bool.and_eq_true, decide_eq_true_eq] at this
  obtain ⟨⟨a, b⟩, c⟩ := this
  rw [show 2 * (m : Int) = ((2 * m : Nat) : Int) by omega, show ((2 * m : Nat) : Int) + 8 = ((2 * m + 8 : Nat) : Int) by omega]
  refine ⟨a, ?_, ?_⟩
  · rw [b]; omega
  · rw [c]; omega
attribute [local irreducible] S81_1
theorem flags_ok (hp : Kn.pk.rep w0 p cs) (h0 : Ext w0 w) (ht : Tabs w) (hs : Small p) (hk : ∀ w', Ext w w' → k (.int .i64 (flagsS p)) w') : CallF P 81 #[.agg cs.toArray] w k := by
  have hp' := hp
  obtain ⟨vw, vp, vm, va, vc, vf, rfl, h1, h2, h3, h4, h5, h6⟩ := hp
  refine c81 _ _ _ ?_
  unfold S81_0 B81_0
  refine box_ok fun w1 b e1 nb hB z1 => ?_
  refine load_blkA hB rfl (check_ok hp' (h0.trans e1) (ht.ext e1) hs fun w2 e2 => ?_)
  have hB := hB.ext e2
  have e := e1.trans e2
  have fin : ∀ n, flagsS p = n → k (.int .i64 n) w2 := fun n hn => by have := hk w2 e; rw [hn] at this; exact this
  refine ne_cond (fun h => fin _ (flagsS_0 h)) fun h => ?_
  have hd : 1 ≤ p.kind ∧ p.kind ≤ 14 := by have := (checkS_zero h).1; unfold BadKind at this; omega
  have t1 : ∀ n : Int, p.kind = 3 → n = 2 * p.msg.qos + (if p.dup = true then 8 else 0) → S81_1 (.pointer (some ⟨b, 0, none⟩)) (.int .i64 n) w2 k := fun n hk3 hn => by
    have hq := kind3 h hk3
    have ho := or_eq hq
    unfold S81_1
    refine fld_ok (LB_blk hB rfl (condW_b (fun hr => ?_) fun hr => ?_))
    · rw [x_or]
      refine fin _ ?_
      rw [flagsS_3 h hk3, if_pos hr, hn]
      split
      · rw [ho.2.2]; omega
      · rw [Int.add_zero, ho.2.1]
    · refine fin _ ?_
      rw [flagsS_3 h hk3, if_neg (c := p.msg.retain = true) (by rw [hr]; simp), hn]; omega
  refine LB_blk hB rfl (ne_cond (fun hk3 => ?_) fun hk3 => ?_)
  · refine LB_blk hB rfl (flag_ok (ht.ext e) hd (fin _ ?_))
    rw [flagsS_n h hk3, flagv_eq hd]
  · have hq := kind3 h hk3
    refine fld_ok (LB_blk hB rfl ?_)
    rw [x_mul, wrap_id (by omega) (by omega)]
    refine LB_blk hB rfl (condW_b (fun hd => ?_) fun hd => ?_)
    · rw [x_or]
      exact t1 _ hk3 (by rw [if_pos hd]; exact (or_eq hq).1)
    · exact t1 _ hk3 (by rw [if_neg (by rw [hd]; simp)]; omega)
theorem length2_ok (hp : Kn.pk.rep w0 p cs) (h0 : Ext w0 w) (ht : Tabs w) (hs : Small p) (hk : ∀ w', Ext w w' → k (.int .i64 (lengthS p)) w') : CallF P 83 #[.agg cs.toArray] w k := by
  have hp' := hp
  obtain ⟨vw, vp, vm, va, vc, vf, rfl, h1, h2, h3, h4, h5, h6⟩ := hp
  refine c83 _ _ _ ?_
  unfold S83_0
  refine box_ok fun w1 b e1 nb hB z1 => ?_
  refine load_blkA hB rfl (check_ok hp' (h0.trans e1) (ht.ext e1) hs fun w2 e2 => ?_)
  have hB := hB.ext e2
  have e := e1.trans e2
  refine ne_cond (fun h => ?_) fun h => ?_
  · have := hk _ e; unfold lengthS at this; rw [if_neg h] at this; exact this
  · have hd : 1 ≤ p.kind ∧ p.kind ≤ 14 := by have := (checkS_zero h).1; unfold BadKind at this; omega
    refine load_blkA hB rfl (length_ok hp' (h0.trans e) (ht.ext e) hd hs fun w3 e3 => ?_)
    have := hk _ (e.trans e3)
    unfold lengthS at this
    rw [if_pos h, ← lenS_eq fun hf => (checkS_zero h).2.1 (.inl hf)] at this
    exact this
theorem checkMsg_ok (hm : Kn.msg.rep w0 m cs) (hs : m.topic.size ≤ 9223372036854775807) (hk : ∀ w', Ext w w' → k (.int .i64 (checkMsgS m)) w') : CallF P 85 #[.agg cs.toArray] w k := by
  obtain ⟨vp, rfl, hv⟩ := hm
  refine c85 _ _ _ ?_
  unfold S85_0
  refine box_ok fun w1 b e1 n1 hB z1 => ?_
  unfold checkMsgS at hk
  refine LB_blk hB rfl (topic_ok hs (Ext.refl _) fun w2 e2 => ne_cond (fun h => ?_) fun h => ?_)
  · have := hk _ (e1.trans e2); rw [if_pos h] at this; exact this
  have := hk _ (e1.trans e2)
  rw [if_neg (by simp [h])] at this
  refine LB_blk (hB.ext e2) rfl (isQoS_ok fun r hr => not_cond (fun h => ?_) fun h => ?_)
  · rw [if_pos (fun hq => by rw [hr.2 hq] at h; cases h)] at this; exact this
  · rw [if_neg (by simp [hr.1 h])] at this; exact this
end
end Go.Proofs.YtdgffjkcpbolmaaGreatDoor.X
