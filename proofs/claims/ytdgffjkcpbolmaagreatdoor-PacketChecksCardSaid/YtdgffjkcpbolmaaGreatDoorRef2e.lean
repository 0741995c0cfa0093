/-
  The document's packet: the verdict, the flags, the length: what the reference computes. No condition.
-/
import Derived.Test.YtdgffjkcpbolmaaGreatDoorRef2d
namespace Go.Proofs.YtdgffjkcpbolmaaGreatDoor.X
open Go Go.RowKit Go.Proofs.YtdgffjkcpbolmaaGreatDoor.Fx
set_option maxRecDepth 100000
set_option linter.unusedVariables false
set_option linter.unusedSimpArgs false
section
variable {w w0 : World} {p : Pk} {m : Msg} {cs : List Value} {k : Value → World → Prop}
attribute [local irreducible] S80_1 S80_2 S80_3 S80_4 S80_5 S80_6
set_option maxHeartbeats 2000000 in
theorem rCheck_ok (hp : Kn.pk.rep w0 p cs) (h0 : Ext w0 w) (hs : Small p) (hk : ∀ w', Ext w w' → k (.int .i64 (checkS p)) w') : CallF P 80 #[.agg cs.toArray] w k := by
  have hp' := hp
  obtain ⟨vw, vp, vm, va, vc, vf, rfl, h1, h2, h3, h4, h5, h6⟩ := hp
  refine c80 _ _ _ ?_
  unfold S80_0 B80_0
  refine box_ok fun w1 b e1 nb hB0 z1 => ?_
  have fin : ∀ w' n, Ext w1 w' → checkS p = n → k (.int .i64 n) w' := fun w' n e hn => by have := hk w' (e1.trans e); rw [hn] at this; exact this
  have t1 : ∀ w' c, Ext w1 w' → ¬ BadKind p → ¬ BadField p → ¬ BadText p → ¬ BadTopics p → ¬ BadFilters p → ¬ BadQualities p → ¬ BadID p → ¬ BadSize p → (c = true ↔ BadEmpty p) → S80_1 (.pointer (some ⟨b, 0, none⟩)) (.bool c) w' k :=
    fun w' c e n0 n1 n2 n3 n4 n5 n6 n7 hc => by
    have hB := hB0.ext e
    unfold S80_1
    refine condW_b (fun h => fin _ _ e (chk28 n0 n1 n2 n3 n4 n5 n6 n7 (hc.1 h))) fun h => ?_
    have n8 : ¬ BadEmpty p := fun hq => by rw [hc.2 hq] at h; cases h
    repeat' first | refine LB_blk hB rfl ?_ | rw [x_eqs2] | rw [x_nes2] | rw [x_not] | rw [x_pure] | with_reducible refine gd_b (fun _ => ?_) (fun _ => ?_) | with_reducible refine condW_b (fun _ => ?_) (fun _ => ?_) | refine len_sl (by assumption) ?_ | refine lens_ok ?_ | refine fld_ok ?_ | simp only [go_sem]
    all_goals first
      | exact fin _ _ e (chk29 n0 n1 n2 n3 n4 n5 n6 n7 n8 (by clear fin hk h1 h2 h3 h4 h5 h6 hB hB0 hp' n0 n1 n2 n3 n4 n5 n6 n7 n8 hc; unfold BadMarks; grind))
      | exact fin _ _ e (chk0 n0 n1 n2 n3 n4 n5 n6 n7 n8 (by clear fin hk h1 h2 h3 h4 h5 h6 hB hB0 hp' n0 n1 n2 n3 n4 n5 n6 n7 n8 hc; unfold BadMarks; grind))
  have t2 : ∀ w' c, Ext w1 w' → ¬ BadKind p → ¬ BadField p → ¬ BadText p → ¬ BadTopics p → ¬ BadFilters p → ¬ BadQualities p → ¬ BadID p → (c = true ↔ BadSize p) → S80_2 (.pointer (some ⟨b, 0, none⟩)) (.bool c) w' k :=
    fun w' c e n0 n1 n2 n3 n4 n5 n6 hc => by
    have hB := hB0.ext e
    unfold S80_2 B80_2
    refine condW_b (fun h => fin _ _ e (chk27 n0 n1 n2 n3 n4 n5 n6 (hc.1 h))) fun h => ?_
    have n7 : ¬ BadSize p := fun hq => by rw [hc.2 hq] at h; cases h
    repeat' first | refine LB_blk hB rfl ?_ | rw [x_eqs2] | rw [x_nes2] | rw [x_not] | rw [x_pure] | with_reducible refine gd_b (fun _ => ?_) (fun _ => ?_) | with_reducible refine condW_b (fun _ => ?_) (fun _ => ?_) | refine len_sl (by assumption) ?_ | refine lens_ok ?_ | refine fld_ok ?_ | simp only [go_sem]
    all_goals exact t1 _ _ e n0 n1 n2 n3 n4 n5 n6 n7 (by clear t1 fin hk h1 h2 h3 h4 h5 h6 hB hB0 hp' n0 n1 n2 n3 n4 n5 n6 n7 hc; unfold BadEmpty; grind)
  have t3 : ∀ w' c, Ext w1 w' → ¬ BadKind p → ¬ BadField p → ¬ BadText p → ¬ BadTopics p → ¬ BadFilters p → ¬ BadQualities p → (c = true ↔ BadID p) → S80_3 (.pointer (some ⟨b, 0, none⟩)) (.bool c) w' k :=
    fun w' c e n0 n1 n2 n3 n4 n5 hc => by
    have hB := hB0.ext e
    unfold S80_3 B80_3
    refine condW_b (fun h => fin _ _ e (chk26 n0 n1 n2 n3 n4 n5 (hc.1 h))) fun h => ?_
    have n6 : ¬ BadID p := fun hq => by rw [hc.2 hq] at h; cases h
    repeat' first | (refine load_blkA hB rfl (rBytes_ok hp' (h0.trans (e1.trans e)) hs fun w2 e2 => ?_); have hB := hB.ext e2; have e := e.trans e2) | refine LB_blk hB rfl ?_ | rw [x_eqs2] | rw [x_nes2] | rw [x_not] | rw [x_pure] | with_reducible refine gd_b (fun _ => ?_) (fun _ => ?_) | with_reducible refine condW_b (fun _ => ?_) (fun _ => ?_) | refine len_sl (by assumption) ?_ | refine lens_ok ?_ | refine fld_ok ?_ | simp only [go_sem]
    all_goals exact t2 _ _ e n0 n1 n2 n3 n4 n5 n6 (by clear t1 t2 fin hk h1 h2 h3 h4 h5 h6 hB hB0 hp' n0 n1 n2 n3 n4 n5 n6 hc; unfold BadSize; grind)
  have t4 : ∀ w' c, Ext w1 w' → ¬ BadKind p → ¬ BadField p → (c = true ↔ BadText p) → S80_4 (.pointer (some ⟨b, 0, none⟩)) (.bool c) w' k :=
    fun w' c e n0 n1 hc => by
    have hB := hB0.ext e
    unfold S80_4 B80_4
    refine condW_b (fun h => fin _ _ e (chk22 n0 n1 (hc.1 h))) fun h => ?_
    have n2 : ¬ BadText p := fun hq => by rw [hc.2 hq] at h; cases h
    refine load_blkA hB rfl (rTopics_ok hp' hs.fits fun w2 r e2 hr => ?_)
    have hB := hB.ext e2; have e := e.trans e2
    refine not_cond (fun h => fin _ _ e (chk23 n0 n1 n2 (by clear fin hk t1 t2 t3; grind))) fun h => ?_
    have n3 := hr.1 h
    refine load_blkA hB rfl (rFilters_ok hp' (h0.trans (e1.trans e)) fun w3 r3 e3 hr3 => ?_)
    have hB := hB.ext e3; have e := e.trans e3
    refine not_cond (fun h => fin _ _ e (chk24 n0 n1 n2 n3 (by clear fin hk t1 t2 t3; grind))) fun h => ?_
    have n4 := hr3.1 h
    refine load_blkA hB rfl (rQualities_ok hp' (h0.trans (e1.trans e)) fun w4 r4 e4 hr4 => ?_)
    have hB := hB.ext e4; have e := e.trans e4
    refine not_cond (fun h => fin _ _ e (chk25 n0 n1 n2 n3 n4 (by clear fin hk t1 t2 t3; grind))) fun h => ?_
    have n5 := hr4.1 h
    refine load_blkA hB rfl (rNumbered_ok hp' fun w5 r5 e5 hr5 => ?_)
    have hB := hB.ext e5; have e := e.trans e5
    repeat' first | refine LB_blk hB rfl ?_ | rw [x_eqs2] | rw [x_nes2] | rw [x_not] | rw [x_pure] | with_reducible refine gd_b (fun _ => ?_) (fun _ => ?_) | with_reducible refine condW_b (fun _ => ?_) (fun _ => ?_) | refine len_sl (by assumption) ?_ | refine lens_ok ?_ | refine fld_ok ?_ | simp only [go_sem]
    all_goals exact t3 _ _ e n0 n1 n2 n3 n4 n5 (by clear t1 t2 t3 fin hk h1 h2 h3 h4 h5 h6 hB hB0 hp' n0 n1 n2 n3 n4 n5 hc hr hr3 hr4; unfold BadID; grind)
  have t5 : ∀ w' c, Ext w1 w' → ¬ BadKind p → (c = true ↔ BadField p) → S80_5 (.pointer (some ⟨b, 0, none⟩)) (.bool c) w' k :=
    fun w' c e n0 hc => by
    have hB := hB0.ext e
    unfold S80_5 B80_5
    refine condW_b (fun h => fin _ _ e (chk21 n0 (hc.1 h))) fun h => ?_
    have n1 : ¬ BadField p := fun hq => by rw [hc.2 hq] at h; cases h
    repeat' first | refine Text_ok ?_ | refine LB_blk hB rfl ?_ | rw [x_eqs2] | rw [x_nes2] | rw [x_not] | rw [x_pure] | with_reducible refine gd_b (fun _ => ?_) (fun _ => ?_) | with_reducible refine condW_b (fun _ => ?_) (fun _ => ?_) | refine len_sl (by assumption) ?_ | refine lens_ok ?_ | refine fld_ok ?_ | simp only [go_sem]
    all_goals exact t4 _ _ e n0 n1 (by clear t1 t2 t3 t4 fin hk h1 h2 h3 h4 h5 h6 hB hB0 hp' n0 n1 hc; unfold BadText; grind)
  have t6 : ∀ w' c, Ext w1 w' → (c = true ↔ BadKind p) → S80_6 (.pointer (some ⟨b, 0, none⟩)) (.bool c) w' k :=
    fun w' c e hc => by
    have hB := hB0.ext e
    unfold S80_6 B80_6
    refine condW_b (fun h => fin _ _ e (chk20 (hc.1 h))) fun h => ?_
    have n0 : ¬ BadKind p := fun hq => by rw [hc.2 hq] at h; cases h
    refine load_blkA hB rfl (rForeign_ok hp' (h0.trans (e1.trans e)) fun w2 r e2 hr => ?_)
    have hB := hB.ext e2; have e := e.trans e2
    repeat' first | refine rWithin_ok (fun r hr => ?_) | refine LB_blk hB rfl ?_ | rw [x_eqs2] | rw [x_nes2] | rw [x_not] | rw [x_pure] | with_reducible refine gd_b (fun _ => ?_) (fun _ => ?_) | with_reducible refine condW_b (fun _ => ?_) (fun _ => ?_) | refine len_sl (by assumption) ?_ | refine lens_ok ?_ | refine fld_ok ?_ | simp only [go_sem]
    all_goals exact t5 _ _ e n0 (by clear t1 t2 t3 t4 t5 fin hk h1 h2 h3 h4 h5 h6 hB hB0 hp' n0 hc; unfold BadField; grind)
  have hB := hB0
  have e := Ext.refl w1
  repeat' first | refine LB_blk hB rfl ?_ | rw [x_eqs2] | rw [x_nes2] | rw [x_not] | rw [x_pure] | with_reducible refine gd_b (fun _ => ?_) (fun _ => ?_) | with_reducible refine condW_b (fun _ => ?_) (fun _ => ?_) | refine len_sl (by assumption) ?_ | refine lens_ok ?_ | refine fld_ok ?_ | simp only [go_sem]
  all_goals exact t6 _ _ e (by clear t1 t2 t3 t4 t5 t6 fin hk h1 h2 h3 h4 h5 h6 hB hB0 hp'; unfold BadKind; grind)
theorem kind3 (h : checkS p = 0) (h3 : p.kind = 3) : p.msg.qos = 0 ∨ p.msg.qos = 1 ∨ p.msg.qos = 2 := by
  have := (checkS_zero h).2.2.1
  unfold BadQualities Within at this
  have h := fun h4 => this (.inr (.inl ⟨h3, h4⟩))
  omega
theorem flagsS_3 (h : checkS p = 0) (h3 : p.kind = 3) : flagsS p = 2 * p.msg.qos + (if p.dup = true then 8 else 0) + (if p.msg.retain = true then 1 else 0) := by
  unfold flagsS; rw [if_pos h, if_pos h3]
theorem flagsS_n (h : checkS p = 0) (h3 : p.kind ≠ 3) : flagsS p = if p.kind = 6 ∨ p.kind = 8 ∨ p.kind = 10 then 2 else 0 := by
  unfold flagsS; rw [if_pos h, if_neg h3]
theorem flagsS_0 (h : checkS p ≠ 0) : flagsS p = 0 := by unfold flagsS; rw [if_neg h]
attribute [local irreducible] S82_1
theorem rFlags_ok (hp : Kn.pk.rep w0 p cs) (h0 : Ext w0 w) (hs : Small p) (hk : ∀ w', Ext w w' → k (.int .i64 (flagsS p)) w') : CallF P 82 #[.agg cs.toArray] w k := by
  have hp' := hp
  obtain ⟨vw, vp, vm, va, vc, vf, rfl, h1, h2, h3, h4, h5, h6⟩ := hp
  refine c82 _ _ _ ?_
  unfold S82_0 B82_0
  refine box_ok fun w1 b e1 nb hB z1 => ?_
  refine load_blkA hB rfl (rCheck_ok hp' (h0.trans e1) hs fun w2 e2 => ?_)
  have hB := hB.ext e2
  have e := e1.trans e2
  have fin : ∀ n, flagsS p = n → k (.int .i64 n) w2 := fun n hn => by have := hk w2 e; rw [hn] at this; exact this
  refine ne_cond (fun h => fin _ (flagsS_0 h)) fun h => ?_
  have t1 : ∀ n : Int, p.kind = 3 → n = 2 * p.msg.qos + (if p.dup = true then 8 else 0) → S82_1 (.pointer (some ⟨b, 0, none⟩)) (.int .i64 n) w2 k := fun n hk3 hn => by
    have hq := kind3 h hk3
    have hn0 : 0 ≤ n ∧ n ≤ 12 := by split at hn <;> omega
    unfold S82_1
    refine fld_ok (LB_blk hB rfl (condW_b (fun hr => ?_) fun hr => ?_))
    · refine addI_ok (by omega) (fin _ ?_)
      rw [flagsS_3 h hk3, if_pos hr, hn]
    · refine fin _ ?_
      rw [flagsS_3 h hk3, if_neg (c := p.msg.retain = true) (by rw [hr]; simp), hn]; omega
  refine LB_blk hB rfl (eq_cond (fun hk3 => ?_) fun hk3 => ?_)
  · have hq := kind3 h hk3
    refine fld_ok (LB_blk hB rfl ?_)
    rw [x_mul, wrap_id (by omega) (by omega)]
    refine LB_blk hB rfl (condW_b (fun hd => ?_) fun hd => ?_)
    · exact addI_ok (by omega) (t1 _ hk3 (by rw [if_pos hd]))
    · exact t1 _ hk3 (by rw [if_neg (by rw [hd]; simp)]; omega)
  · have hf := flagsS_n h hk3
    rw [x_eql]
    refine condW_b (fun h6 => ?_) fun h6 => ?_
    · rw [h6]; exact fin _ (by rw [hf, if_pos (.inl (by simpa using h6))])
    rw [x_eql]
    refine condW_b (fun h8 => ?_) fun h8 => ?_
    · rw [h8]; exact fin _ (by rw [hf, if_pos (.inr (.inl (by simpa using h8)))])
    refine eq_cond (fun h10 => ?_) fun h10 => ?_
    · exact fin _ (by rw [hf, if_pos (.inr (.inr h10))])
    · simp only [beq_eq_false_iff_ne] at h6 h8
      exact fin _ (by rw [hf, if_neg (by omega)])
theorem rLength_ok (hp : Kn.pk.rep w0 p cs) (h0 : Ext w0 w) (hs : Small p) (hk : ∀ w', Ext w w' → k (.int .i64 (lengthS p)) w') : CallF P 84 #[.agg cs.toArray] w k := by
  have hp' := hp
  obtain ⟨vw, vp, vm, va, vc, vf, rfl, h1, h2, h3, h4, h5, h6⟩ := hp
  refine c84 _ _ _ ?_
  unfold S84_0
  refine box_ok fun w1 b e1 nb hB z1 => ?_
  refine load_blkA hB rfl (rCheck_ok hp' (h0.trans e1) hs fun w2 e2 => ?_)
  have hB := hB.ext e2
  have e := e1.trans e2
  refine ne_cond (fun h => ?_) fun h => ?_
  · have := hk _ e; unfold lengthS at this; rw [if_neg h] at this; exact this
  · refine load_blkA hB rfl (rBytes_ok hp' (h0.trans e) hs fun w3 e3 => ?_)
    have := hk _ (e.trans e3); unfold lengthS at this; rw [if_pos h] at this; exact this
theorem rCheckMsg_ok (hm : Kn.msg.rep w0 m cs) (hs : m.topic.size ≤ 9223372036854775807) (hk : ∀ w', Ext w w' → k (.int .i64 (checkMsgS m)) w') : CallF P 86 #[.agg cs.toArray] w k := by
  obtain ⟨vp, rfl, hv⟩ := hm
  refine c86 _ _ _ ?_
  unfold S86_0
  refine box_ok fun w1 b e1 n1 hB z1 => ?_
  have := hk _ e1
  unfold checkMsgS at this
  refine LB_blk hB rfl (refCheck_ok hs (ne_cond (fun h => ?_) fun h => ?_))
  · rw [if_pos h] at this; exact this
  rw [if_neg (by simp [h])] at this
  refine LB_blk hB rfl (rWithin_ok fun r hr => not_cond (fun h => ?_) fun h => ?_)
  · rw [if_pos (fun hq => by rw [hr.2 hq] at h; cases h)] at this; exact this
  · rw [if_neg (by simp [hr.1 h])] at this; exact this
end
end Go.Proofs.YtdgffjkcpbolmaaGreatDoor.X
