/-
  The document's packet: topics, filters, qualities, bytes behind the length. No condition.
-/
import Derived.Test.YtdgffjkcpbolmaaGreatDoorRef2b
namespace Go.Proofs.YtdgffjkcpbolmaaGreatDoor.X
open Go Go.RowKit Go.Proofs.YtdgffjkcpbolmaaGreatDoor.Fx
set_option maxRecDepth 100000
set_option linter.unusedVariables false
set_option linter.unusedSimpArgs false
section
variable {w w0 : World} {p : Pk} {m : Msg} {cs : List Value} {k : Value → World → Prop}
theorem rTopics_ok (hp : Kn.pk.rep w0 p cs) (hf : p.Fits 9223372036854775807) (hk : ∀ w' r, Ext w w' → (r = true ↔ ¬ BadTopics p) → k (.bool r) w') : CallF P 130 #[.agg cs.toArray] w k := by
  obtain ⟨vw, vp, vm, va, vc, vf, rfl, h1, h2, h3, h4, h5, h6⟩ := hp
  refine c130 _ _ _ ?_
  unfold S130_0
  refine box_ok fun w1 b e1 n1 hB z1 => ?_
  have q1 := hf.will
  have q2 := hf.msg
  repeat' first | refine refCheck_ok (by assumption) ?_ | refine LB_blk hB rfl ?_ | rw [x_eqs2] | rw [x_nes2] | rw [x_not] | rw [x_pure] | with_reducible refine gd_b (fun _ => ?_) (fun _ => ?_) | with_reducible refine condW_b (fun _ => ?_) (fun _ => ?_) | refine len_sl (by assumption) ?_ | refine lens_ok ?_ | refine fld_ok ?_ | simp only [go_sem]
  all_goals exact hk _ _ e1 (by clear hk h1 h2 h3 h4 h5 h6 hB hf q1 q2; unfold BadTopics; grind)
theorem rFilters_ok (hp : Kn.pk.rep w0 p cs) (h0 : Ext w0 w) (hk : ∀ w' r, Ext w w' → (r = true ↔ ¬ BadFilters p) → k (.bool r) w') : CallF P 131 #[.agg cs.toArray] w k := by
  obtain ⟨vw, vp, vm, va, vc, vf, rfl, h1, h2, h3, h4, h5, h6⟩ := hp
  refine c131 _ _ _ ?_
  unfold S131_0 B131_0
  refine box_ok fun w1 b e1 n1 hB0 z1 => ?_
  unfold S131_1
  have l4 := h4.le
  have l6 := h6.le
  refine LoopP.of (fun t w' => ∃ i : Nat, t = (.pointer (some ⟨b, 0, none⟩), .int .i64 i) ∧ i ≤ p.asks.length ∧ Ext w1 w' ∧ ∀ j x, j < i → p.asks[j]? = some x → refFilter x.1 = 0) (fun t _ => p.asks.length - ctr t.2) ⟨0, rfl, Nat.zero_le _, Ext.refl _, fun j x h => by omega⟩ ?_
  rintro _ w2 ⟨i, rfl, hi, e2, hm⟩
  unfold S131_2 B131_2
  refine LB_blk (hB0.ext e2) rfl (len_sl h4 (lt_cond (fun hlt => ?_) fun hge => ?_))
  · obtain ⟨x, hx⟩ := lt_some hlt
    refine LB_blk (hB0.ext e2) rfl ?_
    refine idx_sl h4 rfl ((h0.trans e1).trans e2) hx fun b' o' cs' hr hc => ?_
    obtain rfl : cs' = [.string x.1, .int .i64 x.2] := hr
    refine LB_cells hc ((h0.trans e1).trans e2) rfl ?_
    refine refFilter_ok (Ext.refl _) fun w3 e3 => ?_
    refine ne_cond (fun hne => ?_) fun heq => ?_
    · refine hk _ _ ((e1.trans e2).trans e3) ?_
      have : BadFilters p := .inl ⟨x, List.mem_of_getElem? hx, hne⟩
      simp [this]
    · simp only [go_sem]
      rw [wrap_id (by omega) (by omega)]
      refine ⟨⟨i + 1, rfl, by omega, e2.trans e3, fun j y hj hy => ?_⟩, by simp only [ctr]; omega⟩
      by_cases hji : j = i
      · subst hji; rw [hx] at hy; obtain rfl := Option.some.inj hy; exact heq
      · exact hm j y (by omega) hy
  have ha : ∀ x ∈ p.asks, refFilter x.1 = 0 := fun x hx => by
    obtain ⟨j, hj⟩ := List.getElem?_of_mem hx
    exact hm j x (by have := (List.getElem?_eq_some_iff.1 hj).1; omega) hj
  clear hm hge
  unfold S131_3
  refine LoopP.of (fun t w' => ∃ i : Nat, t = (.pointer (some ⟨b, 0, none⟩), .int .i64 i) ∧ i ≤ p.filters.length ∧ Ext w1 w' ∧ ∀ j x, j < i → p.filters[j]? = some x → refFilter x = 0) (fun t _ => p.filters.length - ctr t.2) ⟨0, rfl, Nat.zero_le _, e2, fun j x h => by omega⟩ ?_
  rintro _ w2' ⟨i, rfl, hi, e2, hm⟩
  unfold S131_4
  refine LB_blk (hB0.ext e2) rfl (len_sl h6 (lt_cond (fun hlt => ?_) fun hge => ?_))
  · obtain ⟨x, hx⟩ := lt_some hlt
    refine LB_blk (hB0.ext e2) rfl ?_
    refine LI_sl h6 rfl ((h0.trans e1).trans e2) hx (fun _ h => h) ?_
    refine refFilter_ok (Ext.refl _) fun w3 e3 => ?_
    refine ne_cond (fun hne => ?_) fun heq => ?_
    · refine hk _ _ ((e1.trans e2).trans e3) ?_
      have : BadFilters p := .inr ⟨x, List.mem_of_getElem? hx, hne⟩
      simp [this]
    · simp only [go_sem]
      rw [wrap_id (by omega) (by omega)]
      refine ⟨⟨i + 1, rfl, by omega, e2.trans e3, fun j y hj hy => ?_⟩, by simp only [ctr]; omega⟩
      by_cases hji : j = i
      · subst hji; rw [hx] at hy; obtain rfl := Option.some.inj hy; exact heq
      · exact hm j y (by omega) hy
  refine hk _ _ (e1.trans e2) ?_
  have : ¬ BadFilters p := by
    rintro (⟨x, hx, hne⟩ | ⟨x, hx, hne⟩)
    · exact hne (ha x hx)
    · obtain ⟨j, hj⟩ := List.getElem?_of_mem hx
      exact hne (hm j x (by have := (List.getElem?_eq_some_iff.1 hj).1; omega) hj)
  simp [this]
theorem rQs_ok {b T : Nat} {vw vp vm va vc vf : Value} (hB0 : Blk w0 b (p.cells vw vp vm va vc vf) T) (h4 : Sl Kn.ask w0 va p.asks) (h5 : Sl Kn.int w0 vc p.codes) (e0 : Ext w0 w) (hk : ∀ w' r, Ext w w' → (r = true ↔ ¬ BadQs p) → k (.bool r) w') :
    S132_2 (.pointer (some ⟨b, 0, none⟩)) w k := by
  unfold S132_2 B132_2 S132_1
  have l4 := h4.le
  have l5 := h5.le
  refine LoopP.of (fun t w' => ∃ i : Nat, t = (.pointer (some ⟨b, 0, none⟩), .int .i64 i) ∧ i ≤ p.asks.length ∧ Ext w w' ∧ ∀ j x, j < i → p.asks[j]? = some x → Within x.2 2) (fun t _ => p.asks.length - ctr t.2) ⟨0, rfl, Nat.zero_le _, Ext.refl _, fun j x h => by omega⟩ ?_
  rintro _ w2 ⟨i, rfl, hi, e2, hm⟩
  unfold S132_3 B132_3
  refine LB_blk (hB0.ext (e0.trans e2)) rfl (len_sl h4 (lt_cond (fun hlt => ?_) fun hge => ?_))
  · obtain ⟨x, hx⟩ := lt_some hlt
    refine LB_blk (hB0.ext (e0.trans e2)) rfl ?_
    refine idx_sl h4 rfl (e0.trans e2) hx fun b' o' cs' hr hc => ?_
    obtain rfl : cs' = [.string x.1, .int .i64 x.2] := hr
    refine LB_cells hc (e0.trans e2) rfl ?_
    refine rWithin_ok fun r hr => ?_
    refine not_cond (fun hne => ?_) fun heq => ?_
    · refine hk _ _ e2 ?_
      have : BadQs p := .inl ⟨x, List.mem_of_getElem? hx, fun h => by rw [hr.2 h] at hne; cases hne⟩
      simp [this]
    · simp only [go_sem]
      rw [wrap_id (by omega) (by omega)]
      refine ⟨⟨i + 1, rfl, by omega, e2, fun j y hj hy => ?_⟩, by simp only [ctr]; omega⟩
      by_cases hji : j = i
      · subst hji; rw [hx] at hy; obtain rfl := Option.some.inj hy; exact hr.1 heq
      · exact hm j y (by omega) hy
  have ha : ∀ x ∈ p.asks, Within x.2 2 := fun x hx => by
    obtain ⟨j, hj⟩ := List.getElem?_of_mem hx
    exact hm j x (by have := (List.getElem?_eq_some_iff.1 hj).1; omega) hj
  clear hm hge
  unfold S132_4
  refine LoopP.of (fun t w' => ∃ i : Nat, t = (.pointer (some ⟨b, 0, none⟩), .int .i64 i) ∧ i ≤ p.codes.length ∧ Ext w w' ∧ ∀ j x, j < i → p.codes[j]? = some x → (Within x 2 ∨ x = 128)) (fun t _ => p.codes.length - ctr t.2) ⟨0, rfl, Nat.zero_le _, e2, fun j x h => by omega⟩ ?_
  rintro _ w2' ⟨i, rfl, hi, e2, hm⟩
  unfold S132_5
  refine LB_blk (hB0.ext (e0.trans e2)) rfl (len_sl h5 (lt_cond (fun hlt => ?_) fun hge => ?_))
  · obtain ⟨x, hx⟩ := lt_some hlt
    have next : (Within x 2 ∨ x = 128) → ∀ j y, j < i + 1 → p.codes[j]? = some y → (Within y 2 ∨ y = 128) := fun h j y hj hy => by
      by_cases hji : j = i
      · subst hji; rw [hx] at hy; obtain rfl := Option.some.inj hy; exact h
      · exact hm j y (by omega) hy
    refine LB_blk (hB0.ext (e0.trans e2)) rfl ?_
    refine LI_sl h5 rfl (e0.trans e2) hx (fun _ h => h) ?_
    refine rWithin_ok fun r hr => ?_
    rw [x_not]
    refine gd_b (fun hr1 => ?_) fun hr1 => ?_
    · refine LB_blk (hB0.ext (e0.trans e2)) rfl ?_
      refine LI_sl h5 rfl (e0.trans e2) hx (fun _ h => h) ?_
      refine ne_cond (fun hne => ?_) fun heq => ?_
      · refine hk _ _ e2 ?_
        have : BadQs p := .inr ⟨x, List.mem_of_getElem? hx, fun h => (by rw [hr.2 h] at hr1; cases hr1), hne⟩
        simp [this]
      · simp only [go_sem]
        rw [wrap_id (by omega) (by omega)]
        exact ⟨⟨i + 1, rfl, by omega, e2, next (.inr heq)⟩, by simp only [ctr]; omega⟩
    · simp only [go_sem]
      rw [wrap_id (by omega) (by omega)]
      exact ⟨⟨i + 1, rfl, by omega, e2, next (.inl (hr.1 (by simpa using hr1)))⟩, by simp only [ctr]; omega⟩
  refine hk _ _ e2 ?_
  have : ¬ BadQs p := by
    rintro (⟨x, hx, hne⟩ | ⟨x, hx, hne, hne2⟩)
    · exact hne (ha x hx)
    · obtain ⟨j, hj⟩ := List.getElem?_of_mem hx
      exact (hm j x (by have := (List.getElem?_eq_some_iff.1 hj).1; omega) hj).elim hne hne2
  simp [this]
attribute [local irreducible] S132_2
theorem rQualities_ok (hp : Kn.pk.rep w0 p cs) (h0 : Ext w0 w) (hk : ∀ w' r, Ext w w' → (r = true ↔ ¬ BadQualities p) → k (.bool r) w') : CallF P 132 #[.agg cs.toArray] w k := by
  obtain ⟨vw, vp, vm, va, vc, vf, rfl, h1, h2, h3, h4, h5, h6⟩ := hp
  refine c132 _ _ _ ?_
  unfold S132_0 B132_0
  refine box_ok fun w1 b e1 n1 hB z1 => ?_
  have t2 : (¬ ((p.kind = 1 ∧ p.hasWill = true ∧ ¬ Within p.will.qos 2) ∨ (p.kind = 3 ∧ ¬ Within p.msg.qos 2))) → S132_2 (.pointer (some ⟨b, 0, none⟩)) w1 k := fun hn =>
    rQs_ok (w0 := w1) hB (h4.ext Kn.ask_keeps (h0.trans e1)) (h5.ext Kn.int_keeps (h0.trans e1)) (Ext.refl _) fun w2 r e2 hr => hk _ _ (e1.trans e2) (by clear hk; unfold BadQualities; grind)
  repeat' first | (refine rWithin_ok fun r hr => ?_) | refine LB_blk hB rfl ?_ | rw [x_eqs2] | rw [x_nes2] | rw [x_not] | rw [x_pure] | with_reducible refine gd_b (fun _ => ?_) (fun _ => ?_) | with_reducible refine condW_b (fun _ => ?_) (fun _ => ?_) | refine len_sl (by assumption) ?_ | refine lens_ok ?_ | refine fld_ok ?_ | simp only [go_sem]
  all_goals first | exact t2 (by clear t2 hk h1 h2 h3 h4 h5 h6 hB; grind) | exact hk _ _ e1 (by clear hk t2 h1 h2 h3 h4 h5 h6 hB; unfold BadQualities; grind)
end
end Go.Proofs.YtdgffjkcpbolmaaGreatDoor.X
