/-
  The program's packet: qualities, length. No condition.
-/
import Derived.Test.YtdgffjkcpbolmaaGreatDoorPkt3
namespace Go.Proofs.YtdgffjkcpbolmaaGreatDoor.X
open Go Go.RowKit Go.Proofs.YtdgffjkcpbolmaaGreatDoor.Fx
set_option maxRecDepth 100000
set_option linter.unusedVariables false
set_option linter.unusedSimpArgs false
section
variable {w w0 : World} {p : Pk} {m : Msg} {cs : List Value} {k : Value → World → Prop}
theorem quals_iff (hn : ¬ Foreign p) : BadQualities p ↔ (¬ Within p.will.qos 2 ∨ ¬ Within p.msg.qos 2 ∨ BadQs p) := by
  have a : (p.kind = 1 ∧ p.hasWill = true) ∨ Within p.will.qos 2 := by
    by_cases h : p.kind = 1 ∧ p.hasWill = true
    · exact .inl h
    · refine .inr ?_
      by_cases hz : ZeroMsg p.will
      · unfold Within; have := hz.2.2.1; omega
      · exact absurd (.inr (.inl ⟨h, hz⟩)) hn
  have b : p.kind = 3 ∨ Within p.msg.qos 2 := by
    by_cases h : p.kind = 3
    · exact .inl h
    · refine .inr ?_
      by_cases hz : ZeroMsg p.msg
      · unfold Within; have := hz.2.2.1; omega
      · exact absurd (.inr (.inr (.inr (.inr (.inr (.inl ⟨h, .inr hz⟩)))))) hn
  unfold BadQualities
  clear hn
  grind
theorem pQs_ok {va : Value} {T : Nat} {b : Nat} {vw vp vm vc vf : Value} (hB0 : Blk w0 b (p.cells vw vp vm va vc vf) T) (h4 : Sl Kn.ask w0 va p.asks) (h5 : Sl Kn.int w0 vc p.codes) (e0 : Ext w0 w) (hk : ∀ w' r, Ext w w' → (r = true ↔ ¬ BadQs p) → k (.bool r) w') :
    S124_1 (.pointer (some ⟨b, 0, none⟩)) va (.int .i64 p.asks.length) (.int .i64 0) w k := by
  unfold S124_1
  have l4 := h4.le
  have l5 := h5.le
  refine LoopP.of (fun t w' => ∃ i : Nat, t = (.pointer (some ⟨b, 0, none⟩), va, .int .i64 p.asks.length, .int .i64 i) ∧ i ≤ p.asks.length ∧ Ext w w' ∧ ∀ j x, j < i → p.asks[j]? = some x → Within x.2 2) (fun t _ => p.asks.length - ctr t.2.2.2) ⟨0, rfl, Nat.zero_le _, Ext.refl _, fun j x h => by omega⟩ ?_
  rintro _ w2 ⟨i, rfl, hi, e2, hm⟩
  unfold S124_2 B124_2
  refine lt_cond (fun hlt => ?_) fun hge => ?_
  · obtain ⟨x, hx⟩ := lt_some hlt
    refine LI_slA h4 rfl (e0.trans e2) hx fun cs hcs => ?_
    obtain rfl : cs = [.string x.1, .int .i64 x.2] := hcs
    refine alloc_ok (T := 73) (zs := [.string ⟨#[]⟩, .int .i64 0]) (by kernel_rfl) fun w3 c e3 n3 hC z3 => ?_
    refine store_blkA (T := 73) hC rfl rfl rfl fun w4 hC c4 z4 => ?_
    have e4 : Ext w2 w4 := e3.chg_new c4 fun i hi => by omega
    refine LB_blk hC rfl (isQoS_ok fun r hr => not_cond (fun hne => ?_) fun heq => ?_)
    · refine hk _ _ (e2.trans e4) ?_
      have : BadQs p := .inl ⟨x, List.mem_of_getElem? hx, fun h => by rw [hr.2 h] at hne; cases hne⟩
      simp [this]
    · refine add1_ok (by omega) ⟨⟨i + 1, rfl, by omega, e2.trans e4, fun j y hj hy => ?_⟩, by simp only [ctr]; omega⟩
      by_cases hji : j = i
      · subst hji; rw [hx] at hy; obtain rfl := Option.some.inj hy; exact hr.1 heq
      · exact hm j y (by omega) hy
  have ha : ∀ x ∈ p.asks, Within x.2 2 := fun x hx => by
    obtain ⟨j, hj⟩ := List.getElem?_of_mem hx
    exact hm j x (by have := (List.getElem?_eq_some_iff.1 hj).1; omega) hj
  clear hm hge
  refine LB_blk (hB0.ext (e0.trans e2)) rfl (len_sl h5 ?_)
  unfold S124_3
  refine LoopP.of (fun t w' => ∃ i : Nat, t = (vc, .int .i64 p.codes.length, .int .i64 i) ∧ i ≤ p.codes.length ∧ Ext w w' ∧ ∀ j x, j < i → p.codes[j]? = some x → (Within x 2 ∨ x = 128)) (fun t _ => p.codes.length - ctr t.2.2) ⟨0, rfl, Nat.zero_le _, e2, fun j x h => by omega⟩ ?_
  rintro _ w2' ⟨i, rfl, hi, e2, hm⟩
  unfold S124_4
  refine lt_cond (fun hlt => ?_) fun hge => ?_
  · obtain ⟨x, hx⟩ := lt_some hlt
    have next : (Within x 2 ∨ x = 128) → ∀ j y, j < i + 1 → p.codes[j]? = some y → (Within y 2 ∨ y = 128) := fun h j y hj hy => by
      by_cases hji : j = i
      · subst hji; rw [hx] at hy; obtain rfl := Option.some.inj hy; exact h
      · exact hm j y (by omega) hy
    refine LI_sl h5 rfl (e0.trans e2) hx (fun _ h => h) (isQoS_ok fun r hr => notI (gd_b (fun hr1 => ?_) fun hr1 => ?_))
    · refine ne_cond (fun hne => ?_) fun heq => ?_
      · refine hk _ _ e2 ?_
        have : BadQs p := .inr ⟨x, List.mem_of_getElem? hx, fun h => (by rw [hr.2 h] at hr1; cases hr1), hne⟩
        simp [this]
      · exact add1_ok (by omega) ⟨⟨i + 1, rfl, by omega, e2, next (.inr heq)⟩, by simp only [ctr]; omega⟩
    · exact add1_ok (by omega) ⟨⟨i + 1, rfl, by omega, e2, next (.inl (hr.1 (by simpa using hr1)))⟩, by simp only [ctr]; omega⟩
  refine hk _ _ e2 ?_
  have : ¬ BadQs p := by
    rintro (⟨x, hx, hne⟩ | ⟨x, hx, hne, hne2⟩)
    · exact hne (ha x hx)
    · obtain ⟨j, hj⟩ := List.getElem?_of_mem hx
      exact (hm j x (by have := (List.getElem?_eq_some_iff.1 hj).1; omega) hj).elim hne hne2
  simp [this]
theorem qualities_ok (hp : Kn.pk.rep w0 p cs) (h0 : Ext w0 w) (hn : ¬ Foreign p) (hk : ∀ w' r, Ext w w' → (r = true ↔ ¬ BadQualities p) → k (.bool r) w') : CallF P 124 #[.agg cs.toArray] w k := by
  obtain ⟨vw, vp, vm, va, vc, vf, rfl, h1, h2, h3, h4, h5, h6⟩ := hp
  rw [quals_iff hn] at hk
  refine c124 _ _ _ ?_
  unfold S124_0 B124_0
  refine box_ok fun w1 b e1 n1 hB z1 => ?_
  refine fld_ok (LB_blk hB rfl (isQoS_ok fun r hr => notI (gd_b (fun h => ?_) fun h => ?_)))
  · refine fld_ok (LB_blk hB rfl (isQoS_ok fun r2 hr2 => not_cond (fun h2 => ?_) fun h2 => ?_))
    · exact hk _ _ e1 (by clear hk; grind)
    · refine LB_blk hB rfl (len_sl h4 (pQs_ok hB (h4.ext Kn.ask_keeps (h0.trans e1)) (h5.ext Kn.int_keeps (h0.trans e1)) (Ext.refl _) fun w2 r3 e2 hr3 => ?_))
      exact hk _ _ (e1.trans e2) (by clear hk; grind)
  · exact hk _ _ e1 (by clear hk; grind)
/-! ### length -/
theorem asks_nil (h : p.asks.length = 0) : asksLen p.asks = 0 := by rw [List.length_eq_zero_iff.1 h]; rfl
theorem filters_nil (h : p.filters.length = 0) : textsLen p.filters = 0 := by rw [List.length_eq_zero_iff.1 h]; rfl
noncomputable def headS (p : Pk) : Nat :=
  if p.kind = 1 then 12 + p.client.size + (if p.hasWill = true then 4 + p.will.topic.size + p.will.payload.length else 0) + (if p.hasUser = true then 2 + p.user.size else 0) + (if p.hasPass = true then 2 + p.pass.length else 0)
  else if p.kind = 2 then 2 else if p.kind = 3 then 2 + p.msg.topic.size + p.msg.payload.length else 0
open Classical in
noncomputable def lenS (p : Pk) : Nat := headS p + (if Numbered p then 2 else 0) + asksLen p.asks + textsLen p.filters + p.codes.length
open Classical in
theorem lenS_eq (hn : ¬ Foreign p) : lenS p = bytesS p := by
  rw [foreign_prog] at hn
  simp only [not_or] at hn
  obtain ⟨_, _, _, _, _, _, _, e8, e9, e10⟩ := hn
  have a : p.kind = 8 ∨ asksLen p.asks = 0 := by
    by_cases h : p.kind = 8
    · exact .inl h
    · exact .inr (asks_nil (Decidable.byContradiction fun hq => e8 ⟨h, hq⟩))
  have b : p.kind = 10 ∨ textsLen p.filters = 0 := by
    by_cases h : p.kind = 10
    · exact .inl h
    · exact .inr (filters_nil (Decidable.byContradiction fun hq => e10 ⟨h, hq⟩))
  have c : p.kind = 9 ∨ p.codes.length = 0 := by
    by_cases h : p.kind = 9
    · exact .inl h
    · exact .inr (Decidable.byContradiction fun hq => e9 ⟨h, hq⟩)
  clear e8 e9 e10
  unfold lenS bytesS headS baseS
  generalize (if Numbered p then 2 else 0) = q
  by_cases k1 : p.kind = 1
  · rw [if_pos k1, if_pos k1]; omega
  rw [if_neg k1, if_neg k1]
  by_cases k2 : p.kind = 2
  · rw [if_pos k2, if_pos k2]; omega
  rw [if_neg k2, if_neg k2]
  by_cases k3 : p.kind = 3
  · rw [if_pos k3, if_pos k3]; omega
  rw [if_neg k3, if_neg k3]
  by_cases k8 : p.kind = 8
  · rw [if_pos k8]; omega
  rw [if_neg k8]
  by_cases k9 : p.kind = 9
  · rw [if_pos k9]; omega
  rw [if_neg k9]
  by_cases k10 : p.kind = 10
  · rw [if_pos k10]; omega
  rw [if_neg k10]; omega
theorem headS_le (hs : Small p) : headS p ≤ 2000000 := by
  obtain ⟨_, _, _, _, _, _, _, _, _, _, _, _⟩ := hs
  unfold headS
  repeat' split
  all_goals omega
theorem part_ok {n l : Int} {b : Bool} {c T : Nat} (hc : Blk w c [.int .i64 n] T) (hb : 0 ≤ n ∧ n ≤ 100000000 ∧ 0 ≤ l ∧ l ≤ 100000000) (hk : ∀ w', Chg (· = c) w w' → Blk w' c [.int .i64 (n + (if b = true then 2 + l else 0))] T → k (.tuple #[]) w') :
    XN P (callF (.func (.func 198) #[] #[.pointer (some ⟨c, 0, none⟩)]) #[.bool b, .int .i64 l]) w k := by
  refine callF0_ok (args := [.bool b, .int .i64 l]) (caps := [.pointer (some ⟨c, 0, none⟩)]) (c198 _ _ _ _ _ ?_)
  unfold S198_0
  refine condW_b (fun h => ?_) fun h => ?_
  · refine load_blk1 hc rfl (addI_ok (by omega) (addI_ok (by omega) ?_))
    refine store_blk1 hc rfl rfl fun w' hc' c' z' => ?_
    rw [if_pos h] at hk
    exact hk _ c' hc'
  · rw [if_neg (by rw [h]; simp), Int.add_zero] at hk
    exact hk _ (Chg.refl _ _) hc
/-- Inside length: the packet's cells, and what was counted. -/
structure LSt (w w' : World) (b c : Nat) (cs : List Value) (n : Int) : Prop where
  ext : Ext w w'
  blk : Blk w' b cs 29
  cnt : Blk w' c [.int .i64 n] 3
  ge : w.heap.size ≤ c
  ne : b ≠ c
theorem LSt.step {w w' w'' : World} {b c : Nat} {cs : List Value} {n n' : Int} (h : LSt w w' b c cs n) (hc : Chg (· = c) w' w'') (hb : Blk w'' c [.int .i64 n'] 3) : LSt w w'' b c cs n' :=
  ⟨h.ext.chg_new hc (fun i hi => by have := h.ge; omega), h.blk.chg hc h.ne, hb, h.ge, h.ne⟩
theorem LSt.more {w w' w'' : World} {b c : Nat} {cs : List Value} {n : Int} (h : LSt w w' b c cs n) (e : Ext w' w'') : LSt w w'' b c cs n := ⟨h.ext.trans e, h.blk.ext e, h.cnt.ext e, h.ge, h.ne⟩
abbrev partF (c : Nat) : Value := .func (.func 198) #[] #[.pointer (some ⟨c, 0, none⟩)]
attribute [local irreducible] S126_1 S126_2 S126_3 S126_4 S126_6
set_option maxHeartbeats 1000000 in
theorem length_ok (hp : Kn.pk.rep w0 p cs) (h0 : Ext w0 w) (ht : Tabs w) (hd : 1 ≤ p.kind ∧ p.kind ≤ 14) (hs : Small p) (hk : ∀ w', Ext w w' → k (.int .i64 (lenS p)) w') : CallF P 126 #[.agg cs.toArray] w k := by
  have hp' := hp
  obtain ⟨vw, vp, vm, va, vc, vf, rfl, h1, h2, h3, h4, h5, h6⟩ := hp
  refine c126 _ _ _ ?_
  unfold S126_0 B126_0
  refine box_ok fun w1 b e1 n1 hB z1 => alloc_ok (T := 3) (zs := [.int .i64 0]) (by kernel_rfl) fun w2 c e2 n2 hC z2 => ?_
  refine store_blk1 hC rfl rfl fun w3 hC c3 z3 => ?_
  have hbl := hB.lt
  have St0 : LSt w w3 b c (p.cells vw vp vm va vc vf) 0 := ⟨e1.trans (e2.chg_new c3 fun i hi => by omega), (hB.ext e2).chg c3 (by omega), hC, by omega, by omega⟩
  clear hB hC c3 z3 e2 n2 z2 e1 n1 z1
  rw [XV_eq (show (Instr.makeFunc (.func 198) #[] #[.pointer (some ⟨c, 0, none⟩)]).run P w3 = .ok (partF c) w3 from rfl)]
  have l1 := asksLen_le p.asks
  have l2 := textsLen_le p.filters
  have l3 := headS_le hs
  have s1 := hs.asks
  have s2 := hs.filters
  have s3 := hs.codes
  have t6 : ∀ w' n, LSt w w' b c (p.cells vw vp vm va vc vf) n → 0 ≤ n ∧ n ≤ 5000000 → (lenS p : Int) = n + textsLen p.filters + p.codes.length → S126_6 (.pointer (some ⟨b, 0, none⟩)) (.pointer (some ⟨c, 0, none⟩)) (partF c) vf (.int .i64 p.filters.length) (.int .i64 0) w' k := fun w' n st hn hl => by
    unfold S126_6
    refine LoopP.of (fun t w' => ∃ i : Nat, t = (.pointer (some ⟨b, 0, none⟩), .pointer (some ⟨c, 0, none⟩), partF c, vf, .int .i64 p.filters.length, .int .i64 i) ∧ i ≤ p.filters.length ∧ LSt w w' b c (p.cells vw vp vm va vc vf) (n + textsLen (p.filters.take i))) (fun t _ => p.filters.length - ctr t.2.2.2.2.2) ⟨0, rfl, Nat.zero_le _, by simpa [textsLen] using st⟩ ?_
    rintro _ w2 ⟨i, rfl, hi, st⟩
    have l4 := textsLen_mono p.filters i
    have l5 := h6.le
    unfold S126_7
    refine lt_cond (fun hlt => ?_) fun hge => ?_
    · obtain ⟨x, hx⟩ := lt_some hlt
      have l6 := textsLen_mono p.filters (i + 1)
      rw [textsLen_take hx] at l6
      refine LI_sl h6 rfl (h0.trans st.ext) hx (fun _ h => h) (lens_ok (part_ok st.cnt (by omega) fun w4 c4 b4 => ?_))
      refine add1_ok (by omega) ⟨⟨i + 1, rfl, by omega, ?_⟩, by simp only [ctr]; omega⟩
      have st4 := st.step c4 b4
      rw [if_pos rfl] at st4
      rw [textsLen_take hx, show n + ((textsLen (p.filters.take i) + (2 + x.size) : Nat) : Int) = n + textsLen (p.filters.take i) + (2 + x.size) by omega]
      exact st4
    · rw [List.take_of_length_le (by omega)] at st
      refine load_blk1 st.cnt rfl (LB_blk st.blk rfl (len_sl h5 (addI_ok (by omega) ?_)))
      have := hk _ st.ext
      rw [hl] at this
      exact this
  have t1 : ∀ w' n, LSt w w' b c (p.cells vw vp vm va vc vf) n → 0 ≤ n ∧ n ≤ 3000000 → (lenS p : Int) = n + asksLen p.asks + textsLen p.filters + p.codes.length → S126_1 (.pointer (some ⟨b, 0, none⟩)) (.pointer (some ⟨c, 0, none⟩)) (partF c) va (.int .i64 p.asks.length) (.int .i64 0) w' k := fun w' n st hn hl => by
    unfold S126_1
    refine LoopP.of (fun t w' => ∃ i : Nat, t = (.pointer (some ⟨b, 0, none⟩), .pointer (some ⟨c, 0, none⟩), partF c, va, .int .i64 p.asks.length, .int .i64 i) ∧ i ≤ p.asks.length ∧ LSt w w' b c (p.cells vw vp vm va vc vf) (n + asksLen (p.asks.take i))) (fun t _ => p.asks.length - ctr t.2.2.2.2.2) ⟨0, rfl, Nat.zero_le _, by simpa [asksLen] using st⟩ ?_
    rintro _ w2 ⟨i, rfl, hi, st⟩
    have l4 := asksLen_mono p.asks i
    have l5 := h4.le
    unfold S126_5 B126_5
    refine lt_cond (fun hlt => ?_) fun hge => ?_
    · obtain ⟨x, hx⟩ := lt_some hlt
      have l6 := asksLen_mono p.asks (i + 1)
      rw [asksLen_take hx] at l6
      refine LI_slA h4 rfl (h0.trans st.ext) hx fun cs hcs => ?_
      obtain rfl : cs = [.string x.1, .int .i64 x.2] := hcs
      refine alloc_ok (T := 73) (zs := [.string ⟨#[]⟩, .int .i64 0]) (by kernel_rfl) fun w3 d e3 n3 hD z3 => ?_
      refine store_blkA (T := 73) hD rfl rfl rfl fun w4 hD c4 z4 => ?_
      have st := st.more (e3.chg_new c4 fun i hi => by omega)
      refine LB_blk hD rfl (lens_ok (addI_ok (by omega) (part_ok st.cnt (by omega) fun w5 c5 b5 => ?_)))
      refine add1_ok (by omega) ⟨⟨i + 1, rfl, by omega, ?_⟩, by simp only [ctr]; omega⟩
      have st4 := st.step c5 b5
      rw [if_pos rfl] at st4
      rw [asksLen_take hx, show n + ((asksLen (p.asks.take i) + (3 + x.1.size) : Nat) : Int) = n + asksLen (p.asks.take i) + (2 + (x.1.size + 1)) by omega]
      exact st4
    · rw [List.take_of_length_le (by omega)] at st
      refine LB_blk st.blk rfl (len_sl h6 ?_)
      exact t6 _ _ st (by omega) (by omega)
  have t2 : ∀ w' n, LSt w w' b c (p.cells vw vp vm va vc vf) n → n = (headS p : Int) → S126_2 (.pointer (some ⟨b, 0, none⟩)) (.pointer (some ⟨c, 0, none⟩)) (partF c) w' k := fun w' n st hn => by
    unfold S126_2 B126_2
    refine load_blkA st.blk rfl (numbered_ok hp' (ht.ext st.ext) hd fun w2 r e2 hr => ?_)
    have st := st.more e2
    refine part_ok st.cnt (by omega) fun w3 c3 b3 => ?_
    have st := st.step c3 b3
    refine LB_blk st.blk rfl (len_sl h4 ?_)
    refine t1 _ _ st (by split <;> omega) ?_
    unfold lenS
    by_cases hq : Numbered p
    · rw [if_pos hq, if_pos (hr.2 hq)]; omega
    · rw [if_neg hq, if_neg (fun h => hq (hr.1 h))]; omega
  have t3 : ∀ w' n, LSt w w' b c (p.cells vw vp vm va vc vf) n → (p.kind ≠ 3 → n = (headS p : Int)) → S126_3 (.pointer (some ⟨b, 0, none⟩)) (.pointer (some ⟨c, 0, none⟩)) (partF c) (.int .i64 (hasv p.kind.toNat)) w' k := fun w' n st hn => by
    have q1 := hs.mpay
    have q2 := hs.mtopic
    unfold S126_3 B126_3
    rw [m4 hd]
    refine gtr_cond (fun h => ?_) fun h => ?_
    · have h3k : p.kind = 3 := Decidable.byContradiction fun hq => by rw [if_neg hq] at h; omega
      refine fld_ok (LB_blk st.blk rfl (len_sl h3 (store_blk1 st.cnt rfl rfl fun w2 b2 c2 z2 => ?_)))
      have st := st.step c2 b2
      refine fld_ok (LB_blk st.blk rfl (lens_ok (part_ok st.cnt (by omega) fun w3 c3 b3 => ?_)))
      refine t2 _ _ (st.step c3 b3) ?_
      unfold headS
      rw [if_pos rfl, if_neg (by omega), if_neg (by omega), if_pos h3k]
      omega
    · exact t2 _ _ st (hn fun hq => by rw [if_pos hq] at h; omega)
  have t4 : ∀ w' n, LSt w w' b c (p.cells vw vp vm va vc vf) n → (p.kind ≠ 3 → p.kind ≠ 2 → n = (headS p : Int)) → S126_4 (.pointer (some ⟨b, 0, none⟩)) (.pointer (some ⟨c, 0, none⟩)) (partF c) (.int .i64 (hasv p.kind.toNat)) w' k := fun w' n st hn => by
    unfold S126_4 B126_4
    rw [m2 hd]
    refine gtr_cond (fun h => ?_) fun h => ?_
    · have h2k : p.kind = 2 := Decidable.byContradiction fun hq => by rw [if_neg hq] at h; omega
      refine store_blk1 st.cnt rfl rfl fun w2 b2 c2 z2 => ?_
      refine t3 _ _ (st.step c2 b2) fun h3k => ?_
      unfold headS
      rw [if_neg (by omega), if_pos h2k]
      rfl
    · exact t3 _ _ st fun h3k => hn h3k fun hq => by rw [if_pos hq] at h; omega
  refine LB_blk St0.blk rfl (has_ok (ht.ext St0.ext) hd ?_)
  rw [m1 hd]
  have q1 := hs.client
  have q2 := hs.wtopic
  have q3 := hs.wpay
  have q4 := hs.user
  have q5 := hs.pass
  refine gtr_cond (fun h => ?_) fun h => ?_
  · have h1k : p.kind = 1 := Decidable.byContradiction fun hq => by rw [if_neg hq] at h; omega
    refine store_blk1 St0.cnt rfl rfl fun w2 b2 c2 z2 => ?_
    have st := St0.step c2 b2
    refine LB_blk st.blk rfl (lens_ok (part_ok st.cnt (by omega) fun w3 c3 b3 => ?_))
    have st := st.step c3 b3
    rw [if_pos rfl] at st
    refine LB_blk st.blk rfl (fld_ok (LB_blk st.blk rfl (lens_ok (part_ok st.cnt (by omega) fun w4 c4 b4 => ?_))))
    have st := st.step c4 b4
    refine LB_blk st.blk rfl (fld_ok (LB_blk st.blk rfl (len_sl h1 (part_ok st.cnt (by split <;> omega) fun w5 c5 b5 => ?_))))
    have st := st.step c5 b5
    refine LB_blk st.blk rfl (LB_blk st.blk rfl (lens_ok (part_ok st.cnt (by split <;> omega) fun w6 c6 b6 => ?_)))
    have st := st.step c6 b6
    refine LB_blk st.blk rfl (LB_blk st.blk rfl (len_sl h2 (part_ok st.cnt (by repeat' split
                                                                               all_goals omega) fun w7 c7 b7 => ?_)))
    have st := st.step c7 b7
    refine t4 _ _ st fun _ _ => ?_
    unfold headS
    rw [if_pos h1k]
    clear st t1 t2 t3 t4 t6
    cases p.hasWill <;> cases p.hasUser <;> cases p.hasPass <;> simp <;> omega
  · refine t4 _ _ St0 fun h3k h2k => ?_
    unfold headS
    rw [if_neg (fun hq => by rw [if_pos hq] at h; omega), if_neg h2k, if_neg h3k]
    rfl
end
end Go.Proofs.YtdgffjkcpbolmaaGreatDoor.X
