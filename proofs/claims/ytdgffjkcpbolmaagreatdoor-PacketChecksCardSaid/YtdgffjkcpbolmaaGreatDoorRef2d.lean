/-
  The document's packet: bytes behind the length, the verdict, the flags: what the reference computes. No condition.
-/
import Derived.Test.YtdgffjkcpbolmaaGreatDoorRef2c
namespace Go.Proofs.YtdgffjkcpbolmaaGreatDoor.X
open Go Go.RowKit Go.Proofs.YtdgffjkcpbolmaaGreatDoor.Fx
set_option maxRecDepth 100000
set_option linter.unusedVariables false
set_option linter.unusedSimpArgs false
section
variable {w w0 : World} {p : Pk} {m : Msg} {cs : List Value} {k : Value → World → Prop}
theorem addI_ok {T : TypeId} {c : Bool} {a b : Int} (h : -9223372036854775808 ≤ a + b ∧ a + b ≤ 9223372036854775807) (hk : k (.int .i64 (a + b)) w) : XV P (binS .add T c (.int .i64 a) (.int .i64 b)) w k := by
  rw [x_add, wrap_id h.1 h.2]; exact hk
theorem asksLen_take {xs : List (ByteArray × Int)} {i : Nat} {x : ByteArray × Int} (h : xs[i]? = some x) : asksLen (xs.take (i + 1)) = asksLen (xs.take i) + (3 + x.1.size) := by
  simp only [asksLen]; rw [List.take_add_one, h]; simp
theorem textsLen_take {xs : List ByteArray} {i : Nat} {x : ByteArray} (h : xs[i]? = some x) : textsLen (xs.take (i + 1)) = textsLen (xs.take i) + (2 + x.size) := by
  simp only [textsLen]; rw [List.take_add_one, h]; simp
theorem asksLen_mono (xs : List (ByteArray × Int)) (i : Nat) : asksLen (xs.take i) ≤ asksLen xs := by
  have : asksLen xs = asksLen (xs.take i) + asksLen (xs.drop i) := by
    simp only [asksLen]; rw [← List.sum_append, ← List.map_append, List.take_append_drop]
  omega
theorem textsLen_mono (xs : List ByteArray) (i : Nat) : textsLen (xs.take i) ≤ textsLen xs := by
  have : textsLen xs = textsLen (xs.take i) + textsLen (xs.drop i) := by
    simp only [textsLen]; rw [← List.sum_append, ← List.map_append, List.take_append_drop]
  omega
theorem baseS_le (hs : Small p) : baseS p ≤ 3000000 := by
  have := asksLen_le p.asks
  have := textsLen_le p.filters
  obtain ⟨_, _, _, _, _, _, _, _, _, _, _, _⟩ := hs
  unfold baseS
  repeat' split
  all_goals omega
attribute [local irreducible] S134_1 S134_2 S134_3 S134_4 S134_5
theorem rBytes_ok (hp : Kn.pk.rep w0 p cs) (h0 : Ext w0 w) (hs : Small p) (hk : ∀ w', Ext w w' → k (.int .i64 (bytesS p)) w') : CallF P 134 #[.agg cs.toArray] w k := by
  have hp' := hp
  obtain ⟨vw, vp, vm, va, vc, vf, rfl, h1, h2, h3, h4, h5, h6⟩ := hp
  refine c134 _ _ _ ?_
  unfold S134_0 B134_0
  refine box_ok fun w1 b e1 n1 hB0 z1 => ?_
  have hle := baseS_le hs
  have t1 : ∀ w' (n : Int), Ext w1 w' → n = (baseS p : Int) → S134_1 (.pointer (some ⟨b, 0, none⟩)) (.int .i64 n) w' k := fun w' n e hn => by
    subst hn
    have hB := hB0.ext e
    unfold S134_1
    refine load_blkA hB rfl (rNumbered_ok hp' fun w2 r e2 hr => ?_)
    refine condW_b (fun h => ?_) fun h => ?_
    · refine addI_ok (by omega) ?_
      have := hk _ ((e1.trans e).trans e2)
      have hb : bytesS p = baseS p + 2 := by unfold bytesS; rw [if_pos (hr.1 h)]
      rw [hb] at this; exact this
    · have := hk _ ((e1.trans e).trans e2)
      have hb : bytesS p = baseS p := by unfold bytesS; rw [if_neg (fun hq => by rw [hr.2 hq] at h; cases h)]; rfl
      rw [hb] at this; exact this
  obtain ⟨s1, s2, s3, s4, s5, s6, s7, s8, s9, s10, s11, s12⟩ := hs
  have t2 : ∀ w' (n : Int), Ext w1 w' → p.kind = 1 → n = 12 + p.client.size + (if p.hasWill = true then 4 + p.will.topic.size + p.will.payload.length else 0 : Nat) + (if p.hasUser = true then 2 + p.user.size else 0 : Nat) → S134_2 (.pointer (some ⟨b, 0, none⟩)) (.int .i64 n) w' k := fun w' n e hkd hn => by
    have hB := hB0.ext e
    have hb : (baseS p : Int) = n + (if p.hasPass = true then 2 + p.pass.length else 0 : Nat) := by unfold baseS; rw [if_pos hkd]; omega
    have hn0 : 0 ≤ n ∧ n ≤ 3000000 := by repeat' split at hn <;> omega
    unfold S134_2 B134_2
    refine LB_blk hB rfl (condW_b (fun h => ?_) fun h => ?_)
    · refine addI_ok (by omega) (LB_blk hB rfl (len_sl h2 (addI_ok (by omega) ?_)))
      exact t1 _ _ e (by rw [hb, if_pos h]; omega)
    · exact t1 _ _ e (by rw [hb, if_neg (by rw [h]; simp)]; omega)
  have t3 : ∀ w' (n : Int), Ext w1 w' → p.kind = 1 → n = 12 + p.client.size + (if p.hasWill = true then 4 + p.will.topic.size + p.will.payload.length else 0 : Nat) → S134_3 (.pointer (some ⟨b, 0, none⟩)) (.int .i64 n) w' k := fun w' n e hkd hn => by
    have hB := hB0.ext e
    have hn0 : 0 ≤ n ∧ n ≤ 3000000 := by split at hn <;> omega
    unfold S134_3 B134_3
    refine LB_blk hB rfl (condW_b (fun h => ?_) fun h => ?_)
    · refine addI_ok (by omega) (LB_blk hB rfl (lens_ok (addI_ok (by omega) ?_)))
      exact t2 _ _ e hkd (by rw [hn, if_pos h]; omega)
    · exact t2 _ _ e hkd (by rw [hn, if_neg (c := p.hasUser = true) (by rw [h]; simp)]; omega)
  have t4 : ∀ w', Ext w1 w' → p.kind = 8 → S134_4 (.pointer (some ⟨b, 0, none⟩)) (.int .i64 0) (.int .i64 0) w' k := fun w' e hkd => by
    unfold S134_4
    have hb : baseS p = asksLen p.asks := by unfold baseS; rw [if_neg (by omega), if_neg (by omega), if_neg (by omega), if_pos hkd]
    have l1 := asksLen_le p.asks
    refine LoopP.of (fun t w' => ∃ i : Nat, t = (.pointer (some ⟨b, 0, none⟩), .int .i64 (asksLen (p.asks.take i)), .int .i64 i) ∧ i ≤ p.asks.length ∧ Ext w1 w') (fun t _ => p.asks.length - ctr t.2.2) ⟨0, rfl, Nat.zero_le _, e⟩ ?_
    rintro _ w2 ⟨i, rfl, hi, e2⟩
    have hB := hB0.ext e2
    have l2 := asksLen_mono p.asks i
    unfold S134_6 B134_6
    refine LB_blk hB rfl (len_sl h4 (lt_cond (fun hlt => ?_) fun hge => ?_))
    · obtain ⟨x, hx⟩ := lt_some hlt
      have l3 := asksLen_mono p.asks (i + 1)
      rw [asksLen_take hx] at l3
      refine addI_ok (by omega) (LB_blk hB rfl (idx_sl h4 rfl ((h0.trans e1).trans e2) hx fun b' o' cs' hr hc => ?_))
      obtain rfl : cs' = [.string x.1, .int .i64 x.2] := hr
      refine LB_cells hc ((h0.trans e1).trans e2) rfl (lens_ok (addI_ok (by omega) (addI_ok (by omega) ?_)))
      refine ⟨⟨i + 1, ?_, by omega, e2⟩, by simp only [ctr]; omega⟩
      rw [asksLen_take hx, show ((asksLen (p.asks.take i) + (3 + x.1.size) : Nat) : Int) = (asksLen (p.asks.take i) : Int) + 3 + x.1.size by omega, show ((i + 1 : Nat) : Int) = (i : Int) + 1 by omega]
    · refine t1 _ _ e2 ?_
      rw [hb, List.take_of_length_le (by omega)]
  have t5 : ∀ w', Ext w1 w' → p.kind = 10 → S134_5 (.pointer (some ⟨b, 0, none⟩)) (.int .i64 0) (.int .i64 0) w' k := fun w' e hkd => by
    unfold S134_5
    have hb : baseS p = textsLen p.filters := by unfold baseS; rw [if_neg (by omega), if_neg (by omega), if_neg (by omega), if_neg (by omega), if_neg (by omega), if_pos hkd]
    have l1 := textsLen_le p.filters
    refine LoopP.of (fun t w' => ∃ i : Nat, t = (.pointer (some ⟨b, 0, none⟩), .int .i64 (textsLen (p.filters.take i)), .int .i64 i) ∧ i ≤ p.filters.length ∧ Ext w1 w') (fun t _ => p.filters.length - ctr t.2.2) ⟨0, rfl, Nat.zero_le _, e⟩ ?_
    rintro _ w2 ⟨i, rfl, hi, e2⟩
    have hB := hB0.ext e2
    have l2 := textsLen_mono p.filters i
    unfold S134_7 B134_7
    refine LB_blk hB rfl (len_sl h6 (lt_cond (fun hlt => ?_) fun hge => ?_))
    · obtain ⟨x, hx⟩ := lt_some hlt
      have l3 := textsLen_mono p.filters (i + 1)
      rw [textsLen_take hx] at l3
      refine addI_ok (by omega) (LB_blk hB rfl (LI_sl h6 rfl ((h0.trans e1).trans e2) hx (fun _ h => h) ?_))
      refine lens_ok (addI_ok (by omega) (addI_ok (by omega) ?_))
      refine ⟨⟨i + 1, ?_, by omega, e2⟩, by simp only [ctr]; omega⟩
      rw [textsLen_take hx, show ((textsLen (p.filters.take i) + (2 + x.size) : Nat) : Int) = (textsLen (p.filters.take i) : Int) + 2 + x.size by omega, show ((i + 1 : Nat) : Int) = (i : Int) + 1 by omega]
    · refine t1 _ _ e2 ?_
      rw [hb, List.take_of_length_le (by omega)]
  have hB := hB0
  have e := Ext.refl w1
  have no : ∀ {q : Int}, p.kind = q → ∀ {r : Int}, q ≠ r → ¬ p.kind = r := fun h r hr h2 => hr (h.symm.trans h2)
  refine LB_blk hB rfl (eq_cond (fun h => ?_) fun hn1 => eq_cond (fun h => ?_) fun hn2 => eq_cond (fun h => ?_) fun hn3 => eq_cond (fun h => t4 _ e h) fun hn4 => eq_cond (fun h => ?_) fun hn5 => eq_cond (fun h => t5 _ e h) fun hn6 => ?_)
  · refine LB_blk hB rfl (lens_ok (addI_ok (by omega) (LB_blk hB rfl (condW_b (fun hw => ?_) fun hw => ?_))))
    · refine addI_ok (by omega) (fld_ok (LB_blk hB rfl (lens_ok (addI_ok (by omega) (addI_ok (by omega) (fld_ok (LB_blk hB rfl (len_sl h1 (addI_ok (by omega) ?_)))))))))
      exact t3 _ _ e h (by rw [if_pos hw]; omega)
    · exact t3 _ _ e h (by rw [if_neg (by rw [hw]; simp)]; omega)
  · exact t1 _ _ e (by unfold baseS; rw [if_neg hn1, if_pos h]; rfl)
  · refine fld_ok (LB_blk hB rfl (lens_ok (addI_ok (by omega) (fld_ok (LB_blk hB rfl (len_sl h3 (addI_ok (by omega) ?_)))))))
    exact t1 _ _ e (by unfold baseS; rw [if_neg hn1, if_neg hn2, if_pos h]; omega)
  · refine LB_blk hB rfl (len_sl h5 ?_)
    exact t1 _ _ e (by unfold baseS; rw [if_neg hn1, if_neg hn2, if_neg hn3, if_neg hn4, if_pos h])
  · exact t1 _ _ e (by unfold baseS; rw [if_neg hn1, if_neg hn2, if_neg hn3, if_neg hn4, if_neg hn5, if_neg hn6]; rfl)
end
end Go.Proofs.YtdgffjkcpbolmaaGreatDoor.X
