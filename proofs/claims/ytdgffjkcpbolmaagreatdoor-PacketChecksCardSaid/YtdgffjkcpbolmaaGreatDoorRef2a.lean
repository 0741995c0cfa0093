/-
  The document's Same: two packets that read as the same data. No condition.
-/
import Derived.Test.YtdgffjkcpbolmaaGreatDoorGRef2a
import Derived.Test.YtdgffjkcpbolmaaGreatDoorFxApi
import Derived.Test.YtdgffjkcpbolmaaGreatDoorFxTab
import Derived.Test.YtdgffjkcpbolmaaGreatDoorFxEq
namespace Go.Proofs.YtdgffjkcpbolmaaGreatDoor.X
open Go Go.RowKit Go.Proofs.YtdgffjkcpbolmaaGreatDoor.Fx
set_option maxRecDepth 100000

theorem sameBytes_ok {w0 w : World} {a b : Value} {xs ys : List UInt8} {k : Value → World → Prop} (h0 : Ext w0 w) (ha : Sl Kn.byte w0 a xs) (hb : Sl Kn.byte w0 b ys) (hk : ∀ w' r, Ext w w' → (r = true ↔ xs = ys) → k (.bool r) w') :
    CallF P 25 #[a, b] w k := by
  refine c25 _ _ _ _ ?_
  unfold S25_0 B25_0
  refine len_sl ha (len_sl hb (ne_cond (fun h => ?_) (fun h => ?_)))
  · exact hk _ _ (Ext.refl _) (by simp; intro e; rw [e] at h; exact h rfl)
  have hl := ha.le
  unfold S25_1
  refine LoopP.of (fun s w' => ∃ i : Nat, i ≤ xs.length ∧ s = (a, b, .int .i64 i) ∧ Ext w w' ∧ xs.take i = ys.take i) (fun s _ => xs.length - ctr s.2.2) ⟨0, by omega, rfl, Ext.refl _, rfl⟩ ?_
  rintro _ w1 ⟨i, hi, rfl, e1, ht⟩
  unfold S25_2
  refine len_sl ha (lt_cond (fun hlt => ?_) (fun hge => ?_))
  · obtain ⟨x, hx⟩ := lt_some hlt
    obtain ⟨y, hy⟩ := lt_some (xs := ys) (i := i) (by omega)
    have e2 := (h0.trans e1).drew
    refine LIS_sl ha rfl e2 hx (fun _ h => h) (LIS_sl hb rfl e2 hy (fun _ h => h) (s_ne_cond (fun hne => ?_) (fun heq => ?_)))
    · refine hk _ _ e1.drew (by
        simp only [Bool.false_eq_true, false_iff]
        rintro rfl
        rw [hx] at hy
        exact hne (by injection hy with hy; rw [hy]))
    · simp only [go_sem]
      rw [wrap_id (by omega) (by omega)]
      refine ⟨⟨i + 1, by omega, rfl, e1.drew, ?_⟩, by simp [ctr]; omega⟩
      have hxy : x = y := by
        have : x.toNat = y.toNat := by omega
        exact UInt8.toNat_inj.1 this
      rw [List.take_add_one, List.take_add_one, ht, hx, hy, hxy]
  · refine hk _ _ e1 ⟨fun _ => ?_, fun _ => rfl⟩
    have : i = xs.length := by omega
    subst this
    rw [List.take_length, List.take_of_length_le (by omega)] at ht
    exact ht

theorem sameMessage_ok {w0 w : World} {ca cb : List Value} {m q : Msg} {k : Value → World → Prop} (h0 : Ext w0 w) (ha : Kn.msg.rep w0 m ca) (hb : Kn.msg.rep w0 q cb) (hk : ∀ w' r, Ext w w' → (r = true ↔ m = q) → k (.bool r) w') :
    CallF P 24 #[.agg ca.toArray, .agg cb.toArray] w k := by
  obtain ⟨va, rfl, ha⟩ := ha
  obtain ⟨vb, rfl, hb⟩ := hb
  refine c24 _ _ _ _ ?_
  unfold S24_0
  refine box_ok fun w1 b1 e1 n1 hA _ => box_ok fun w2 b2 e2 n2 hB _ => ?_
  replace hA := hA.ext e2
  have e := e1.trans e2
  have no : m ≠ q → k (.bool false) w2 := fun h => hk _ _ e (by simpa using h)
  refine LB_blk hA rfl (LB_blk hB rfl (eqs_gd (fun h1 => ?_) (fun h => no (by rintro rfl; exact h rfl))))
  refine LB_blk hA rfl (LB_blk hB rfl (eq_gd (fun h2 => ?_) (fun h => no (by rintro rfl; exact h rfl))))
  refine LB_blk hA rfl (LB_blk hB rfl (eqb_gd (fun h3 => ?_) (fun h => no (by rintro rfl; exact h rfl))))
  refine LB_blk hA rfl (LB_blk hB rfl (sameBytes_ok (h0.trans e) ha hb fun w3 r e3 h4 => ?_))
  refine hk _ _ (e.trans e3) (h4.trans ⟨fun h4 => ?_, fun h => by rw [h]⟩)
  cases m; cases q; simp_all

theorem same_tail {w0 w : World} {p q : Pk} {b1 b2 : Nat} {vw vp vm va vc vf uw up um ua uc uf : Value} {k : Value → World → Prop} (h0 : Ext w0 w)
    (hA : Blk w0 b1 (p.cells vw vp vm va vc vf) 29) (hB : Blk w0 b2 (q.cells uw up um ua uc uf) 29) (ha : Sl Kn.ask w0 va p.asks) (hc : Sl Kn.int w0 vc p.codes) (hf : Sl Kn.str w0 vf p.filters)
    (ha' : Sl Kn.ask w0 ua q.asks) (hc' : Sl Kn.int w0 uc q.codes) (hf' : Sl Kn.str w0 uf q.filters) (la : p.asks.length = q.asks.length) (lc : p.codes.length = q.codes.length) (lf : p.filters.length = q.filters.length)
    (hk : ∀ w' r, Ext w w' → (r = true ↔ p.asks = q.asks ∧ p.codes = q.codes ∧ p.filters = q.filters) → k (.bool r) w') : S7_1 (.pointer (some ⟨b1, 0, none⟩)) (.pointer (some ⟨b2, 0, none⟩)) (.int .i64 0) w k := by
  unfold S7_1
  have l1 := ha.le
  have l2 := hc.le
  have l3 := hf.le
  refine LoopP.of (fun s w' => ∃ i : Nat, i ≤ p.asks.length ∧ s = (.pointer (some ⟨b1, 0, none⟩), .pointer (some ⟨b2, 0, none⟩), .int .i64 i) ∧ Ext w w' ∧ p.asks.take i = q.asks.take i) (fun s _ => p.asks.length - ctr s.2.2) ⟨0, by omega, rfl, Ext.refl _, rfl⟩ ?_
  rintro _ w1 ⟨i, hi, rfl, e1, ht⟩
  unfold S7_2 B7_2
  have e1' := h0.trans e1
  refine LB_blk (hA.ext e1') rfl (len_sl ha (lt_cond (fun hlt => ?_) (fun hge => ?_)))
  · obtain ⟨x, hx⟩ := lt_some hlt
    obtain ⟨y, hy⟩ := lt_some (xs := q.asks) (i := i) (by omega)
    refine LBS_blk hA e1'.drew rfl (LIS_slA ha rfl e1'.drew hx fun cx rx => LBS_blk hB e1'.drew rfl (LIS_slA ha' rfl e1'.drew hy fun cy ry => ?_))
    obtain rfl : cx = [.string x.1, .int .i64 x.2] := rx
    obtain rfl : cy = [.string y.1, .int .i64 y.2] := ry
    refine s_neqA (by kernel_rfl) ?_
    have hxy : eqCells [.string x.1, .int .i64 x.2] [.string y.1, .int .i64 y.2] = true ↔ x = y := by
      simp only [eqCells, valEq, Bool.and_true, Bool.and_eq_true, bytes_eq]
      rw [beq_iff_eq, Prod.ext_iff]
    refine condW_b (fun h => hk _ _ e1.drew ?_) (fun h => ?_)
    · simp only [Bool.false_eq_true, false_iff]
      rintro ⟨h1, _⟩
      rw [h1, hy] at hx
      have : y = x := by injection hx
      rw [hxy.2 this.symm] at h
      cases h
    · have : x = y := hxy.1 (by simpa using h)
      simp only [go_sem]
      rw [wrap_id (by omega) (by omega)]
      exact ⟨⟨i + 1, by omega, rfl, e1.drew, by rw [List.take_add_one, List.take_add_one, ht, hx, hy, this]⟩, by simp [ctr]; omega⟩
  have hasks : p.asks = q.asks := by
    obtain rfl : i = p.asks.length := by omega
    rw [List.take_length, List.take_of_length_le (by omega)] at ht
    exact ht
  clear ht hge
  unfold S7_3
  refine LoopP.of (fun s w' => ∃ i : Nat, i ≤ p.codes.length ∧ s = (.pointer (some ⟨b1, 0, none⟩), .pointer (some ⟨b2, 0, none⟩), .int .i64 i) ∧ Ext w w' ∧ p.codes.take i = q.codes.take i) (fun s _ => p.codes.length - ctr s.2.2) ⟨0, by omega, rfl, e1, rfl⟩ ?_
  rintro _ w2 ⟨i, hi, rfl, e2, ht⟩
  unfold S7_4 B7_4
  have e2' := h0.trans e2
  refine LB_blk (hA.ext e2') rfl (len_sl hc (lt_cond (fun hlt => ?_) (fun hge => ?_)))
  · obtain ⟨x, hx⟩ := lt_some hlt
    obtain ⟨y, hy⟩ := lt_some (xs := q.codes) (i := i) (by omega)
    refine LBS_blk hA e2'.drew rfl (LIS_sl hc rfl e2'.drew hx (fun _ h => h) (LBS_blk hB e2'.drew rfl (LIS_sl hc' rfl e2'.drew hy (fun _ h => h) (s_ne_cond (fun h => ?_) (fun h => ?_)))))
    · refine hk _ _ e2.drew ?_
      simp only [Bool.false_eq_true, false_iff]
      rintro ⟨_, h1, _⟩
      rw [h1, hy] at hx
      exact h (by injection hx with hx; rw [hx])
    · simp only [go_sem]
      rw [wrap_id (by omega) (by omega)]
      exact ⟨⟨i + 1, by omega, rfl, e2.drew, by rw [List.take_add_one, List.take_add_one, ht, hx, hy, h]⟩, by simp [ctr]; omega⟩
  have hcodes : p.codes = q.codes := by
    obtain rfl : i = p.codes.length := by omega
    rw [List.take_length, List.take_of_length_le (by omega)] at ht
    exact ht
  clear ht hge
  unfold S7_5
  refine LoopP.of (fun s w' => ∃ i : Nat, i ≤ p.filters.length ∧ s = (.pointer (some ⟨b1, 0, none⟩), .pointer (some ⟨b2, 0, none⟩), .int .i64 i) ∧ Ext w w' ∧ p.filters.take i = q.filters.take i) (fun s _ => p.filters.length - ctr s.2.2) ⟨0, by omega, rfl, e2, rfl⟩ ?_
  rintro _ w3 ⟨i, hi, rfl, e3, ht⟩
  unfold S7_6
  have e3' := h0.trans e3
  refine LB_blk (hA.ext e3') rfl (len_sl hf (lt_cond (fun hlt => ?_) (fun hge => ?_)))
  · obtain ⟨x, hx⟩ := lt_some hlt
    obtain ⟨y, hy⟩ := lt_some (xs := q.filters) (i := i) (by omega)
    refine LBS_blk hA e3'.drew rfl (LIS_sl hf rfl e3'.drew hx (fun _ h => h) (LBS_blk hB e3'.drew rfl (LIS_sl hf' rfl e3'.drew hy (fun _ h => h) (s_nes_cond (fun h => ?_) (fun h => ?_)))))
    · refine hk _ _ e3.drew ?_
      simp only [Bool.false_eq_true, false_iff]
      rintro ⟨_, _, h1⟩
      rw [h1, hy] at hx
      exact h (by injection hx with hx; rw [hx])
    · simp only [go_sem]
      rw [wrap_id (by omega) (by omega)]
      exact ⟨⟨i + 1, by omega, rfl, e3.drew, by rw [List.take_add_one, List.take_add_one, ht, hx, hy, h]⟩, by simp [ctr]; omega⟩
  refine hk _ _ e3 ⟨fun _ => ⟨hasks, hcodes, ?_⟩, fun _ => rfl⟩
  obtain rfl : i = p.filters.length := by omega
  rw [List.take_length, List.take_of_length_le (by omega)] at ht
  exact ht

theorem same_ok {w0 w : World} {ca cb : List Value} {p q : Pk} {k : Value → World → Prop} (h0 : Ext w0 w) (ha : Kn.pk.rep w0 p ca) (hb : Kn.pk.rep w0 q cb) (hk : ∀ w' r, Ext w w' → (r = true ↔ p = q) → k (.bool r) w') :
    CallF P 7 #[.agg ca.toArray, .agg cb.toArray] w k := by
  obtain ⟨vw, vp, vm, va, vc, vf, rfl, a1, a2, a3, a4, a5, a6⟩ := ha
  obtain ⟨uw, up, um, ua, uc, uf, rfl, d1, d2, d3, d4, d5, d6⟩ := hb
  refine c7 _ _ _ _ ?_
  unfold S7_0 B7_0
  refine box_ok fun w1 b1 e1 n1 hA _ => box_ok fun w2 b2 e2 n2 hB _ => ?_
  replace hA := hA.ext e2
  have e := e1.trans e2
  have no : ∀ w', Ext w2 w' → p ≠ q → k (.bool false) w' := fun w' e' h => hk _ _ (e.trans e') (by simpa using h)
  refine LB_blk hA rfl (LB_blk hB rfl (ne_gd (fun _ => ?_) (fun h => no _ (Ext.refl _) (by rintro rfl; exact h rfl))))
  refine LB_blk hA rfl (LB_blk hB rfl (ne_gd (fun _ => ?_) (fun h => no _ (Ext.refl _) (by rintro rfl; exact h rfl))))
  refine LB_blk hA rfl (LB_blk hB rfl (neb_gd (fun _ => ?_) (fun h => no _ (Ext.refl _) (by rintro rfl; exact h rfl))))
  refine LB_blk hA rfl (LB_blk hB rfl (ne_gd (fun _ => ?_) (fun h => no _ (Ext.refl _) (by rintro rfl; exact h rfl))))
  refine LB_blk hA rfl (LB_blk hB rfl (nes_gd (fun _ => ?_) (fun h => no _ (Ext.refl _) (by rintro rfl; exact h rfl))))
  refine LB_blk hA rfl (LB_blk hB rfl (neb_gd (fun _ => ?_) (fun h => no _ (Ext.refl _) (by rintro rfl; exact h rfl))))
  refine LB_blk hA rfl (LB_blk hB rfl (neb_gd (fun _ => ?_) (fun h => no _ (Ext.refl _) (by rintro rfl; exact h rfl))))
  refine LB_blk hA rfl (LB_blk hB rfl (nes_gd (fun _ => ?_) (fun h => no _ (Ext.refl _) (by rintro rfl; exact h rfl))))
  refine LB_blk hA rfl (LB_blk hB rfl (neb_cond (fun h => no _ (Ext.refl _) (by rintro rfl; exact h rfl)) (fun _ => ?_)))
  refine LB_blk hA rfl (LB_blk hB rfl (neb_gd (fun _ => ?_) (fun h => no _ (Ext.refl _) (by rintro rfl; exact h rfl))))
  refine LB_blk hA rfl (LB_blk hB rfl (ne_gd (fun _ => ?_) (fun h => no _ (Ext.refl _) (by rintro rfl; exact h rfl))))
  refine LB_blk hA rfl (LB_blk hB rfl (neb_gd (fun _ => ?_) (fun h => no _ (Ext.refl _) (by rintro rfl; exact h rfl))))
  refine LB_blk hA rfl (LB_blk hB rfl (ne_gd (fun _ => ?_) (fun h => no _ (Ext.refl _) (by rintro rfl; exact h rfl))))
  refine LB_agg hA (o := 0) rfl rfl (LB_agg hB (o := 0) rfl rfl (sameMessage_ok (m := p.will) (q := q.will) (h0.trans e) ⟨vw, rfl, a1⟩ ⟨uw, rfl, d1⟩ fun w3 r e3 h3 => not_gd (fun t3 => ?_) (fun h => no _ e3 (by rintro rfl; rw [h3.2 rfl] at h; cases h))))
  have e3' := e3
  refine LB_agg (hA.ext e3') (o := 0) rfl rfl (LB_agg (hB.ext e3') (o := 0) rfl rfl (sameMessage_ok (m := p.msg) (q := q.msg) ((h0.trans e).trans e3') ⟨vm, rfl, a3⟩ ⟨um, rfl, d3⟩ fun w4 r e4 h4 => not_gd (fun t4 => ?_) (fun h => no _ (e3'.trans e4) (by rintro rfl; rw [h4.2 rfl] at h; cases h))))
  have e4' := e3'.trans e4
  refine LB_blk (hA.ext e4') rfl (LB_blk (hB.ext e4') rfl (sameBytes_ok ((h0.trans e).trans e4') a2 d2 fun w5 r e5 h5 => not_cond (fun h => no _ (e4'.trans e5) (by rintro rfl; rw [h5.2 rfl] at h; cases h)) (fun t5 => ?_)))
  have e5' := e4'.trans e5
  refine LB_blk (hA.ext e5') rfl (len_sl a4 (LB_blk (hB.ext e5') rfl (len_sl d4 (ne_gd (fun l1 => ?_) (fun h => no _ e5' (by rintro rfl; exact h rfl))))))
  refine LB_blk (hA.ext e5') rfl (len_sl a5 (LB_blk (hB.ext e5') rfl (len_sl d5 (ne_gd (fun l2 => ?_) (fun h => no _ e5' (by rintro rfl; exact h rfl))))))
  refine LB_blk (hA.ext e5') rfl (len_sl a6 (LB_blk (hB.ext e5') rfl (len_sl d6 (ne_cond (fun h => no _ e5' (by rintro rfl; exact h rfl)) (fun l3 => ?_)))))
  have t := (h0.trans e)
  refine same_tail e5' hA hB (a4.ext Kn.ask_keeps t) (a5.ext Kn.int_keeps t) (a6.ext Kn.str_keeps t) (d4.ext Kn.ask_keeps t) (d5.ext Kn.int_keeps t) (d6.ext Kn.str_keeps t) (by omega) (by omega) (by omega) fun w6 r e6 h6 => ?_
  refine hk _ _ (e.trans (e5'.trans e6)) (h6.trans ⟨fun ⟨g1, g2, g3⟩ => ?_, fun h => by rw [h]; exact ⟨rfl, rfl, rfl⟩⟩)
  replace h3 := h3.1 t3
  replace h4 := h4.1 t4
  replace h5 := h5.1 t5
  cases p; cases q; simp_all
end Go.Proofs.YtdgffjkcpbolmaaGreatDoor.X
