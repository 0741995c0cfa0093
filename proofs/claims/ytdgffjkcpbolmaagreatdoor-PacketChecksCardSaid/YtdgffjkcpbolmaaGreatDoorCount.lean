/-
  The count of parts: its calls change its own block alone, and what it holds stays a number. No condition.
-/
import Derived.Test.YtdgffjkcpbolmaaGreatDoorGCnt
import Derived.Test.YtdgffjkcpbolmaaGreatDoorFxApi
import Derived.Test.YtdgffjkcpbolmaaGreatDoorFxTab
namespace Go.Proofs.YtdgffjkcpbolmaaGreatDoor.X
open Go Go.RowKit Go.Proofs.YtdgffjkcpbolmaaGreatDoor.Fx
set_option maxRecDepth 100000

/-- The count: what is left, and how much was told of at least, while any is left. -/
def Cnt (w : World) (c : Nat) (T : Nat) : Prop := ∃ n : Int, Blk w c [.int .i64 n] 91 ∧ -9223372036854775808 ≤ n ∧ n ≤ 300000 ∧ (0 ≤ n → n + T ≤ 300000)
theorem Cnt.chg {w w' : World} {c T : Nat} {M : Nat → Prop} (h : Cnt w c T) (hc : Chg M w w') (hm : ¬ M c) : Cnt w' c T := let ⟨n, h, r⟩ := h; ⟨n, h.chg hc hm, r⟩
theorem Cnt.ext {w w' : World} {c T : Nat} (h : Cnt w c T) (hc : Ext w w') : Cnt w' c T := let ⟨n, h, r⟩ := h; ⟨n, h.ext hc, r⟩
abbrev ptr (c : Nat) : Value := .pointer (some ⟨c, 0, none⟩)

/-- The count c was made behind the world w0, of which nothing has turned. -/
structure CntS (w0 w : World) (c : Nat) (T : Nat) : Prop where
  ext : Ext w0 w
  new : w0.heap.size ≤ c
  cnt : Cnt w c T
theorem CntS.lt {w0 w : World} {c T : Nat} (h : CntS w0 w c T) : c < w.heap.size := let ⟨_, h, _⟩ := h.cnt; h.lt
theorem CntS.more {w0 w w' : World} {c T : Nat} (h : CntS w0 w c T) (e : Ext w w') : CntS w0 w' c T := ⟨h.ext.trans e, h.new, h.cnt.ext e⟩
theorem CntS.of {w0 w w' : World} {c T T' : Nat} (h : CntS w0 w c T) (e : Chg (· = c) w w') (hc : Cnt w' c T') : CntS w0 w' c T' := ⟨h.ext.chg_new e (fun i hi => by have := h.new; omega), h.new, hc⟩
theorem CntS.cast {w0 w : World} {c T T' : Nat} (h : CntS w0 w c T) (e : T = T') : CntS w0 w c T' := e ▸ h

theorem ok_ok {w0 w : World} {c T : Nat} {k : Value → World → Prop} (h : CntS w0 w c T) (hk : ∀ b, (b = false → ∀ T', CntS w0 w c T') → (b = true → T ≤ 300000) → k (.bool b) w) : CallF P 18 #[ptr c] w k := by
  obtain ⟨n, hc, h1, h2, h3⟩ := h.cnt
  refine c18 _ _ _ ?_
  refine LF_blk hc (o := 0) rfl ?_
  simp only [go_sem]
  refine hk _ (fun hb T' => ⟨h.ext, h.new, n, hc, h1, h2, fun h0 => ?_⟩) (fun hb => ?_)
  · simp only [decide_eq_false_iff_not] at hb; omega
  · simp only [decide_eq_true_eq] at hb; have := h3 hb; omega

theorem add_ok {w0 w : World} {c m T : Nat} {k : Value → World → Prop} (h : CntS w0 w c T) (hm : m ≤ 9223372036854775807) (hk : ∀ w' b, CntS w0 w' c (T + m) → Chg (· = c) w w' → k (.bool b) w') : CallF P 141 #[ptr c, .int .i64 m] w k := by
  obtain ⟨n, hc, g1, g2, g3⟩ := h.cnt
  refine c141 _ _ _ _ ?_
  have fin : ∀ (n : Int) w', Blk w' c [.int .i64 n] 91 → -9223372036854775808 ≤ n → n ≤ 300000 → (0 ≤ n → n + (T + m : Nat) ≤ 300000) → Chg (· = c) w w' → S141_1 (ptr c) w' k := fun n w' hb q1 q2 q3 hc => by
    refine LF_blk hb (o := 0) rfl ?_
    simp only [go_sem]
    exact hk _ _ (h.of hc ⟨_, hb, q1, q2, q3⟩) hc
  unfold S141_0 B141_0
  refine LF_blk hc (o := 0) rfl ?_
  simp only [go_sem]
  refine condW_b (fun hb => ?_) (fun hb => fin _ _ hc g1 g2 (fun h0 => ?_) (Chg.refl _ _))
  · simp only [decide_eq_true_eq] at hb
    refine LF_blk hc (o := 0) rfl ?_
    simp only [go_sem]
    rw [wrap_id (by omega) (by omega)]
    have := g3 hb
    refine SF_blk hc (o := 0) rfl rfl fun w' h' hc _ => ?_
    exact fin _ _ h' (by omega) (by omega) (fun _ => by omega) hc
  · simp only [decide_eq_false_iff_not] at hb
    omega

theorem text_ok {w0 w : World} {c T : Nat} {s : ByteArray} {k : Value → World → Prop} (h : CntS w0 w c T) (hs : s.size ≤ 9223372036854775807) (hk : ∀ w', CntS w0 w' c (T + (1 + s.size)) → Chg (· = c) w w' → k (.tuple #[]) w') : CallF P 137 #[ptr c, .string s] w k := by
  refine c137 _ _ _ _ ?_
  refine add_ok (m := 1) h (by omega) fun w1 _ h1 c1 => ?_
  refine lens_ok ?_
  refine add_ok h1 hs fun w2 _ h2 c2 => ?_
  exact hk _ (h2.cast (by omega)) (c1.trans c2)

theorem bytes_ok {w0 w : World} {c T : Nat} {v : Value} {xs : List UInt8} {k : Value → World → Prop} (h : CntS w0 w c T) (hv : Sl Kn.byte w0 v xs) (hk : ∀ w', CntS w0 w' c (T + (1 + xs.length)) → Chg (· = c) w w' → k (.tuple #[]) w') : CallF P 138 #[ptr c, v] w k := by
  obtain ⟨a, cap, rfl, hl, _⟩ := hv
  refine c138 _ _ _ _ ?_
  refine add_ok (m := 1) h (by omega) fun w1 _ h1 c1 => ?_
  refine len_ok ?_
  refine add_ok h1 (by omega) fun w2 _ h2 c2 => ?_
  exact hk _ (h2.cast (by omega)) (c1.trans c2)

theorem message_ok {w0 w : World} {c T : Nat} {m : Msg} {cs : List Value} {k : Value → World → Prop} (h : CntS w0 w c T) (hm : Kn.msg.rep w0 m cs) (hs : m.topic.size ≤ 9223372036854775807) (hk : ∀ w', CntS w0 w' c (T + m.parts) → Chg (· = c) w w' → k (.tuple #[]) w') :
    CallF P 139 #[ptr c, .agg cs.toArray] w k := by
  obtain ⟨vp, rfl, hp⟩ := hm
  have hcl := h.lt
  refine c139 _ _ _ _ ?_
  refine box_ok fun w1 b e1 hb1 hB1 _ => ?_
  refine LB_blk hB1 (o := 0) rfl ?_
  refine text_ok (h.more e1) hs fun w2 h2 c2 => ?_
  refine LB_blk (hB1.chg c2 (by omega)) (o := 0) rfl ?_
  refine bytes_ok h2 hp fun w3 h3 c3 => ?_
  exact hk _ (h3.cast (by unfold Msg.parts; omega)) ((e1.chg_r c2).trans c3)


theorem asks_ok {w0 w : World} {c T : Nat} {v : Value} {xs : List (ByteArray × Int)} {k : Value → World → Prop} (h : CntS w0 w c T) (hv : Sl Kn.ask w0 v xs) (hs : ∀ x ∈ xs, x.1.size ≤ 9223372036854775807) (hk : ∀ w', CntS w0 w' c (T + asksParts xs) → Chg (· = c) w w' → k (.tuple #[]) w') :
    CallF P 140 #[ptr c, v] w k := by
  refine c140 _ _ _ _ ?_
  unfold S140_0 B140_0 S140_1
  have hl := hv.le
  refine LoopP.of (fun s w' => ∃ i : Nat, i ≤ xs.length ∧ s = (ptr c, v, .int .i64 i) ∧ CntS w0 w' c (T + asksParts (xs.take i)) ∧ Chg (· = c) w w') (fun s _ => xs.length - ctr s.2.2) ⟨0, by omega, rfl, h.cast (by simp [asksParts]), Chg.refl _ _⟩ ?_
  rintro _ w1 ⟨i, hi, rfl, h1, c1⟩
  unfold S140_2
  refine len_sl hv ?_
  simp only [go_sem]
  refine gd_dec (fun hlt => ?_) (fun hge => hk _ (h1.cast (by rw [List.take_of_length_le (by omega)])) c1)
  refine ok_ok h1 fun b hb _ => condW_b (fun _ => ?_) (fun hf => hk _ (hb hf _) c1)
  obtain ⟨x, hx⟩ := lt_some hlt
  refine idx_sl hv rfl h1.ext hx fun b o cs hr hc => ?_
  obtain rfl : cs = [.string x.1, .int .i64 x.2] := hr
  refine LB_cells hc h1.ext rfl ?_
  refine text_ok h1 (hs x (List.mem_of_getElem? hx)) fun w2 h2 c2 => ?_
  try simp only [go_sem]
  rw [wrap_id (by omega) (by omega)]
  exact ⟨⟨i + 1, by omega, rfl, h2.cast (by simp only [asksParts]; rw [List.take_add_one, hx]; simp; omega), c1.trans c2⟩, by simp [ctr]; omega⟩

theorem texts_ok {w0 w : World} {c T : Nat} {v : Value} {xs : List ByteArray} {k : Value → World → Prop} (h : CntS w0 w c T) (hv : Sl Kn.str w0 v xs) (hs : ∀ x ∈ xs, x.size ≤ 9223372036854775807) (hk : ∀ w', CntS w0 w' c (T + textsParts xs) → Chg (· = c) w w' → k (.tuple #[]) w') :
    CallF P 142 #[ptr c, v] w k := by
  refine c142 _ _ _ _ ?_
  unfold S142_0 B142_0 S142_1
  have hl := hv.le
  refine LoopP.of (fun s w' => ∃ i : Nat, i ≤ xs.length ∧ s = (ptr c, v, .int .i64 i) ∧ CntS w0 w' c (T + textsParts (xs.take i)) ∧ Chg (· = c) w w') (fun s _ => xs.length - ctr s.2.2) ⟨0, by omega, rfl, h.cast (by simp [textsParts]), Chg.refl _ _⟩ ?_
  rintro _ w1 ⟨i, hi, rfl, h1, c1⟩
  unfold S142_2
  refine len_sl hv ?_
  simp only [go_sem]
  refine gd_dec (fun hlt => ?_) (fun hge => hk _ (h1.cast (by rw [List.take_of_length_le (by omega)])) c1)
  refine ok_ok h1 fun b hb _ => condW_b (fun _ => ?_) (fun hf => hk _ (hb hf _) c1)
  obtain ⟨x, hx⟩ := lt_some hlt
  refine LI_sl hv rfl h1.ext hx (fun _ h => h) ?_
  refine text_ok h1 (hs x (List.mem_of_getElem? hx)) fun w2 h2 c2 => ?_
  try simp only [go_sem]
  rw [wrap_id (by omega) (by omega)]
  exact ⟨⟨i + 1, by omega, rfl, h2.cast (by simp only [textsParts]; rw [List.take_add_one, hx]; simp; omega), c1.trans c2⟩, by simp [ctr]; omega⟩

theorem packet_ok {w0 w : World} {c T : Nat} {p : Pk} {cs : List Value} {k : Value → World → Prop} (h : CntS w0 w c T) (hp : Kn.pk.rep w0 p cs) (hs : p.Fits 9223372036854775807) (hk : ∀ w', CntS w0 w' c (T + p.parts) → Chg (· = c) w w' → k (.tuple #[]) w') :
    CallF P 87 #[ptr c, .agg cs.toArray] w k := by
  obtain ⟨vw, vp, vm, va, vc, vf, rfl, hw, hp, hm, ha, hc, hf⟩ := hp
  have hcl := h.lt
  refine c87 _ _ _ _ ?_
  refine box_ok fun w1 b e1 hb1 hB _ => ?_
  replace h := h.more e1
  refine LB_blk hB (o := 0) rfl ?_
  refine text_ok h hs.client fun w2 h c2 => ?_
  replace hB := hB.chg c2 (by omega)
  refine LB_blk hB (o := 0) rfl ?_
  refine text_ok h hs.user fun w3 h c3 => ?_
  replace hB := hB.chg c3 (by omega)
  refine LB_blk hB (o := 0) rfl ?_
  refine bytes_ok h hp fun w4 h c4 => ?_
  replace hB := hB.chg c4 (by omega)
  refine LB_agg hB (o := 0) rfl rfl ?_
  refine message_ok (m := p.will) h ⟨vw, rfl, hw⟩ hs.will fun w5 h c5 => ?_
  replace hB := hB.chg c5 (by omega)
  refine LB_agg hB (o := 0) rfl rfl ?_
  refine message_ok (m := p.msg) h ⟨vm, rfl, hm⟩ hs.msg fun w6 h c6 => ?_
  replace hB := hB.chg c6 (by omega)
  refine LB_blk hB (o := 0) rfl ?_
  refine asks_ok h ha hs.asks fun w7 h c7 => ?_
  replace hB := hB.chg c7 (by omega)
  refine LB_blk hB (o := 0) rfl ?_
  refine len_sl hc ?_
  refine add_ok h hc.le fun w8 _ h c8 => ?_
  replace hB := hB.chg c8 (by omega)
  refine LB_blk hB (o := 0) rfl ?_
  refine texts_ok h hf hs.filters fun w9 h c9 => ?_
  exact hk _ (h.cast (by unfold Pk.parts; omega)) (e1.chg_r (c2.trans (c3.trans (c4.trans (c5.trans (c6.trans (c7.trans (c8.trans c9))))))))

theorem packets_ok {w0 w : World} {c T : Nat} {v : Value} {xs : List Pk} {k : Value → World → Prop} (h : CntS w0 w c T) (hv : Sl Kn.pk w0 v xs) (hs : ∀ p ∈ xs, p.Fits 9223372036854775807) (hk : ∀ w', CntS w0 w' c (T + pksParts xs) → Chg (· = c) w w' → k (.tuple #[]) w') :
    CallF P 17 #[ptr c, v] w k := by
  refine c17 _ _ _ _ ?_
  unfold S17_0 B17_0 S17_1
  have hl := hv.le
  refine LoopP.of (fun s w' => ∃ i : Nat, i ≤ xs.length ∧ s = (ptr c, v, .int .i64 i) ∧ CntS w0 w' c (T + pksParts (xs.take i)) ∧ Chg (· = c) w w') (fun s _ => xs.length - ctr s.2.2) ⟨0, by omega, rfl, h.cast (by simp [pksParts]), Chg.refl _ _⟩ ?_
  rintro _ w1 ⟨i, hi, rfl, h1, c1⟩
  unfold S17_2
  refine len_sl hv ?_
  simp only [go_sem]
  refine gd_dec (fun hlt => ?_) (fun hge => hk _ (h1.cast (by rw [List.take_of_length_le (by omega)])) c1)
  refine ok_ok h1 fun b hb _ => condW_b (fun _ => ?_) (fun hf => hk _ (hb hf _) c1)
  obtain ⟨x, hx⟩ := lt_some hlt
  refine LI_slA hv rfl h1.ext hx fun cs hcs => ?_
  refine packet_ok h1 hcs (hs x (List.mem_of_getElem? hx)) fun w2 h2 c2 => ?_
  try simp only [go_sem]
  rw [wrap_id (by omega) (by omega)]
  exact ⟨⟨i + 1, by omega, rfl, h2.cast (by simp only [pksParts]; rw [List.take_add_one, hx]; simp; omega), c1.trans c2⟩, by simp [ctr]; omega⟩

theorem many_ok {w : World} {k : Value → World → Prop} (hk : ∀ w' c, CntS w w' c 0 → Ext w w' → k (ptr c) w') : CallF P 16 #[.int .i64 300000] w k := by
  refine c16 _ _ _ ?_
  unfold S16_0
  rw [XV_eq (show (Instr.build 91 #[(0, .int .i64 300000)]).run P w = .ok (.agg #[.int .i64 300000]) w by kernel_rfl)]
  refine box_ok fun w1 b e1 hb1 hB _ => ?_
  exact hk _ b ⟨e1, hb1, _, hB, by omega, by omega, by omega⟩ e1

/-- few tells true of packets of few parts alone. -/
theorem few_ok {w0 w : World} {v : Value} {xs : List Pk} {k : Value → World → Prop} (h0 : Ext w0 w) (hv : Sl Kn.pk w0 v xs) (hs : ∀ p ∈ xs, p.Fits 9223372036854775807) (hk : ∀ w' b, Ext w w' → (b = true → pksParts xs ≤ 300000) → k (.bool b) w') : CallF P 5 #[v] w k := by
  refine c5 _ _ _ ?_
  refine many_ok fun w1 c h1 e1 => ?_
  refine packets_ok h1 (hv.ext Kn.pk_keeps h0) hs fun w2 h2 c2 => ?_
  refine ok_ok h2 fun b _ hb => hk _ _ h2.ext fun h => by have := hb h; omega
end Go.Proofs.YtdgffjkcpbolmaaGreatDoor.X
