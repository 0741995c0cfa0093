/-
  The program's topics and filters: they compute what the reference computes. No condition.
-/
import Derived.Test.YtdgffjkcpbolmaaGreatDoorStr
namespace Go.Proofs.YtdgffjkcpbolmaaGreatDoor.X
open Go Go.RowKit Go.Proofs.YtdgffjkcpbolmaaGreatDoor.Fx
set_option maxRecDepth 100000
set_option linter.unusedVariables false
section
variable {w w0 : World} {k : Value → World → Prop} {s : ByteArray}
theorem size_zero : s = ⟨#[]⟩ ↔ s.size = 0 := by
  constructor
  · rintro rfl; rfl
  · intro h
    rw [ByteArray.ext_iff]
    exact Array.eq_empty_of_size_eq_zero h
def textE (s : ByteArray) : Int := if s.size = 0 then 50 else if okText s = false then 51 else 0
theorem tText_ok (h0 : Ext w0 w) (hk : ∀ w', Ext w0 w' → k (.int .i64 (textE s)) w') : CallF P 191 #[.string s] w k := by
  unfold textE at hk
  refine c191 _ _ _ ?_
  unfold S191_0
  refine eqs_cond (fun h => ?_) fun h => ?_
  · have := hk w h0; rw [if_pos (size_zero.1 h)] at this; exact this
  rw [if_neg (fun e => h (size_zero.2 e))] at hk
  refine wCheck_ok h0 fun w1 n e e1 he => ?_
  refine ext_ok rfl (ext_ok rfl (ne_cond (fun h1 => ?_) fun h1 => ?_))
  · have := hk w1 e1; rw [if_pos (by cases hq : okText s with | false => rfl | true => exact absurd (he.2 hq) h1)] at this; exact this
  · have := hk w1 e1; rw [if_neg (by rw [he.1 h1]; simp)] at this; exact this
theorem topic_ok (hs : s.size ≤ 9223372036854775807) (h0 : Ext w0 w) (hk : ∀ w', Ext w0 w' → k (.int .i64 (refTopic s)) w') : CallF P 122 #[.string s] w k := by
  refine c122 _ _ _ ?_
  unfold S122_0
  refine tText_ok h0 fun w1 e1 => ?_
  refine ne_cond (fun h => ?_) fun h => ?_
  · have : refTopic s = textE s := by
      unfold textE at h ⊢; unfold refTopic
      by_cases h1 : s.size = 0
      · rw [if_pos h1, if_pos h1]
      · rw [if_neg h1] at h ⊢; rw [if_neg h1]
        by_cases h2 : okText s = false
        · rw [if_pos h2, if_pos h2]
        · rw [if_neg h2] at h; exact absurd rfl h
    have hq := hk w1 e1; rw [this] at hq; exact hq
  · have : refTopic s = if hasSign s = true then 52 else 0 := by
      unfold textE at h; unfold refTopic
      by_cases h1 : s.size = 0
      · rw [if_pos h1] at h; cases h
      · rw [if_neg h1] at h; rw [if_neg h1]
        by_cases h2 : okText s = false
        · rw [if_pos h2] at h; cases h
        · rw [if_neg h2]
    rw [this] at hk
    refine containsAny_ok hs fun w2 e2 => condW_b (fun h2 => ?_) fun h2 => ?_
    · have hq := hk w2 (e1.trans e2); rw [if_pos h2] at hq; exact hq
    · have hq := hk w2 (e1.trans e2); rw [if_neg (by rw [h2]; simp)] at hq; exact hq
theorem levelsFrom_skip {f : Nat} : ∀ (n i : Nat), i + n ≤ s.size → (∀ m, i ≤ m → m < i + n → byteAt s m ≠ 47) → levelsFrom s f i = levelsFrom s f (i + n) := by
  intro n
  induction n with
  | zero => intro i _ _; rfl
  | succ n ih =>
    intro i hl h
    rw [levelsFrom_go (by omega) (h i (Nat.le_refl _) (by omega)), ih (i + 1) (by omega) (fun m h1 h2 => h m (by omega) (by omega)), show i + 1 + n = i + (n + 1) by omega]
theorem pLevels_ok (h0 : Ext w0 w) (hs : s.size ≤ 1000000) (hk : ∀ v w', Ext w0 w' → Sl Kn.str w' v (levels s) → (levels s).length ≤ 1000001 → k v w') : CallF P 206 #[.string s] w k := by
  refine c206 _ _ _ ?_
  unfold S206_0 B206_0
  refine range_ok fun w1 b e1 hb hit => ?_
  unfold S206_1
  have hpos : ∀ {w' : World} {j}, It w' b s j → w'.iterPos b = j := fun h => by unfold It at h; simp [World.iterPos, h]
  refine LoopP.of (fun t w' => ∃ (xs : List ByteArray) (v : Value) (f i : Nat), t = (.string s, v, .int .i64 f, .pointer (some ⟨b, 0, none⟩)) ∧ i ≤ s.size ∧ f ≤ i ∧ xs.length ≤ i ∧ xs ++ levelsFrom s f i = levels s ∧ Ext w0 w' ∧ It w' b s i ∧
    Own w' 9 1 v xs.length (xs.map .string) ∧ ∀ c, v.ownBlock = some c → w0.heap.size ≤ c ∧ c ≠ b) (fun _ w' => s.size - w'.iterPos b) ⟨[], _, 0, 0, rfl, Nat.zero_le _, Nat.le_refl _, Nat.le_refl _, rfl, h0.trans e1, hit, Own.nil _ _ _, fun c h => by cases h⟩ ?_
  rintro _ w' ⟨xs, v, f, i, rfl, hi, hf, hx, hl, he, hit, ho, hv⟩
  unfold S206_2
  have hb0 : w0.heap.size ≤ b := Nat.le_trans h0.size hb
  refine next_ok hit (fun hlt w2 hit2 c2 => ?_) fun hge => ?_
  · have he2 : Ext w0 w2 := he.chg_new c2 fun j hj => by omega
    have ho2 := ho.chg c2 fun c hc e => (hv c hc).2 e
    refine ext_ok rfl (condW_t (ext_ok rfl (ext_ok rfl ?_)))
    have hd := decode_cases hlt
    refine eq_cond (fun h1 => ?_) fun h1 => ?_
    · obtain ⟨d1, d2, d3⟩ : byteAt s i < 128 ∧ (Utf8.decode s i).1 = byteAt s i ∧ (Utf8.decode s i).2 = 1 := by
        rcases hd with hd | ⟨d1, d2, _⟩
        · exact hd
        · omega
      rw [d3] at hit2
      refine slice_str hf (by omega) ?_
      refine appendS_ok (by omega) ho2 fun v' w3 ho' hc' hs' => ?_
      refine add1_ok (by omega) ?_
      have hit3 : It w3 b s (i + 1) := by
        have := hc'.blk hit2 (fun e => (hv b e).2 rfl)
        exact this
      refine ⟨⟨xs ++ [s.extract f i], v', i + 1, i + 1, rfl, by omega, Nat.le_refl _, by simp; omega, ?_, he2.chg_new hc' fun c hc => (hv c hc).1, hit3, ho', fun c h => ?_⟩, ?_⟩
      · rw [← hl, levelsFrom_slash hlt (by omega)]; simp
      · rcases hs' with e | ⟨g, hg, hge⟩
        · exact hv c (by rw [← e]; exact h)
        · rw [hg] at h; obtain rfl := Option.some.inj h
          have := blk_lt hit2
          have := he2.size
          exact ⟨by omega, by omega⟩
      · rw [hpos hit3, hpos hit]; omega
    · have hw : 1 ≤ (Utf8.decode s i).2 ∧ i + (Utf8.decode s i).2 ≤ s.size ∧ ∀ m, i ≤ m → m < i + (Utf8.decode s i).2 → byteAt s m ≠ 47 := by
        rcases hd with ⟨d1, d2, d3⟩ | ⟨d1, d2, d3, d4, d5⟩
        · refine ⟨by omega, by omega, fun m h2 h3 => ?_⟩
          obtain rfl : m = i := by omega
          omega
        · exact ⟨d3, d4, fun m h2 h3 => by have := d5 m h2 h3; omega⟩
      refine ⟨⟨xs, v, f, _, rfl, hw.2.1, by omega, by omega, ?_, he2, hit2, ho2, hv⟩, ?_⟩
      · rw [← hl, levelsFrom_skip _ _ hw.2.1 hw.2.2]
      · rw [hpos hit2, hpos hit]; omega
  · refine ext_ok rfl (condW_f ?_)
    refine slice_str_from (by omega) ?_
    refine appendS_ok (by omega) ho fun v' w2 ho' hc' hs' => ?_
    have hl' : xs ++ [s.extract f s.size] = levels s := by rw [← hl, levelsFrom_end (by omega)]
    have hlen : (levels s).length ≤ 1000001 := by rw [← hl']; simp; omega
    rw [hl'] at ho'
    exact hk v' w2 (he.chg_new hc' fun c hc => (hv c hc).1) (Own_sl (by omega) ho') hlen
theorem ne_gdT {T : TypeId} {c : Bool} {K : IntKind} {a b : Int} {A B : World → Prop} (h1 : a ≠ b → A w) (h2 : a = b → B w) : XV P (binS .neq T c (.int K a) (.int K b)) w fun v w => gd v true (A w) (B w) := by
  rw [x_neq]; exact gd_b (fun h => h1 (by simpa using h)) (fun h => h2 (by simpa using h))
theorem one_byte {l : ByteArray} (h1 : l.size = 1) : l = ⟨#[35]⟩ ↔ byteAt l 0 = 35 := by
  constructor
  · rintro rfl; decide
  · intro h
    rw [byteAt_eq (by omega)] at h
    rw [ByteArray.ext_iff]
    refine Array.ext (by show l.size = 1; exact h1) fun j hj1 hj2 => ?_
    have : j = 0 := by have : l.data.size = l.size := rfl; omega
    subst this
    have : (l.data[0]).toNat = 35 := h
    exact UInt8.toNat_inj.1 this
theorem sharp_sign {l : ByteArray} (h : l = ⟨#[35]⟩) : hasSign l = true := by subst h; decide
theorem filter_ok (h0 : Ext w0 w) (hk : ∀ w', Ext w0 w' → k (.int .i64 (refFilter s)) w') : CallF P 194 #[.string s] w k := by
  refine c194 _ _ _ ?_
  unfold S194_0 B194_0
  refine tText_ok h0 fun w1 e1 => ?_
  refine ne_cond (fun h => ?_) fun h => ?_
  · have : refFilter s = textE s := by
      unfold textE at h ⊢; unfold refFilter
      by_cases h1 : s.size = 0
      · rw [if_pos h1, if_pos h1]
      · rw [if_neg h1] at h ⊢; rw [if_neg h1]
        by_cases h2 : okText s = false
        · rw [if_pos h2, if_pos h2]
        · rw [if_neg h2] at h; exact absurd rfl h
    have hq := hk w1 e1; rw [this] at hq; exact hq
  obtain ⟨hz, hok⟩ : s.size ≠ 0 ∧ okText s = true := by
    unfold textE at h
    by_cases h1 : s.size = 0
    · rw [if_pos h1] at h; cases h
    · rw [if_neg h1] at h
      by_cases h2 : okText s = false
      · rw [if_pos h2] at h; cases h
      · exact ⟨h1, by simpa using h2⟩
  unfold refFilter at hk
  rw [if_neg hz, if_neg (by rw [hok]; simp)] at hk
  have hsz := okText_size hok
  refine pLevels_ok e1 (by omega) fun v w2 e2 hv hlen => ?_
  refine len_sl (e := 9) hv ?_
  unfold S194_1
  refine LoopP.of (fun t w' => ∃ i : Nat, t = (v, v, .int .i64 (levels s).length, .int .i64 i) ∧ i ≤ (levels s).length ∧ Ext w2 w' ∧ ∀ j l, j < i → (levels s)[j]? = some l → badLevel (levels s).length j l = false) (fun t _ => (levels s).length - ctr t.2.2.2) ⟨0, rfl, Nat.zero_le _, Ext.refl _, fun j l h => by omega⟩ ?_
  rintro _ w3 ⟨i, rfl, hi, e3, hm⟩
  unfold S194_2 B194_2
  refine lt_cond (fun hlt => ?_) fun hge => ?_
  · have hlt : i < (levels s).length := by omega
    obtain ⟨l, hx⟩ : ∃ l, (levels s)[i]? = some l := ⟨_, List.getElem?_eq_getElem hlt⟩
    have hls := levels_size (List.mem_of_getElem? hx)
    have yes : ∀ w', Ext w2 w' → badLevel (levels s).length i l = true → k (.int .i64 52) w' := fun w' e h => by have := hk w' (e2.trans e); rw [if_pos (badLevels_true hx h)] at this; exact this
    have next : badLevel (levels s).length i l = false → ∀ j l', j < i + 1 → (levels s)[j]? = some l' → badLevel (levels s).length j l' = false := fun h j l' hj hl' => by
      by_cases hji : j = i
      · subst hji; rw [hx] at hl'; obtain rfl := Option.some.inj hl'; exact h
      · exact hm j l' (by omega) hl'
    refine LI_sl hv rfl e3 hx (fun _ h => h) ?_
    refine range_ok fun w4 b e4 hb hit => ?_
    unfold S194_3
    have hpos : ∀ {w' : World} {j}, It w' b l j → w'.iterPos b = j := fun h => by unfold It at h; simp [World.iterPos, h]
    refine LoopP.of (fun t w' => ∃ q : Nat, t = (v, .int .i64 i, .string l, v, .int .i64 (levels s).length, .int .i64 i, .pointer (some ⟨b, 0, none⟩)) ∧ Ext w2 w' ∧ It w' b l q ∧ ∀ m, m < q → isSign (byteAt l m) = false) (fun _ w' => l.size - w'.iterPos b) ⟨0, rfl, e3.trans e4, hit, fun m h => by omega⟩ ?_
    rintro _ w5 ⟨q, rfl, e5, hit5, hq⟩
    unfold S194_4 B194_4
    have hb2 : w2.heap.size ≤ b := Nat.le_trans e3.size hb
    refine next_ok hit5 (fun hlt5 w6 hit6 c6 => ?_) fun hge5 => ?_
    · have e6 : Ext w2 w6 := e5.chg_new c6 fun j hj => by omega
      refine ext_ok rfl (condW_t (ext_ok rfl ?_))
      have hd := decode_cases hlt5
      generalize hcc : (Utf8.decode l q).1 = c at hd
      have found : ∀ K1 K2, (c = 43 ∨ c = 35) → (badLevel (levels s).length i l = false → K1 v v (.int .i64 (levels s).length) (.int .i64 ((i + 1 : Nat) : Int)) w6) →
          S194_5 v (.int .i64 i) (.string l) (.int .i32 (c : Int)) v (.int .i64 (levels s).length) (.int .i64 i) w6 K1 K2 k := fun K1 K2 hc hK => by
        obtain ⟨d1, d2⟩ : byteAt l q < 128 ∧ c = byteAt l q := by
          rcases hd with hd | ⟨d1, d2, _⟩
          · exact ⟨hd.1, hd.2.1⟩
          · omega
        have hsg : isSign (byteAt l q) = true := by unfold isSign; simp; omega
        have hhs := hasSign_true hlt5 hsg
        unfold S194_5
        refine lens_ok (gtr_gdF (fun h1 => ?_) fun h1 => yes w6 e6 ?_)
        · have h1 : l.size = 1 := by omega
          have hq0 : q = 0 := by omega
          subst hq0
          refine eq_gd (fun h2 => ?_) fun h2 => ?_
          · have hl35 : l = ⟨#[35]⟩ := (one_byte h1).2 (by omega)
            refine len_sl (e := 9) hv ?_
            rw [x_sub, wrap_id (by omega) (by omega)]
            refine lt_cond (fun h3 => yes w6 e6 ?_) fun h3 => add1_ok (by omega) (hK ?_)
            · unfold badLevel; simp [hl35]; omega
            · unfold badLevel; simp [h1]; omega
          · have hl35 : l ≠ ⟨#[35]⟩ := fun e => by have := (one_byte h1).1 e; omega
            refine add1_ok (by omega) (hK ?_)
            unfold badLevel; simp [h1, hl35]
        · unfold badLevel; simp [hhs]; omega
      have w1 : 1 ≤ (Utf8.decode l q).2 := by rcases hd with ⟨_, _, d3⟩ | ⟨_, _, d3, _⟩ <;> omega
      refine ne_gdT (fun h1 => ne_cond (fun h2 => ?_) fun h2 => found _ _ (by omega) fun hb => ⟨⟨i + 1, rfl, by omega, e6, next hb⟩, by simp only [ctr]; omega⟩) fun h1 => found _ _ (by omega) fun hb => ⟨⟨i + 1, rfl, by omega, e6, next hb⟩, by simp only [ctr]; omega⟩
      refine ⟨⟨_, rfl, e6, hit6, fun m h => ?_⟩, by rw [hpos hit6, hpos hit5]; omega⟩
      by_cases hmq : m < q
      · exact hq m hmq
      · rcases hd with ⟨d1, d2, d3⟩ | ⟨d1, d2, d3, d4, d5⟩
        · obtain rfl : m = q := by omega
          unfold isSign; simp; omega
        · exact isSign_high (d5 m (by omega) h)
    · refine ext_ok rfl (condW_f ?_)
      refine add1_ok (by omega) ⟨⟨i + 1, rfl, by omega, e5, next ?_⟩, by simp only [ctr]; omega⟩
      have hns := hasSign_of hq hge5
      have hne : l ≠ ⟨#[35]⟩ := fun e => by rw [sharp_sign e] at hns; cases hns
      unfold badLevel; simp [hns, hne]
  · have := hk w3 (e2.trans e3)
    rw [if_neg (by rw [badLevels_false fun j l hl => hm j l (by have := (List.getElem?_eq_some_iff.1 hl).1; omega) hl]; simp)] at this
    exact this
end
end Go.Proofs.YtdgffjkcpbolmaaGreatDoor.X
