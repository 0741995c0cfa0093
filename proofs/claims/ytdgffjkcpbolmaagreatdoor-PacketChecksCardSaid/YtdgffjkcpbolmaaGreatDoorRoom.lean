/-
  The room: what it lays down, and that its marks stay. No condition.
-/
import Derived.Test.YtdgffjkcpbolmaaGreatDoorGRoomLay
import Derived.Test.YtdgffjkcpbolmaaGreatDoorFxApi
import Derived.Test.YtdgffjkcpbolmaaGreatDoorFxOwn
import Derived.Test.YtdgffjkcpbolmaaGreatDoorFxTab
namespace Go.Proofs.YtdgffjkcpbolmaaGreatDoor.X
open Go Go.RowKit Go.Proofs.YtdgffjkcpbolmaaGreatDoor.Fx
set_option maxRecDepth 100000
set_option linter.unusedVariables false

/-! ### marks -/
def lotv (i : Nat) : Int := if i % 2 = 0 then -7701 else -7702
def wordv (i : Nat) : ByteArray := if i % 2 = 0 then ⟨#[60, 111, 110, 101, 62]⟩ else ⟨#[60, 116, 119, 111, 62]⟩
theorem lot_ok {w : World} {i : Nat} {k : Value → World → Prop} (hi : i < 9000000000000000000) (hk : k (.int .i64 (lotv i)) w) : CallF P 117 #[.int .i64 i] w k := by
  refine c117 _ _ _ ?_
  unfold S117_0
  rw [x_rem (by omega)]
  have : ((i : Int).tmod 2) = (i % 2 : Nat) := by rw [Int.tmod_eq_emod_of_nonneg (by omega)]; omega
  rw [this]
  refine eq_cond (fun h => ?_) (fun h => ?_)
  · have : lotv i = -7701 := by unfold lotv; rw [if_pos (by omega)]
    rw [this] at hk; exact hk
  · have : lotv i = -7702 := by unfold lotv; rw [if_neg (by omega)]
    rw [this] at hk; exact hk
theorem word_ok {w : World} {i : Nat} {k : Value → World → Prop} (hi : i < 9000000000000000000) (hk : k (.string (wordv i)) w) : CallF P 118 #[.int .i64 i] w k := by
  refine c118 _ _ _ ?_
  unfold S118_0
  rw [x_rem (by omega)]
  have : ((i : Int).tmod 2) = (i % 2 : Nat) := by rw [Int.tmod_eq_emod_of_nonneg (by omega)]; omega
  rw [this]
  refine eq_cond (fun h => ?_) (fun h => ?_)
  · have : wordv i = ⟨#[60, 111, 110, 101, 62]⟩ := by unfold wordv; rw [if_pos (by omega)]
    rw [this] at hk; exact hk
  · have : wordv i = ⟨#[60, 116, 119, 111, 62]⟩ := by unfold wordv; rw [if_neg (by omega)]
    rw [this] at hk; exact hk

/-! ### the room's own rows -/
/-- A kind of list: its slice type, its elements' type, how many cells, and the cells of a mark. -/
structure RK where
  S : Nat
  E : Nat
  sz : Nat
  mark : Nat → List Value
def rows (r : Nat) (cs : List Value) (b : Nat) : Prop := b = r ∨ ∃ (i : Nat) (v : Value), cs[i]? = some v ∧ v.ownBlock = some b
/-- A list that was lent: its marks stand. -/
def FullOK (w : World) (K : RK) (full : Value) (n : Nat) : Prop :=
  ∃ b N cap, full = .slice (some ⟨b, 0, none⟩) N cap ∧ n ≤ N ∧ N ≤ 140737488355328 ∧ b < w.heap.size ∧ ∀ i, n ≤ i → i < N → ∀ j u, (K.mark (i - n))[j]? = some u → w.cell? ⟨b, i * K.sz + j, none⟩ = some u
theorem FullOK.chg {w w' : World} {K : RK} {full : Value} {n : Nat} {M : Nat → Prop} (h : FullOK w K full n) (hc : Chg M w w') (hm : ∀ b, full.ownBlock = some b → ¬ M b) : FullOK w' K full n := by
  obtain ⟨b, N, cap, rfl, h1, h2, h3, h4⟩ := h
  exact ⟨b, N, cap, rfl, h1, h2, Nat.lt_of_lt_of_le h3 hc.size, fun i a c j u hu => hc.cell (h4 i a c j u hu) (hm b rfl)⟩
/-- One kind's two rows: the lists, and how much of each is no room. -/
def KInv (w : World) (K : RK) (r : Nat) (cs : List Value) (F : Nat → Prop) (L : Nat) (v a : Value) : Prop :=
  ∃ (fulls : List Value) (ns : List Nat), Own w K.S 1 v fulls.length fulls ∧ Own w 3 1 a ns.length (ns.map fun n : Nat => .int .i64 n) ∧ fulls.length = ns.length ∧ fulls.length ≤ L ∧
    ∀ (i : Nat) (full : Value) (n : Nat), fulls[i]? = some full → ns[i]? = some n → FullOK w K full n ∧ ∀ b, full.ownBlock = some b → ¬ rows r cs b ∧ F b
def kinds : List RK := [⟨22, 5, 1, fun i => [.int .u8 (IntKind.u8.wrap (lotv i))]⟩, ⟨26, 3, 1, fun i => [.int .i64 (lotv i)]⟩, ⟨27, 9, 1, fun i => [.string (wordv i)]⟩, ⟨25, 73, 2, fun i => [.string (wordv i), .int .i64 0]⟩]
structure RoomInv (w : World) (r : Nat) (cs : List Value) (F : Nat → Prop) (L : Nat) : Prop where
  deps : ∀ b, rows r cs b → F b
  below : ∀ b, F b → b < w.heap.size
  blk : Blk w r cs 51
  kind : ∀ (j : Nat) (K : RK), kinds[j]? = some K → ∃ v a, cs[2 * j]? = some v ∧ cs[2 * j + 1]? = some a ∧ KInv w K r cs F L v a
  none : ∀ (i : Nat) (v : Value), 8 ≤ i → i < 34 → cs[i]? = some v → v = .slice none 0 0
  len : cs.length = 34
  apart : ∀ (i : Nat) (v : Value) (b : Nat), cs[i]? = some v → v.ownBlock = some b → b ≠ r ∧ b < w.heap.size
  apart2 : ∀ (i j : Nat) (v u : Value) (b : Nat), i ≠ j → cs[i]? = some v → cs[j]? = some u → v.ownBlock = some b → u.ownBlock ≠ some b
theorem RoomInv.rows_lt {w : World} {r : Nat} {cs : List Value} {F : Nat → Prop} {L : Nat} (h : RoomInv w r cs F L) {b : Nat} (hb : rows r cs b) : b < w.heap.size := by
  rcases hb with rfl | ⟨i, v, hi, hv⟩
  · exact h.blk.lt
  · exact (h.apart i v b hi hv).2
theorem RoomInv.chg {w w' : World} {r : Nat} {cs : List Value} {F M : Nat → Prop} {L : Nat} (h : RoomInv w r cs F L) (e : Chg M w w') (hM : ∀ b, F b → ¬ M b) : RoomInv w' r cs F L where
  deps := h.deps
  below b hb := Nat.lt_of_lt_of_le (h.below b hb) e.size
  blk := h.blk.chg e (hM _ (h.deps _ (.inl rfl)))
  kind j K hK := by
    obtain ⟨v, a, hv, ha, fulls, ns, h1, h2, h3, h4, h5⟩ := h.kind j K hK
    exact ⟨v, a, hv, ha, fulls, ns, h1.chg e fun b hb => hM _ (h.deps _ (.inr ⟨_, _, hv, hb⟩)), h2.chg e fun b hb => hM _ (h.deps _ (.inr ⟨_, _, ha, hb⟩)), h3, h4,
      fun i full n hi hn => ⟨(h5 i full n hi hn).1.chg e fun b hb => hM _ ((h5 i full n hi hn).2 b hb).2, (h5 i full n hi hn).2⟩⟩
  none := h.none
  len := h.len
  apart i v b hi hb := ⟨(h.apart i v b hi hb).1, Nat.lt_of_lt_of_le (h.apart i v b hi hb).2 e.size⟩
  apart2 := h.apart2
theorem RoomInv.ext {w w' : World} {r : Nat} {cs : List Value} {F : Nat → Prop} {L : Nat} (h : RoomInv w r cs F L) (e : Ext w w') : RoomInv w' r cs F L := h.chg (e.chg fun _ => False) fun _ _ => id

/-- One list more of kind j, and its number: the invariant anew. -/
theorem RoomInv.more {w w' : World} {r : Nat} {cs : List Value} {F : Nat → Prop} {L j : Nat} {K : RK} {v a v' a' full : Value} {m : Nat} {fulls : List Value} {ns : List Nat} (h : RoomInv w r cs F L) (hK : kinds[j]? = some K)
    (hv : cs[2 * j]? = some v) (ha : cs[2 * j + 1]? = some a) (o1 : Own w K.S 1 v fulls.length fulls) (o2 : Own w 3 1 a ns.length (ns.map fun n : Nat => .int .i64 n)) (hl : fulls.length = ns.length) (hL : fulls.length ≤ L)
    (hf : ∀ (i : Nat) (full : Value) (n : Nat), fulls[i]? = some full → ns[i]? = some n → FullOK w K full n ∧ ∀ b, full.ownBlock = some b → ¬ rows r cs b ∧ F b)
    (hb : Blk w' r ((cs.set (2 * j) v').set (2 * j + 1) a') 51) (o1' : Own w' K.S 1 v' (fulls.length + 1) (fulls ++ [full])) (o2' : Own w' 3 1 a' (ns.length + 1) ((ns ++ [m]).map fun n : Nat => .int .i64 n))
    (hc : Chg (fun b => b = r ∨ v.ownBlock = some b ∨ a.ownBlock = some b) w w') (s1 : SameOrNew w v v') (s2 : SameOrNew w a a') (s3 : ∀ b, v'.ownBlock = some b → a'.ownBlock ≠ some b)
    (hF : FullOK w' K full m) (hFn : ∀ b, full.ownBlock = some b → b < w.heap.size ∧ ¬ rows r cs b) : RoomInv w' r ((cs.set (2 * j) v').set (2 * j + 1) a') (fun b => F b ∨ full.ownBlock = some b ∨ (w.heap.size ≤ b ∧ b < w'.heap.size)) (L + 1) := by
  have hlen := h.len
  have hj1 : 2 * j < cs.length := (List.getElem?_eq_some_iff.1 hv).1
  have hj2 : 2 * j + 1 < cs.length := (List.getElem?_eq_some_iff.1 ha).1
  have g1 : ((cs.set (2 * j) v').set (2 * j + 1) a')[2 * j]? = some v' := by rw [List.getElem?_set_ne (by omega), List.getElem?_set_self hj1]
  have g2 : ((cs.set (2 * j) v').set (2 * j + 1) a')[2 * j + 1]? = some a' := by rw [List.getElem?_set_self (by simpa using hj2)]
  have g3 : ∀ i, i ≠ 2 * j → i ≠ 2 * j + 1 → ((cs.set (2 * j) v').set (2 * j + 1) a')[i]? = cs[i]? := fun i h1 h2 => by rw [List.getElem?_set_ne (by omega), List.getElem?_set_ne (by omega)]
  -- a block of the new rows is one of the old rows, or new
  have hrows : ∀ b, rows r ((cs.set (2 * j) v').set (2 * j + 1) a') b → rows r cs b ∨ w.heap.size ≤ b := by
    rintro b (rfl | ⟨i, u, hi, hu⟩)
    · exact .inl (.inl rfl)
    · by_cases h1 : i = 2 * j
      · subst h1
        rw [g1] at hi; obtain rfl := Option.some.inj hi
        rcases s1 with e | ⟨g, hg, hge⟩
        · exact .inl (.inr ⟨_, v, hv, by rw [← e]; exact hu⟩)
        · rw [hg] at hu; obtain rfl := Option.some.inj hu; exact .inr hge
      · by_cases h2 : i = 2 * j + 1
        · subst h2
          rw [g2] at hi; obtain rfl := Option.some.inj hi
          rcases s2 with e | ⟨g, hg, hge⟩
          · exact .inl (.inr ⟨_, a, ha, by rw [← e]; exact hu⟩)
          · rw [hg] at hu; obtain rfl := Option.some.inj hu; exact .inr hge
        · rw [g3 i h1 h2] at hi; exact .inl (.inr ⟨i, u, hi, hu⟩)
  have hM : ∀ b, (b = r ∨ v.ownBlock = some b ∨ a.ownBlock = some b) → rows r cs b := by
    rintro b (rfl | hb | hb)
    · exact .inl rfl
    · exact .inr ⟨_, v, hv, hb⟩
    · exact .inr ⟨_, a, ha, hb⟩
  have keepF : ∀ K full n, FullOK w K full n → (∀ b, full.ownBlock = some b → ¬ rows r cs b ∧ F b) → FullOK w' K full n ∧ ∀ b, full.ownBlock = some b → ¬ rows r ((cs.set (2 * j) v').set (2 * j + 1) a') b ∧ F b := by
    intro K full n hF hn
    refine ⟨hF.chg hc fun b hb hm => (hn b hb).1 (hM b hm), fun b hb => ⟨fun hr => ?_, (hn b hb).2⟩⟩
    rcases hrows b hr with hr | hr
    · exact (hn b hb).1 hr
    · obtain ⟨b', N, cap, rfl, _, _, hlt, _⟩ := hF
      injection hb with hb; simp at hb; omega
  have hbl := hb.lt
  have keepG : ∀ (K : RK) (full1 : Value) n, FullOK w K full1 n → (∀ b, full1.ownBlock = some b → ¬ rows r cs b ∧ F b) → FullOK w' K full1 n ∧ ∀ b, full1.ownBlock = some b → ¬ rows r ((cs.set (2 * j) v').set (2 * j + 1) a') b ∧ (F b ∨ full.ownBlock = some b ∨ (w.heap.size ≤ b ∧ b < w'.heap.size)) :=
    fun K f n h1 h2 => ⟨(keepF K f n h1 h2).1, fun b hb => ⟨((keepF K f n h1 h2).2 b hb).1, .inl ((keepF K f n h1 h2).2 b hb).2⟩⟩
  have hlt' : ∀ b, rows r ((cs.set (2 * j) v').set (2 * j + 1) a') b → b < w'.heap.size := by
    rintro b (rfl | ⟨i, u, hi, hu⟩)
    · exact hbl
    · by_cases h1 : i = 2 * j
      · subst h1; rw [g1] at hi; obtain rfl := Option.some.inj hi; exact o1'.lt hu
      · by_cases h2 : i = 2 * j + 1
        · subst h2; rw [g2] at hi; obtain rfl := Option.some.inj hi; exact o2'.lt hu
        · rw [g3 i h1 h2] at hi; exact Nat.lt_of_lt_of_le (h.apart i u b hi hu).2 hc.size
  refine ⟨fun b hbr => ?_, ?_, hb, ?_, ?_, by simp [hlen], ?_, ?_⟩
  · rcases hrows b hbr with hr | hr
    · exact .inl (h.deps b hr)
    · exact .inr (.inr ⟨hr, hlt' b hbr⟩)
  · rintro b (hb | hb | hb)
    · exact Nat.lt_of_lt_of_le (h.below b hb) hc.size
    · exact Nat.lt_of_lt_of_le (hFn b hb).1 hc.size
    · exact hb.2
  · intro i K' hK'
    by_cases hi : i = j
    · subst hi
      rw [hK] at hK'; obtain rfl := Option.some.inj hK'
      refine ⟨v', a', g1, g2, fulls ++ [full], ns ++ [m], by simpa using o1', by simpa using o2', by simp [hl], by simp; omega, fun q f n hq hn => ?_⟩
      by_cases hql : q < fulls.length
      · rw [List.getElem?_append_left hql] at hq
        rw [List.getElem?_append_left (by omega)] at hn
        obtain ⟨x, y⟩ := hf q f n hq hn
        exact keepG _ _ _ x y
      · have hq1 := (List.getElem?_eq_some_iff.1 hq).1
        simp at hq1
        obtain rfl : q = fulls.length := by omega
        rw [List.getElem?_append_right (by omega)] at hq
        rw [hl, List.getElem?_append_right (by omega)] at hn
        simp at hq hn
        subst hq; subst hn
        refine ⟨hF, fun b hb => ⟨fun hr => ?_, .inr (.inl hb)⟩⟩
        obtain ⟨x, y⟩ := hFn b hb
        rcases hrows b hr with hr | hr
        · exact y hr
        · omega
    · obtain ⟨u, c, hu, hc', fs, ms, p1, p2, p3, p4, p5⟩ := h.kind i K' hK'
      refine ⟨u, c, by rw [g3 _ (by omega) (by omega)]; exact hu, by rw [g3 _ (by omega) (by omega)]; exact hc', fs, ms, p1.chg hc ?_, p2.chg hc ?_, p3, by omega, fun q f n hq hn => ?_⟩
      · rintro b hbb (hx | hx | hx)
        · exact (h.apart _ _ _ hu hbb).1 hx
        · exact h.apart2 _ _ _ _ _ (by omega) hv hu hx hbb
        · exact h.apart2 _ _ _ _ _ (by omega) ha hu hx hbb
      · rintro b hbb (hx | hx | hx)
        · exact (h.apart _ _ _ hc' hbb).1 hx
        · exact h.apart2 _ _ _ _ _ (by omega) hv hc' hx hbb
        · exact h.apart2 _ _ _ _ _ (by omega) ha hc' hx hbb
      · obtain ⟨x, y⟩ := p5 q f n hq hn
        exact keepG _ _ _ x y
  · intro i u h8 h34 hu
    have hjk : j < 4 := (List.getElem?_eq_some_iff.1 hK).1
    rw [g3 i (by omega) (by omega)] at hu
    exact h.none i u h8 h34 hu
  · intro i u b hu hb'
    have hsz : w.heap.size ≤ w'.heap.size := hc.size
    have hr := h.blk.lt
    by_cases h1 : i = 2 * j
    · subst h1
      rw [g1] at hu; obtain rfl := Option.some.inj hu
      refine ⟨?_, o1'.lt hb'⟩
      rcases s1 with e | ⟨g, hg, hge⟩
      · exact (h.apart _ v b hv (by rw [← e]; exact hb')).1
      · rw [hg] at hb'; obtain rfl := Option.some.inj hb'; omega
    · by_cases h2 : i = 2 * j + 1
      · subst h2
        rw [g2] at hu; obtain rfl := Option.some.inj hu
        refine ⟨?_, o2'.lt hb'⟩
        rcases s2 with e | ⟨g, hg, hge⟩
        · exact (h.apart _ a b ha (by rw [← e]; exact hb')).1
        · rw [hg] at hb'; obtain rfl := Option.some.inj hb'; omega
      · rw [g3 i h1 h2] at hu
        obtain ⟨x, y⟩ := h.apart i u b hu hb'
        exact ⟨x, by omega⟩
  · -- two different rows have different blocks
    have key : ∀ (i i' : Nat) (u u' : Value) (b : Nat), i < i' → ((cs.set (2 * j) v').set (2 * j + 1) a')[i]? = some u → ((cs.set (2 * j) v').set (2 * j + 1) a')[i']? = some u' → u.ownBlock = some b → u'.ownBlock ≠ some b := by
      intro i i' u u' b hii hu hu' hb1 hb2
      by_cases h1 : i = 2 * j
      · subst h1
        rw [g1] at hu; obtain rfl := Option.some.inj hu
        by_cases h2 : i' = 2 * j + 1
        · subst h2
          rw [g2] at hu'; obtain rfl := Option.some.inj hu'
          exact s3 b hb1 hb2
        · rw [g3 i' (by omega) h2] at hu'
          rcases s1 with e | ⟨g, hg, hge⟩
          · rw [e] at hb1; exact h.apart2 _ _ _ _ _ (by omega) hv hu' hb1 hb2
          · rw [hg] at hb1; obtain rfl := Option.some.inj hb1
            have := (h.apart _ _ _ hu' hb2).2; omega
      · by_cases h2 : i = 2 * j + 1
        · subst h2
          rw [g2] at hu; obtain rfl := Option.some.inj hu
          rw [g3 i' (by omega) (by omega)] at hu'
          rcases s2 with e | ⟨g, hg, hge⟩
          · rw [e] at hb1; exact h.apart2 _ _ _ _ _ (by omega) ha hu' hb1 hb2
          · rw [hg] at hb1; obtain rfl := Option.some.inj hb1
            have := (h.apart _ _ _ hu' hb2).2; omega
        · rw [g3 i h1 h2] at hu
          by_cases h3 : i' = 2 * j
          · subst h3
            rw [g1] at hu'; obtain rfl := Option.some.inj hu'
            rcases s1 with e | ⟨g, hg, hge⟩
            · rw [e] at hb2; exact h.apart2 _ _ _ _ _ (by omega) hu hv hb1 hb2
            · rw [hg] at hb2; obtain rfl := Option.some.inj hb2
              have := (h.apart _ _ _ hu hb1).2; omega
          · by_cases h4 : i' = 2 * j + 1
            · subst h4
              rw [g2] at hu'; obtain rfl := Option.some.inj hu'
              rcases s2 with e | ⟨g, hg, hge⟩
              · rw [e] at hb2; exact h.apart2 _ _ _ _ _ (by omega) hu ha hb1 hb2
              · rw [hg] at hb2; obtain rfl := Option.some.inj hb2
                have := (h.apart _ _ _ hu hb1).2; omega
            · rw [g3 i' h3 h4] at hu'
              exact h.apart2 _ _ _ _ _ (by omega) hu hu' hb1 hb2
    intro i i' u u' b hne hu hu' hb1 hb2
    rcases Nat.lt_or_gt_of_ne hne with hlt | hgt
    · exact key i i' u u' b hlt hu hu' hb1 hb2
    · exact key i' i u' u b hgt hu' hu hb2 hb1
end Go.Proofs.YtdgffjkcpbolmaaGreatDoor.X
