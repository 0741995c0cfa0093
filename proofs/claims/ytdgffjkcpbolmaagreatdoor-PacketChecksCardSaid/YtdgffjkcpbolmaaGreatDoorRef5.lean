/-
  The document's texts, topics and filters: what the reference computes. No condition.
-/
import Derived.Test.YtdgffjkcpbolmaaGreatDoorGRef5
import Derived.Test.YtdgffjkcpbolmaaGreatDoorUtf
import Derived.Test.YtdgffjkcpbolmaaGreatDoorFxOwn
import Derived.Test.YtdgffjkcpbolmaaGreatDoorFxTab
namespace Go.Proofs.YtdgffjkcpbolmaaGreatDoor.X
open Go Go.RowKit Go.Proofs.YtdgffjkcpbolmaaGreatDoor.Fx
set_option maxRecDepth 100000
set_option linter.unusedVariables false
theorem idx_str {w : World} {s : ByteArray} {i : Nat} {k : Value → World → Prop} (hi : i < s.size) (hk : k (.int .u8 (byteAt s i)) w) : XV P (Instr.index 9 (.string s) (.int .i64 i)) w k := by
  rw [XV_eq (run_index_str StT.eq hi), ← byteAt_eq hi]; exact hk
theorem ext_ok {w : World} {vs : Array Value} {i : Nat} {v : Value} {k : Value → World → Prop} (h : vs[i]? = some v) (hk : k v w) : XV P (Instr.extract (.tuple vs) i) w k := by
  have : (Instr.extract (.tuple vs) i).run P w = .ok v w := by simp [Instr.extract, h]
  rw [XV_eq this]; exact hk
theorem addN_ok {w : World} {T : TypeId} {c : Bool} {a b : Nat} {k : Value → World → Prop} (h : a + b ≤ 9223372036854775807) (hk : k (.int .i64 ((a + b : Nat) : Int)) w) : XV P (binS .add T c (.int .i64 a) (.int .i64 b)) w k := by
  rw [x_add, wrap_id (by omega) (by omega), show (a : Int) + b = ((a + b : Nat) : Int) by omega]; exact hk
theorem add1_ok {w : World} {T : TypeId} {c : Bool} {a : Nat} {k : Value → World → Prop} (h : a < 9223372036854775807) (hk : k (.int .i64 ((a + 1 : Nat) : Int)) w) : XV P (binS .add T c (.int .i64 a) (.int .i64 1)) w k := by
  rw [x_add, wrap_id (by omega) (by omega), show (a : Int) + 1 = ((a + 1 : Nat) : Int) by omega]; exact hk
theorem leq_cond {w : World} {T : TypeId} {c : Bool} {K : IntKind} {a b : Int} {A B : World → Prop} (h1 : a ≤ b → A w) (h2 : b < a → B w) : XV P (binS .leq T c (.int K a) (.int K b)) w fun v w => condW v (A w) (B w) := by
  rw [x_leq]; exact condW_dec h1 (fun h => h2 (by omega))
theorem geq_cond {w : World} {T : TypeId} {c : Bool} {K : IntKind} {a b : Int} {A B : World → Prop} (h1 : b ≤ a → A w) (h2 : a < b → B w) : XV P (binS .geq T c (.int K a) (.int K b)) w fun v w => condW v (A w) (B w) := by
  rw [x_geq]; exact condW_dec h1 (fun h => h2 (by omega))
theorem gtr_cond {w : World} {T : TypeId} {c : Bool} {K : IntKind} {a b : Int} {A B : World → Prop} (h1 : b < a → A w) (h2 : a ≤ b → B w) : XV P (binS .gtr T c (.int K a) (.int K b)) w fun v w => condW v (A w) (B w) := by
  rw [x_gtr]; exact condW_dec h1 (fun h => h2 (by omega))
theorem geq_gd {w : World} {T : TypeId} {c : Bool} {K : IntKind} {a b : Int} {A B : World → Prop} (h1 : b ≤ a → A w) (h2 : a < b → B w) : XV P (binS .geq T c (.int K a) (.int K b)) w fun v w => gd v true (A w) (B w) := by
  rw [x_geq]; exact gd_dec h1 (fun h => h2 (by omega))
theorem gtr_gd {w : World} {T : TypeId} {c : Bool} {K : IntKind} {a b : Int} {A B : World → Prop} (h1 : b < a → A w) (h2 : a ≤ b → B w) : XV P (binS .gtr T c (.int K a) (.int K b)) w fun v w => gd v true (A w) (B w) := by
  rw [x_gtr]; exact gd_dec h1 (fun h => h2 (by omega))
/-- a guard that wants false. -/
theorem lt_gdF {w : World} {T : TypeId} {c : Bool} {K : IntKind} {a b : Int} {A B : World → Prop} (h1 : b ≤ a → A w) (h2 : a < b → B w) : XV P (binS .lss T c (.int K a) (.int K b)) w fun v w => gd v false (A w) (B w) := by
  rw [x_lss]; exact gd_same (fun h => h1 (by simpa using h)) (fun h => h2 (by simpa using h))
theorem gtr_gdF {w : World} {T : TypeId} {c : Bool} {K : IntKind} {a b : Int} {A B : World → Prop} (h1 : a ≤ b → A w) (h2 : b < a → B w) : XV P (binS .gtr T c (.int K a) (.int K b)) w fun v w => gd v false (A w) (B w) := by
  rw [x_gtr]; exact gd_same (fun h => h1 (by simpa using h)) (fun h => h2 (by simpa using h))
theorem eq_gdF {w : World} {T : TypeId} {c : Bool} {K : IntKind} {a b : Int} {A B : World → Prop} (h1 : a ≠ b → A w) (h2 : a = b → B w) : XV P (binS .eql T c (.int K a) (.int K b)) w fun v w => gd v false (A w) (B w) := by
  rw [x_eql]; exact gd_same (fun h => h1 (by simpa using h)) (fun h => h2 (by simpa using h))
section
variable {w : World} {k : Value → World → Prop} {s : ByteArray}
theorem more_ok {b : Nat} (hk : k (.tuple #[.int .i64 (moreN b).1, .int .u8 (moreN b).2.1, .int .u8 (moreN b).2.2]) w) : CallF P 200 #[.int .u8 b] w k := by
  have leaf : ∀ {n : Int} {lo hi : Nat}, moreN b = (n, lo, hi) → k (.tuple #[.int .i64 n, .int .u8 lo, .int .u8 hi]) w := fun h => by rw [h] at hk; exact hk
  refine c200 _ _ _ ?_
  unfold S200_0 B200_0
  refine lt_cond (fun h1 => leaf (by unfold moreN; rw [if_pos (by omega)])) fun h1 => ?_
  have t1 : ∀ x : Bool, (x = true ↔ (241 ≤ b ∧ b ≤ 243)) → ¬ (194 ≤ b ∧ b ≤ 223) → b ≠ 224 → b ≠ 237 → ¬ (225 ≤ b ∧ b ≤ 239) → b ≠ 240 → S200_1 (.int .u8 b) (.bool x) w k := fun x hx g1 g2 g3 g4 g5 => by
    unfold S200_1
    refine condW_b (fun h => leaf ?_) (fun h => eq_cond (fun h2 => leaf ?_) fun h2 => leaf ?_)
    · have := hx.1 h; unfold moreN; rw [if_neg (by omega), if_neg g1, if_neg g2, if_neg g3, if_neg g4, if_neg g5, if_pos this]
    · have : ¬ (241 ≤ b ∧ b ≤ 243) := fun q => by rw [hx.2 q] at h; cases h
      unfold moreN; rw [if_neg (by omega), if_neg g1, if_neg g2, if_neg g3, if_neg g4, if_neg g5, if_neg this, if_pos (by omega)]
    · have : ¬ (241 ≤ b ∧ b ≤ 243) := fun q => by rw [hx.2 q] at h; cases h
      unfold moreN; rw [if_neg (by omega), if_neg g1, if_neg g2, if_neg g3, if_neg g4, if_neg g5, if_neg this, if_neg (by omega)]
  have t2 : ∀ x : Bool, (x = true ↔ (225 ≤ b ∧ b ≤ 239)) → ¬ (194 ≤ b ∧ b ≤ 223) → b ≠ 224 → b ≠ 237 → S200_2 (.int .u8 b) (.bool x) w k := fun x hx g1 g2 g3 => by
    unfold S200_2 B200_2
    refine condW_b (fun h => leaf ?_) (fun h => ?_)
    · have := hx.1 h; unfold moreN; rw [if_neg (by omega), if_neg g1, if_neg g2, if_neg g3, if_pos this]
    · have g4 : ¬ (225 ≤ b ∧ b ≤ 239) := fun q => by rw [hx.2 q] at h; cases h
      refine eq_cond (fun h2 => leaf ?_) fun h2 => ?_
      · unfold moreN; rw [if_neg (by omega), if_neg g1, if_neg g2, if_neg g3, if_neg g4, if_pos (by omega)]
      · refine geq_gd (fun h3 => ?_) fun h3 => ?_
        · rw [x_leq]; exact t1 _ (by simp; omega) g1 g2 g3 g4 (by omega)
        · exact t1 _ (by simp; omega) g1 g2 g3 g4 (by omega)
  have t3 : ∀ x : Bool, (x = true ↔ (194 ≤ b ∧ b ≤ 223)) → S200_3 (.int .u8 b) (.bool x) w k := fun x hx => by
    unfold S200_3 B200_3
    refine condW_b (fun h => leaf ?_) (fun h => ?_)
    · have := hx.1 h; unfold moreN; rw [if_neg (by omega), if_pos this]
    · have g1 : ¬ (194 ≤ b ∧ b ≤ 223) := fun q => by rw [hx.2 q] at h; cases h
      refine eq_cond (fun h2 => leaf ?_) fun h2 => eq_cond (fun h3 => leaf ?_) fun h3 => ?_
      · unfold moreN; rw [if_neg (by omega), if_neg g1, if_pos (by omega)]
      · unfold moreN; rw [if_neg (by omega), if_neg g1, if_neg (by omega), if_pos (by omega)]
      · refine geq_gd (fun h4 => ?_) fun h4 => ?_
        · rw [x_leq]; exact t2 _ (by simp; omega) g1 (by omega) (by omega)
        · exact t2 _ (by simp; omega) g1 (by omega) (by omega)
  refine geq_gd (fun h2 => ?_) fun h2 => ?_
  · rw [x_leq]; exact t3 _ (by simp; omega)
  · exact t3 _ (by simp; omega)
theorem stepAt_zero {i : Nat} (h : byteAt s i = 0) : stepAt s i = none := by unfold stepAt stepB; rw [if_pos h]
theorem stepAt_bad {i : Nat} (h : (moreN (byteAt s i)).1 < 0) : stepAt s i = none := by
  unfold stepAt stepB
  by_cases hz : byteAt s i = 0
  · rw [if_pos hz]
  · rw [if_neg hz, if_pos h]
/-- The bounds of the j-th byte behind the first. -/
def lowAt (c : Nat) (j : Nat) : Nat := if j = 1 then (moreN c).2.1 else 128
def highAt (c : Nat) (j : Nat) : Nat := if j = 1 then (moreN c).2.2 else 191
theorem stepAt_some {i N : Nat} (hz : byteAt s i ≠ 0) (hN : (moreN (byteAt s i)).1 = N) (hl : i + N < s.size) (hj : ∀ j, 1 ≤ j → j ≤ N → lowAt (byteAt s i) j ≤ byteAt s (i + j) ∧ byteAt s (i + j) ≤ highAt (byteAt s i) j) : stepAt s i = some N := by
  unfold stepAt
  rw [stepB_eq (n := N) (lo := (moreN (byteAt s i)).2.1) (hi := (moreN (byteAt s i)).2.2) (by rw [← hN]) hz (by omega), if_pos]
  · simp
  · have a1 := hj 1; have a2 := hj 2; have a3 := hj 3
    simp [lowAt, highAt] at a1 a2 a3
    refine ⟨by omega, ?_, ?_, ?_⟩ <;> omega
theorem stepAt_none {i N j : Nat} (hz : byteAt s i ≠ 0) (hN : (moreN (byteAt s i)).1 = N) (h1 : 1 ≤ j) (h2 : j ≤ N) (hb : ¬ (lowAt (byteAt s i) j ≤ byteAt s (i + j) ∧ byteAt s (i + j) ≤ highAt (byteAt s i) j)) : stepAt s i = none := by
  have h3 : N ≤ 3 := by
    rcases moreN_cases (byteAt s i) with ⟨_, e⟩ | ⟨_, _, e⟩ | ⟨_, e⟩ | ⟨_, e⟩ | ⟨_, _, _, e⟩ | ⟨_, e⟩ | ⟨_, _, e⟩ | ⟨_, e⟩ | ⟨_, e⟩ <;> rw [e] at hN <;> simp at hN <;> omega
  unfold stepAt
  rw [stepB_eq (n := N) (lo := (moreN (byteAt s i)).2.1) (hi := (moreN (byteAt s i)).2.2) (by rw [← hN]) hz (by omega), if_neg]
  rintro ⟨_, g1, g2, g3⟩
  have : j = 1 ∨ j = 2 ∨ j = 3 := by omega
  rcases this with rfl | rfl | rfl <;> simp [lowAt, highAt] at hb <;> omega
theorem stepAt_short {i N : Nat} (hz : byteAt s i ≠ 0) (hN : (moreN (byteAt s i)).1 = N) (hl : s.size ≤ i + N) : stepAt s i = none := by
  unfold stepAt
  rw [stepB_eq (n := N) (lo := (moreN (byteAt s i)).2.1) (hi := (moreN (byteAt s i)).2.2) (by rw [← hN]) hz (by omega), if_neg]
  rintro ⟨g, _⟩
  simp at g; omega
theorem Text_ok (hk : k (.bool (okText s)) w) : CallF P 129 #[.string s] w k := by
  refine c129 _ _ _ ?_
  unfold S129_0 B129_0
  refine lens_ok ?_
  refine gtr_cond (fun h => ?_) fun h => ?_
  · have : okText s = false := by unfold okText; simp; omega
    rw [this] at hk; exact hk
  have hk : k (.bool (okFrom s 0)) w := by
    have : okText s = okFrom s 0 := by unfold okText; rw [decide_eq_true (by omega)]; simp
    rw [this] at hk; exact hk
  refine LoopP.of (fun t w' => ∃ i : Nat, i ≤ s.size ∧ t = (.string s, .int .i64 i) ∧ w = w' ∧ okFrom s i = okFrom s 0) (fun t _ => s.size - ctr t.2) ⟨0, Nat.zero_le _, rfl, rfl, rfl⟩ ?_
  rintro _ _ ⟨i, hi, rfl, rfl, hf⟩
  unfold S129_2 B129_2
  refine lens_ok ?_
  refine lt_cond (fun hlt => ?_) fun hge => ?_
  · have hlt : i < s.size := by omega
    refine idx_str hlt ?_
    have bad : stepAt s i = none → k (.bool false) w := fun h => by rw [← okFrom_bad hlt h, hf]; exact hk
    refine eq_cond (fun h0 => bad (stepAt_zero (by omega))) fun h0 => ?_
    have h0 : byteAt s i ≠ 0 := by omega
    refine idx_str hlt ?_
    refine more_ok ?_
    refine ext_ok rfl (ext_ok rfl (ext_ok rfl ?_))
    refine lt_gdF (fun hn => ?_) fun hn => bad (stepAt_bad hn)
    obtain ⟨N, hN⟩ : ∃ N : Nat, (moreN (byteAt s i)).1 = N := ⟨(moreN (byteAt s i)).1.toNat, by omega⟩
    have hN3 : N ≤ 3 := by
      rcases moreN_cases (byteAt s i) with ⟨_, e⟩ | ⟨_, _, e⟩ | ⟨_, e⟩ | ⟨_, e⟩ | ⟨_, _, _, e⟩ | ⟨_, e⟩ | ⟨_, _, e⟩ | ⟨_, e⟩ | ⟨_, e⟩ <;> rw [e] at hN <;> simp at hN <;> omega
    rw [hN]
    refine addN_ok (by omega) ?_
    refine lens_ok ?_
    refine geq_cond (fun hl => bad (stepAt_short h0 hN (by omega))) fun hl => ?_
    refine LoopP.of (fun t w' => ∃ j : Nat, 1 ≤ j ∧ j ≤ N + 1 ∧ t = (.string s, .int .i64 i, .int .i64 N, .int .u8 (lowAt (byteAt s i) j), .int .u8 (highAt (byteAt s i) j), .int .i64 j) ∧ w = w' ∧
      ∀ m, 1 ≤ m → m < j → lowAt (byteAt s i) m ≤ byteAt s (i + m) ∧ byteAt s (i + m) ≤ highAt (byteAt s i) m) (fun t _ => N + 1 - ctr t.2.2.2.2.2) ⟨1, by omega, by omega, rfl, rfl, fun m h1 h2 => by omega⟩ ?_
    rintro _ _ ⟨j, hj1, hj2, rfl, rfl, hm⟩
    unfold S129_4
    refine leq_cond (fun hle => ?_) fun hgt => ?_
    · refine addN_ok (by omega) ?_
      refine idx_str (i := i + j) (by omega) ?_
      have nope : ¬ (lowAt (byteAt s i) j ≤ byteAt s (i + j) ∧ byteAt s (i + j) ≤ highAt (byteAt s i) j) → k (.bool false) w := fun h => bad (stepAt_none h0 hN hj1 (by omega) h)
      refine lt_gdF (fun h1 => ?_) fun h1 => nope (by omega)
      refine gtr_cond (fun h2 => nope (by omega)) fun h2 => ?_
      refine add1_ok (by omega) ?_
      refine ⟨⟨j + 1, by omega, by omega, ?_, rfl, fun m g1 g2 => ?_⟩, by simp only [ctr]; omega⟩
      · simp only [lowAt, highAt, show ¬ (j + 1 = 1) by omega, if_false]; rfl
      · by_cases hmj : m = j
        · subst hmj; omega
        · exact hm m g1 (by omega)
    · refine addN_ok (by omega) (add1_ok (by omega) ?_)
      obtain rfl : j = N + 1 := by omega
      have hs := stepAt_some h0 hN (by omega) (fun m g1 g2 => hm m g1 (by omega))
      refine ⟨⟨i + N + 1, by omega, by simp, rfl, ?_⟩, by simp only [ctr]; omega⟩
      rw [← okFrom_step hlt hs, hf]
  · have : okFrom s i = true := okFrom_end (by omega)
    rw [← hf, this] at hk
    exact hk
def isSign (b : Nat) : Bool := b == 43 || b == 35
def hasSign (s : ByteArray) : Bool := (List.range s.size).any fun i => isSign (byteAt s i)
theorem hasSign_true {i : Nat} (hi : i < s.size) (h : isSign (byteAt s i) = true) : hasSign s = true := List.any_eq_true.2 ⟨i, List.mem_range.2 hi, h⟩
theorem hasSign_false (h : ∀ i, i < s.size → isSign (byteAt s i) = false) : hasSign s = false := List.any_eq_false.2 fun i hi => by rw [h i (List.mem_range.1 hi)]; simp
theorem sign_ok (hs : s.size ≤ 9223372036854775807) (hk : k (.bool (hasSign s)) w) : CallF P 202 #[.string s] w k := by
  refine c202 _ _ _ ?_
  unfold S202_0 B202_0 S202_1
  refine LoopP.of (fun t w' => ∃ i : Nat, i ≤ s.size ∧ t = (.string s, .int .i64 i) ∧ w = w' ∧ ∀ m, m < i → isSign (byteAt s m) = false) (fun t _ => s.size - ctr t.2) ⟨0, Nat.zero_le _, rfl, rfl, fun m h => by omega⟩ ?_
  rintro _ _ ⟨i, hi, rfl, rfl, hm⟩
  unfold S202_2
  refine lens_ok ?_
  refine lt_cond (fun hlt => ?_) fun hge => ?_
  · have hlt : i < s.size := by omega
    have yes : isSign (byteAt s i) = true → k (.bool true) w := fun h => by rw [hasSign_true hlt h] at hk; exact hk
    refine idx_str hlt (eq_gdF (fun h1 => ?_) fun h1 => yes (by unfold isSign; simp; omega))
    refine idx_str hlt (eq_cond (fun h2 => yes (by unfold isSign; simp; omega)) fun h2 => ?_)
    refine add1_ok (by omega) ⟨⟨i + 1, by omega, rfl, rfl, fun m h => ?_⟩, by simp only [ctr]; omega⟩
    by_cases hmi : m = i
    · subst hmi; unfold isSign; simp; omega
    · exact hm m (by omega)
  · rw [hasSign_false fun m h => hm m (by omega)] at hk; exact hk
/-- What the document says of a topic. -/
def refTopic (s : ByteArray) : Int := if s.size = 0 then 50 else if okText s = false then 51 else if hasSign s = true then 52 else 0
theorem refCheck_ok (hs : s.size ≤ 9223372036854775807) (hk : k (.int .i64 (refTopic s)) w) : CallF P 136 #[.string s] w k := by
  unfold refTopic at hk
  refine c136 _ _ _ ?_
  unfold S136_0
  refine lens_ok (eq_cond (fun h => ?_) fun h => ?_)
  · rw [if_pos (by omega)] at hk; exact hk
  rw [if_neg (by omega)] at hk
  refine Text_ok (not_cond (fun h1 => ?_) fun h1 => ?_)
  · rw [if_pos h1] at hk; exact hk
  rw [if_neg (by rw [h1]; simp)] at hk
  refine sign_ok hs (condW_b (fun h2 => ?_) fun h2 => ?_)
  · rw [if_pos h2] at hk; exact hk
  · rw [if_neg (by rw [h2]; simp)] at hk; exact hk
/-! ### levels -/
def levelsFrom (s : ByteArray) (f i : Nat) : List ByteArray :=
  if h : i < s.size then
    if byteAt s i = 47 then s.extract f i :: levelsFrom s (i + 1) (i + 1) else levelsFrom s f (i + 1)
  else [s.extract f s.size]
termination_by s.size - i
def levels (s : ByteArray) : List ByteArray := levelsFrom s 0 0
theorem levelsFrom_slash {f i : Nat} (h : i < s.size) (hb : byteAt s i = 47) : levelsFrom s f i = s.extract f i :: levelsFrom s (i + 1) (i + 1) := by rw [levelsFrom, dif_pos h, if_pos hb]
theorem levelsFrom_go {f i : Nat} (h : i < s.size) (hb : byteAt s i ≠ 47) : levelsFrom s f i = levelsFrom s f (i + 1) := by rw [levelsFrom, dif_pos h, if_neg hb]
theorem levelsFrom_end {f i : Nat} (h : ¬ i < s.size) : levelsFrom s f i = [s.extract f s.size] := by rw [levelsFrom, dif_neg h]
theorem slice_str {w : World} {l h : Nat} (h1 : l ≤ h) (h2 : h ≤ s.size) (hk : k (.string (s.extract l h)) w) : XV P (Instr.sliceAt 9 (.string s) (some (.int .i64 l)) (some (.int .i64 h)) none) w k := by
  have hu := strT_eq (StT.eq (P := P) (T := 9))
  have a1 : (0 : Int) ≤ (l : Int) ∧ (l : Int) ≤ h := by omega
  have a2 : (0 : Int) ≤ (h : Int) ∧ (h : Int) ≤ s.size := by omega
  have : (Instr.sliceAt 9 (.string s) (some (.int .i64 l)) (some (.int .i64 h)) none).run P w = .ok (.string (s.extract l h)) w := by
    simp [Instr.sliceAt, Instr.slice, run_underlying hu, Instr.sliceBounds, Instr.sliceBound, asIntOf, h1, h2]
  rw [XV_eq this]; exact hk
theorem slice_str_from {w : World} {l : Nat} (h1 : l ≤ s.size) (hk : k (.string (s.extract l s.size)) w) : XV P (Instr.sliceAt 9 (.string s) (some (.int .i64 l)) none none) w k := by
  have hu := strT_eq (StT.eq (P := P) (T := 9))
  have : (Instr.sliceAt 9 (.string s) (some (.int .i64 l)) none none).run P w = .ok (.string (s.extract l s.size)) w := by
    simp [Instr.sliceAt, Instr.slice, run_underlying hu, Instr.sliceBounds, Instr.sliceBound, asIntOf, h1]
  rw [XV_eq this]; exact hk
/-- append of one string behind an owned row. -/
theorem appendS_ok {w : World} {v : Value} {xs : List ByteArray} {x : ByteArray} (hn : xs.length ≤ 10000000) (ho : Own w 9 1 v xs.length (xs.map .string))
    (hk : ∀ v' w', Own w' 9 1 v' (xs ++ [x]).length ((xs ++ [x]).map .string) → Chg (fun b => v.ownBlock = some b) w w' → SameOrNew w v v' → k v' w') :
    XV P (Instr.buildSlice 27 1 #[(0, .string x)]) w fun b w => XV P (Builtin.append_ #[27, 27] 27 #[v, b]) w k := by
  rw [XV_eq (run_buildSlice1 (E := 9) (sz := 1) (bytes := 16) (by rfl) (by omega))]
  have e : Ext w (w.alloc (.cells (Value.string x).cells 9)) := ext_alloc _ _
  refine append_ok (sz := 1) (m := 1) (ho.ext e) (news := [.string x]) rfl (fun j u hu => ?_) (fun u hu => by simp at hu; rw [hu]; rfl) (by omega) (by omega) fun v' w' o' c' s' => ?_
  · rw [Nat.zero_add, ← hu]; exact (Blk.new w [.string x] 9).cell j
  · exact hk v' w' (by simpa using o') ((e.chg _).trans c') (s'.elim .inl fun ⟨g, hg, hge⟩ => .inr ⟨g, hg, Nat.le_trans e.size hge⟩)
/-- An owned row of strings, seen as a list. -/
theorem Own_sl {w : World} {v : Value} {xs : List ByteArray} (hl : xs.length ≤ 9223372036854775807) (ho : Own w 9 1 v xs.length (xs.map .string)) : Sl Kn.str w v xs := by
  rcases ho.2 with ⟨rfl, h0⟩ | ⟨g, cap, cur, rfl, _, _, h1, h2, _⟩
  · refine ⟨none, 0, by rw [h0], ⟨by omega, hl⟩, fun hne => absurd (List.length_eq_zero_iff.1 h0) hne⟩
  · refine ⟨_, cap, rfl, ⟨h1, hl⟩, fun _ => ⟨g, 0, rfl, fun i x hx => ⟨[.string x], rfl, fun j u hu => ?_⟩⟩⟩
    have hj : j = 0 := by have := (List.getElem?_eq_some_iff.1 hu).1; simp at this; omega
    subst hj
    simp at hu; subst hu
    rw [show 0 + i * Kn.str.sz + 0 = i by show 0 + i * 1 + 0 = i; omega]
    exact ho.cell rfl (by simp [List.getElem?_map, hx])
theorem Levels_ok {w0 : World} (h0 : Ext w0 w) (hs : s.size ≤ 1000000) (hk : ∀ v w', Ext w0 w' → Sl Kn.str w' v (levels s) → (levels s).length ≤ 1000001 → k v w') : CallF P 209 #[.string s] w k := by
  refine c209 _ _ _ ?_
  unfold S209_0 B209_0 S209_1
  refine LoopP.of (fun t w' => ∃ (xs : List ByteArray) (v : Value) (f i : Nat), t = (.string s, v, .int .i64 f, .int .i64 i) ∧ i ≤ s.size ∧ f ≤ i ∧ xs.length ≤ i ∧ xs ++ levelsFrom s f i = levels s ∧ Ext w0 w' ∧
    Own w' 9 1 v xs.length (xs.map .string) ∧ ∀ b, v.ownBlock = some b → w0.heap.size ≤ b) (fun t _ => s.size - ctr t.2.2.2) ⟨[], _, 0, 0, rfl, Nat.zero_le _, Nat.le_refl _, Nat.le_refl _, rfl, h0, Own.nil _ _ _, fun b h => by cases h⟩ ?_
  rintro _ w' ⟨xs, v, f, i, rfl, hi, hf, hx, hl, he, ho, hb⟩
  unfold S209_2
  refine lens_ok (lt_cond (fun hlt => ?_) fun hge => ?_)
  · have hlt : i < s.size := by omega
    refine idx_str hlt (eq_cond (fun h1 => ?_) fun h1 => ?_)
    · refine slice_str hf (by omega) ?_
      refine appendS_ok (by omega) ho fun v' w2 ho' hc' hs' => ?_
      refine add1_ok (by omega) (add1_ok (by omega) ?_)
      refine ⟨⟨xs ++ [s.extract f i], v', i + 1, i + 1, rfl, by omega, Nat.le_refl _, by simp; omega, ?_, he.chg_new hc' hb, ho', fun b h => ?_⟩, by simp only [ctr]; omega⟩
      · rw [← hl, levelsFrom_slash hlt (by omega)]; simp
      · rcases hs' with e | ⟨g, hg, hge⟩
        · exact hb b (by rw [← e]; exact h)
        · rw [hg] at h; obtain rfl := Option.some.inj h; exact Nat.le_trans he.size hge
    · refine add1_ok (by omega) ?_
      refine ⟨⟨xs, v, f, i + 1, rfl, by omega, by omega, by omega, ?_, he, ho, hb⟩, by simp only [ctr]; omega⟩
      rw [← hl, levelsFrom_go hlt (by omega)]
  · refine slice_str_from (by omega) ?_
    refine appendS_ok (by omega) ho fun v' w2 ho' hc' hs' => ?_
    have hl' : xs ++ [s.extract f s.size] = levels s := by rw [← hl, levelsFrom_end (by omega)]
    have hlen : (levels s).length ≤ 1000001 := by rw [← hl']; simp; omega
    rw [hl'] at ho'
    exact hk v' w2 (he.chg_new hc' hb) (Own_sl (by omega) ho') hlen
/-- A level that cannot be. -/
def badLevel (n i : Nat) (l : ByteArray) : Bool := (hasSign l && decide (1 < l.size)) || (decide (l = ⟨#[35]⟩) && decide (i + 1 < n))
def badLevels (ls : List ByteArray) : Bool := (List.range ls.length).any fun i => badLevel ls.length i (ls[i]?.getD ⟨#[]⟩)
def refFilter (s : ByteArray) : Int := if s.size = 0 then 50 else if okText s = false then 51 else if badLevels (levels s) = true then 52 else 0
theorem badLevels_true {ls : List ByteArray} {i : Nat} {l : ByteArray} (hl : ls[i]? = some l) (h : badLevel ls.length i l = true) : badLevels ls = true :=
  List.any_eq_true.2 ⟨i, List.mem_range.2 (List.getElem?_eq_some_iff.1 hl).1, by rw [hl]; exact h⟩
theorem badLevels_false {ls : List ByteArray} (h : ∀ i l, ls[i]? = some l → badLevel ls.length i l = false) : badLevels ls = false :=
  List.any_eq_false.2 fun i hi => by
    have hi := List.mem_range.1 hi
    rw [List.getElem?_eq_getElem hi]
    simp [h i _ (List.getElem?_eq_getElem hi)]
theorem levelsFrom_size {l : ByteArray} : ∀ (n f i : Nat), s.size - i ≤ n → l ∈ levelsFrom s f i → l.size ≤ s.size := by
  have he : ∀ a b, b ≤ s.size → (s.extract a b).size ≤ s.size := fun a b hb => by rw [ByteArray.size_extract]; omega
  intro n
  induction n with
  | zero => intro f i hn hl; rw [levelsFrom_end (by omega)] at hl; simp at hl; subst hl; exact he _ _ (Nat.le_refl _)
  | succ n ih =>
    intro f i hn hl
    by_cases h : i < s.size
    · by_cases hb : byteAt s i = 47
      · rw [levelsFrom_slash h hb] at hl
        rcases List.mem_cons.1 hl with rfl | hl
        · exact he _ _ (by omega)
        · exact ih _ _ (by omega) hl
      · rw [levelsFrom_go h hb] at hl
        exact ih _ _ (by omega) hl
    · rw [levelsFrom_end h] at hl; simp at hl; subst hl; exact he _ _ (Nat.le_refl _)
theorem levels_size {l : ByteArray} (h : l ∈ levels s) : l.size ≤ s.size := levelsFrom_size _ _ _ (Nat.le_refl _) h
theorem okText_size (h : okText s = true) : s.size ≤ 65535 := by unfold okText at h; simp at h; exact h.1
theorem eqs_gd' {T : TypeId} {c : Bool} {t u : ByteArray} {A B : World → Prop} (h1 : t = u → A w) (h2 : t ≠ u → B w) : XV P (binS .eql T c (.string t) (.string u)) w fun v w => gd v true (A w) (B w) := eqs_gd h1 h2
theorem refFilter_ok {w0 : World} (h0 : Ext w0 w) (hk : ∀ w', Ext w0 w' → k (.int .i64 (refFilter s)) w') : CallF P 201 #[.string s] w k := by
  unfold refFilter at hk
  refine c201 _ _ _ ?_
  unfold S201_0 B201_0
  refine lens_ok (eq_cond (fun h => ?_) fun h => ?_)
  · have := hk w h0; rw [if_pos (by omega)] at this; exact this
  rw [if_neg (by omega)] at hk
  refine Text_ok (not_cond (fun h1 => ?_) fun h1 => ?_)
  · have := hk w h0; rw [if_pos h1] at this; exact this
  rw [if_neg (by rw [h1]; simp)] at hk
  have hsz := okText_size h1
  refine Levels_ok h0 (by omega) fun v w1 e1 hv hlen => ?_
  unfold S201_1
  have hl := hv.le
  refine LoopP.of (fun t w' => ∃ i : Nat, t = (v, .int .i64 i) ∧ i ≤ (levels s).length ∧ w1 = w' ∧ ∀ j l, j < i → (levels s)[j]? = some l → badLevel (levels s).length j l = false) (fun t _ => (levels s).length - ctr t.2) ⟨0, rfl, Nat.zero_le _, rfl, fun j l h => by omega⟩ ?_
  rintro _ _ ⟨i, rfl, hi, rfl, hm⟩
  unfold S201_2
  refine len_sl (e := 9) hv (lt_cond (fun hlt => ?_) fun hge => ?_)
  · have hlt : i < (levels s).length := by omega
    obtain ⟨l, hx⟩ : ∃ l, (levels s)[i]? = some l := ⟨_, List.getElem?_eq_getElem hlt⟩
    have hls := levels_size (List.mem_of_getElem? hx)
    have yes : badLevel (levels s).length i l = true → k (.int .i64 52) w1 := fun h => by have := hk w1 e1; rw [if_pos (badLevels_true hx h)] at this; exact this
    have next : badLevel (levels s).length i l = false → ∀ j l', j < i + 1 → (levels s)[j]? = some l' → badLevel (levels s).length j l' = false := fun h j l' hj hl' => by
      by_cases hji : j = i
      · subst hji; rw [hx] at hl'; obtain rfl := Option.some.inj hl'; exact h
      · exact hm j l' (by omega) hl'
    refine LI_sl hv rfl (Ext.refl _) hx (fun _ h => h) ?_
    refine sign_ok (by omega) ?_
    refine gd_b (fun hs1 => ?_) fun hs1 => ?_
    · refine LI_sl hv rfl (Ext.refl _) hx (fun _ h => h) ?_
      refine lens_ok (gtr_gdF (fun h1 => ?_) fun h1 => yes ?_)
      · refine LI_sl hv rfl (Ext.refl _) hx (fun _ h => h) ?_
        refine eqs_gd (fun h2 => ?_) fun h2 => ?_
        · refine add1_ok (by omega) (len_sl (e := 9) hv (lt_cond (fun h3 => yes ?_) fun h3 => ?_))
          · unfold badLevel; simp [h2]; omega
          · refine add1_ok (by omega) ⟨⟨i + 1, rfl, by omega, rfl, next ?_⟩, by simp only [ctr]; omega⟩
            unfold badLevel; simp; omega
        · refine add1_ok (by omega) ⟨⟨i + 1, rfl, by omega, rfl, next ?_⟩, by simp only [ctr]; omega⟩
          unfold badLevel; simp [h2]; omega
      · unfold badLevel; simp [hs1]; omega
    · refine LI_sl hv rfl (Ext.refl _) hx (fun _ h => h) ?_
      refine eqs_gd (fun h2 => ?_) fun h2 => ?_
      · refine add1_ok (by omega) (len_sl (e := 9) hv (lt_cond (fun h3 => yes ?_) fun h3 => ?_))
        · unfold badLevel; simp [h2]; omega
        · refine add1_ok (by omega) ⟨⟨i + 1, rfl, by omega, rfl, next ?_⟩, by simp only [ctr]; omega⟩
          simp at hs1
          unfold badLevel; simp [hs1]; omega
      · refine add1_ok (by omega) ⟨⟨i + 1, rfl, by omega, rfl, next ?_⟩, by simp only [ctr]; omega⟩
        simp at hs1
        unfold badLevel; simp [h2, hs1]
  · have := hk w1 e1
    rw [if_neg (by rw [badLevels_false fun j l hl => hm j l (by have := (List.getElem?_eq_some_iff.1 hl).1; omega) hl]; simp)] at this
    exact this
end
end Go.Proofs.YtdgffjkcpbolmaaGreatDoor.X
