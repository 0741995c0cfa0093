/-
  The program's texts, topics and filters: they compute what the reference computes. No condition.
-/
import Derived.Test.YtdgffjkcpbolmaaGreatDoorGTopic
import Derived.Test.YtdgffjkcpbolmaaGreatDoorRef5
namespace Go.Proofs.YtdgffjkcpbolmaaGreatDoor.X
open Go Go.RowKit Go.Proofs.YtdgffjkcpbolmaaGreatDoor.Fx
set_option maxRecDepth 100000
set_option linter.unusedVariables false
/-! ### range over a string -/
def It (w : World) (b : Nat) (s : ByteArray) (pos : Nat) : Prop := w.heap[b]? = some (.stringIter s pos)
section
variable {w : World} {k : Value → World → Prop} {s : ByteArray}
theorem range_ok (hk : ∀ w' b, Ext w w' → w.heap.size ≤ b → It w' b s 0 → k (.pointer (some ⟨b, 0, none⟩)) w') : XV P (Instr.range 9 (.string s)) w k := by
  rw [XV_eq (run_range_string w 9 s (strT_eq (StT.eq (P := P))))]
  exact hk _ _ (ext_alloc _ _) (Nat.le_refl _) (World.iter_heap w s 0)
theorem next_ok {b pos ty : Nat} (h : It w b s pos) (h1 : pos < s.size → ∀ w', It w' b s (pos + (Utf8.decode s pos).2) → Chg (· = b) w w' → k (.tuple #[.bool true, .int .i64 pos, .int .i32 (Utf8.decode s pos).1]) w')
    (h2 : ¬ pos < s.size → k (.tuple #[.bool false]) w) : XV P (Instr.next (.pointer (some ⟨b, 0, none⟩)) true ty) w k := by
  unfold It at h
  have hb : b < w.heap.size := blk_lt h
  by_cases hp : pos < s.size
  · have hr : (Instr.next (.pointer (some ⟨b, 0, none⟩)) true ty).run P w = .ok (.tuple #[.bool true, .int .i64 pos, .int .i32 (Utf8.decode s pos).1]) { w with heap := w.heap.setIfInBounds b (.stringIter s (pos + (Utf8.decode s pos).2)) } := by
      simp only [Instr.next, getObj, setObj, Sem.run_bind, Sem.run, h, Result.andThen, hp, if_true]
      simp [goInt]
    rw [XV_eq hr]
    refine h1 hp _ ?_ ⟨rfl, rfl, rfl, by simp, fun c hc hne => ?_⟩
    · unfold It; simp [hb]
    · simp [Array.getElem?_setIfInBounds_ne (fun e => hne e.symm)]
  · have hr : (Instr.next (.pointer (some ⟨b, 0, none⟩)) true ty).run P w = .ok (.tuple #[.bool false]) w := by
      simp [Instr.next, getObj, Sem.run, h, hp, Result.andThen]
    rw [XV_eq hr]
    exact h2 hp
theorem condW_t {A B : Prop} (h : A) : condW (.bool true) A B := h
theorem condW_f {A B : Prop} (h : B) : condW (.bool false) A B := h
theorem slice_str_to {h : Nat} (h2 : h ≤ s.size) (hk : k (.string (s.extract 0 h)) w) : XV P (Instr.sliceAt 9 (.string s) none (some (.int .i64 h)) none) w k := by
  have hu := strT_eq (StT.eq (P := P) (T := 9))
  have a2 : (0 : Int) ≤ (h : Int) ∧ (h : Int) ≤ s.size := by omega
  have : (Instr.sliceAt 9 (.string s) none (some (.int .i64 h)) none).run P w = .ok (.string (s.extract 0 h)) w := by
    simp [Instr.sliceAt, Instr.slice, run_underlying hu, Instr.sliceBounds, Instr.sliceBound, asIntOf, h2]
  rw [XV_eq this]; exact hk
def hasPre (s p : ByteArray) : Bool := decide (p.size ≤ s.size ∧ s.extract 0 p.size = p)
theorem hasPrefix_ok {p : ByteArray} (hk : k (.bool (hasPre s p)) w) : CallF P 204 #[.string s, .string p] w k := by
  refine c204 _ _ _ _ ?_
  unfold S204_0
  refine c211 _ _ _ _ ?_
  unfold S211_0
  refine lens_ok (lens_ok (geq_gd (fun h => ?_) fun h => ?_))
  · refine lens_ok (slice_str_to (by omega) ?_)
    rw [x_eqls]
    have : (ByteArray.toList (s.extract 0 p.size) == p.toList) = hasPre s p := by
      unfold hasPre
      rw [Bool.eq_iff_iff, bytes_eq, decide_eq_true_eq]
      exact ⟨fun e => ⟨by omega, e⟩, fun e => e.2⟩
    rw [this]; exact hk
  · have : hasPre s p = false := by unfold hasPre; rw [decide_eq_false_iff_not]; omega
    rw [this] at hk; exact hk
theorem byte_get {i : Nat} : byteAt s i = (s.data[i]?.getD 0).toNat := by
  by_cases h : i < s.size
  · rw [byteAt_eq h, Array.getElem?_eq_getElem (show i < s.data.size from h)]; rfl
  · unfold byteAt ByteArray.get!
    rw [Array.getElem?_eq_none (by have : s.data.size = s.size := rfl; omega)]
    have : s.data[i]! = default := by
      rw [getElem!_neg]; have : s.data.size = s.size := rfl; omega
    show (s.data[i]!).toNat = _
    rw [this]; rfl
theorem data3 {a : Array UInt8} {x y z : UInt8} : a.extract 0 3 = #[x, y, z] ↔ (a[0]? = some x ∧ a[1]? = some y ∧ a[2]? = some z) := by
  constructor
  · intro h
    have g : ∀ j, j < 3 → a[j]? = (#[x, y, z] : Array UInt8)[j]? := fun j hj => by
      rw [← h, Array.getElem?_extract]
      by_cases hja : j < a.size
      · rw [if_pos (by omega)]; simp
      · rw [if_neg (by omega), Array.getElem?_eq_none (by omega)]
    exact ⟨g 0 (by omega), g 1 (by omega), g 2 (by omega)⟩
  · rintro ⟨h0, h1, h2⟩
    have hs : 2 < a.size := (Array.getElem?_eq_some_iff.1 h2).1
    refine Array.ext_getElem? fun j => ?_
    rw [Array.getElem?_extract]
    by_cases hj : j < 3
    · rw [if_pos (by omega)]
      have : j = 0 ∨ j = 1 ∨ j = 2 := by omega
      rcases this with rfl | rfl | rfl
      · simpa using h0
      · simpa using h1
      · simpa using h2
    · rw [if_neg (by omega), Array.getElem?_eq_none (by simp; omega)]
theorem sign_pre {i : Nat} (hi : i < s.size) : hasPre (s.extract i s.size) ⟨#[239, 191, 189]⟩ = true ↔ signAt s i := by
  unfold hasPre signAt
  rw [decide_eq_true_eq]
  have h3 : (⟨#[239, 191, 189]⟩ : ByteArray).size = 3 := rfl
  have hd : s.data.size = s.size := rfl
  rw [h3, ByteArray.size_extract, ByteArray.ext_iff, ByteArray.data_extract, ByteArray.data_extract, data3]
  have hg : ∀ j, i + 2 < s.size → j < 3 → (s.data.extract i s.size)[j]? = s.data[i + j]? := fun j h hj => by
    rw [Array.getElem?_extract, if_pos (by omega)]
  have hb : ∀ (j : Nat) (c : UInt8), i + j < s.size → (s.data[i + j]? = some c ↔ byteAt s (i + j) = c.toNat) := fun j c h => by
    rw [byte_get, Array.getElem?_eq_getElem (by omega)]
    simp [UInt8.toNat_inj]
  constructor
  · rintro ⟨h, a0, a1, a2⟩
    have hl : i + 2 < s.size := by omega
    rw [hg 0 hl (by omega), hb 0 _ (by omega)] at a0
    rw [hg 1 hl (by omega), hb 1 _ (by omega)] at a1
    rw [hg 2 hl (by omega), hb 2 _ (by omega)] at a2
    exact ⟨hl, a0, a1, a2⟩
  · rintro ⟨hl, a0, a1, a2⟩
    refine ⟨by omega, ?_, ?_, ?_⟩
    · rw [hg 0 hl (by omega), hb 0 _ (by omega)]; exact a0
    · rw [hg 1 hl (by omega), hb 1 _ (by omega)]; exact a1
    · rw [hg 2 hl (by omega), hb 2 _ (by omega)]; exact a2
/-- wire.Check: a text, or none. -/
theorem wCheck_ok {w0 : World} (h0 : Ext w0 w) (hk : ∀ w' n e, Ext w0 w' → (e = 0 ↔ okText s = true) → k (.tuple #[.int .i64 n, .int .i64 e]) w') : CallF P 190 #[.string s] w k := by
  refine c190 _ _ _ ?_
  unfold S190_0 B190_0
  refine lens_ok (gtr_cond (fun h => ?_) fun h => ?_)
  · exact hk w _ _ h0 ⟨fun h => by omega, fun h1 => by have := okText_size h1; omega⟩
  have hok : okText s = okFrom s 0 := by unfold okText; rw [decide_eq_true (by omega)]; simp
  refine range_ok fun w1 b e1 hb hit => ?_
  unfold S190_1
  refine LoopP.of (fun t w' => ∃ i : Nat, t = (.string s, .pointer (some ⟨b, 0, none⟩)) ∧ Ext w0 w' ∧ It w' b s i ∧ okFrom s i = okFrom s 0) (fun _ w' => s.size - w'.iterPos b) ⟨0, rfl, h0.trans e1, hit, rfl⟩ ?_
  rintro _ w' ⟨i, rfl, he, hit, hf⟩
  have hpos : ∀ {w' : World} {j}, It w' b s j → w'.iterPos b = j := fun h => by unfold It at h; simp [World.iterPos, h]
  unfold S190_2
  refine next_ok hit (fun hlt w2 hit2 c2 => ?_) fun hge => ?_
  · have he2 : Ext w0 w2 := he.chg_new c2 fun j hj => by have := h0.size; omega
    have bad : ∀ e : Int, e ≠ 0 → stepAt s i = none → k (.tuple #[.int .i64 i, .int .i64 e]) w2 := fun e hne h => hk w2 _ _ he2 ⟨fun h => absurd h hne, fun h1 => by rw [hok, ← hf, okFrom_bad hlt h] at h1; cases h1⟩
    refine ext_ok rfl (condW_t (ext_ok rfl (ext_ok rfl ?_)))
    have hd := decode_step hlt
    have next : ∀ kk, stepAt s i = some kk → (Utf8.decode s i).2 = kk + 1 → (∃ j, (Value.string s, Value.pointer (some ⟨b, 0, none⟩)) = (Value.string s, Value.pointer (some ⟨b, 0, none⟩)) ∧ Ext w0 w2 ∧ It w2 b s j ∧ okFrom s j = okFrom s 0) ∧ s.size - w2.iterPos b < s.size - w'.iterPos b := fun kk h1 h2 => by
      refine ⟨⟨_, rfl, he2, hit2, ?_⟩, ?_⟩
      · rw [h2, ← Nat.add_assoc, ← okFrom_step hlt h1, hf]
      · rw [hpos hit2, hpos hit, h2]; omega
    refine eq_cond (fun hz => ?_) fun hz => ?_
    · rcases hd with ⟨h1, _⟩ | ⟨kk, h1, h2, h3, h4⟩
      · exact bad 14 (by omega) h1
      · omega
    refine eq_gd (fun hq => ?_) fun hq => ?_
    · refine slice_str_from (by omega) ?_
      refine hasPrefix_ok (not_cond (fun hp => ?_) fun hp => ?_)
      · rcases hd with ⟨h1, _⟩ | ⟨kk, h1, h2, h3, h4⟩
        · exact bad 13 (by omega) h1
        · have := (sign_pre hlt).2 (h4 (by omega)); rw [hp] at this; cases this
      · rcases hd with ⟨h1, h2 | h2⟩ | ⟨kk, h1, h2, h3, h4⟩
        · omega
        · exact absurd ((sign_pre hlt).1 hp) h2.2
        · exact next kk h1 h2
    · rcases hd with ⟨h1, h2 | h2⟩ | ⟨kk, h1, h2, h3, h4⟩
      · omega
      · omega
      · exact next kk h1 h2
  · refine ext_ok rfl (condW_f ?_)
    exact hk w' _ _ he ⟨fun _ => by rw [hok, ← hf, okFrom_end hge], fun _ => rfl⟩
end
end Go.Proofs.YtdgffjkcpbolmaaGreatDoor.X
