/-
  strings.ContainsAny at the signs of a filter. No condition.
-/
import Derived.Test.YtdgffjkcpbolmaaGreatDoorTopic
import Derived.Test.YtdgffjkcpbolmaaGreatDoorFxAgg
import Derived.Lib.Strings
import Derived.Lib.Slices
import Derived.Lib.Walk
import Derived.Lib.Bytealg
import Derived.Laws.Runes
namespace Go.Proofs.YtdgffjkcpbolmaaGreatDoor.X
open Go Go.RowKit Go.Proofs.YtdgffjkcpbolmaaGreatDoor.Fx
set_option maxRecDepth 100000
set_option linter.unusedVariables false
theorem slIndexByte_calls (s : ByteArray) (c : Int) (w : World) :
    Calls Tryz.prog 225 #[.string s, .int .u8 c] w fun e w' => e = .returned (.int .i64 (Lib.indexByte s.data.toList c.toNat.toUInt8)) ∧ w' = w := by
  go_enter Tryz.func225, Tryz.ntmps225
  go_wp2
  rw [run_callFunc_extern Tryz.func231 (by kernel_rfl) (by kernel_rfl) (by kernel_rfl) (e := Extern.BytealgIndexByte.indexByte) (by kernel_rfl), Lib.run_indexByteString]
  simp only [Result.andThen]
  rw [Oper.upon_value]
  go_wp2
  go_ret
  exact ⟨rfl, rfl⟩
section
variable {w : World} {k : Value → World → Prop} {s : ByteArray}
theorem idxByte_ok {c : Int} (hk : k (.int .i64 (Lib.indexByte s.data.toList c.toNat.toUInt8)) w) : CallF P 217 #[.string s, .int .u8 c] w k := by
  refine c217 _ _ _ _ ?_
  unfold S217_0
  refine ⟨by kernel_rfl, (slIndexByte_calls s c w).mono ?_⟩
  rintro e w' ⟨rfl, rfl⟩
  exact hk
def signs : ByteArray := ⟨#[43, 35]⟩
theorem idxSigns {b : UInt8} : 0 ≤ Lib.indexByte signs.data.toList b ↔ (b.toNat = 43 ∨ b.toNat = 35) := by
  have hl : signs.data.toList = [43, 35] := rfl
  rw [hl]
  unfold Lib.indexByte Lib.indexByte Lib.indexByte
  by_cases h1 : (43 : UInt8) = b
  · subst h1; simp
  · have h1' : ¬ b.toNat = 43 := fun e => h1 (UInt8.toNat_inj.1 e.symm)
    by_cases h2 : (35 : UInt8) = b
    · subst h2; simp
    · have h2' : ¬ b.toNat = 35 := fun e => h2 (UInt8.toNat_inj.1 e.symm)
      simp [h1, h2, h1', h2']
theorem validRune_ok {c : Int} (h0 : 0 ≤ c) (hk : k (.bool (Utf8.valid c)) w) : CallF P 218 #[.int .i32 c] w k := by
  refine c218 _ _ _ ?_
  unfold S218_0 B218_0
  have hv : Utf8.valid c = decide (c < 55296 ∨ (57343 < c ∧ c ≤ 1114111)) := by
    rw [validRune_eq]; unfold validRune; rw [decide_eq_decide]; omega
  rw [hv] at hk
  clear hv
  have t1 : ∀ x : Bool, (x = true ↔ c < 55296) → S218_1 (.int .i32 c) (.bool x) w k := fun x hx => by
    unfold S218_1
    refine condW_b (fun h => ?_) fun h => ?_
    · rw [decide_eq_true (.inl (hx.1 h))] at hk; exact hk
    · have h1 : ¬ c < 55296 := fun q => by rw [hx.2 q] at h; cases h
      refine lt_gd (fun h2 => leq_cond (fun h3 => ?_) fun h3 => ?_) fun h2 => ?_
      · rw [decide_eq_true (by omega)] at hk; exact hk
      · rw [decide_eq_false (by omega)] at hk; exact hk
      · rw [decide_eq_false (by omega)] at hk; exact hk
  rw [x_leq]
  refine gd_dec (fun _ => ?_) fun h => by omega
  rw [x_lss]
  exact t1 _ (by simp)
theorem idxRune_ok {c : Int} (h0 : 0 ≤ c) (hk : ∀ w' r, Ext w w' → (0 ≤ r ↔ (c = 43 ∨ c = 35)) → k (.int .i64 r) w') : CallF P 212 #[.string signs, .int .i32 c] w k := by
  refine c212 _ _ _ _ ?_
  unfold S212_0 B212_0
  rw [x_leq]
  refine gd_dec (fun _ => ?_) fun h => by omega
  rw [x_lss]
  unfold S212_3 B212_3
  refine condW_dec (fun h => ?_) fun h => ?_
  · -- one byte
    rw [XV_eq (run_convert_int (P := P) w 21 5 .i32 c (by kernel_rfl) (by kernel_rfl))]
    have hw : (P.intKind 5).wrap c = c := by
      have : P.intKind 5 = .u8 := by kernel_rfl
      rw [this]
      unfold IntKind.wrap
      simp [IntKind.bits, IntKind.signed]
      omega
    have hkd : P.intKind 5 = .u8 := by kernel_rfl
    rw [hw, hkd]
    refine idxByte_ok (hk _ _ (Ext.refl _) ?_)
    rw [idxSigns]
    simp
    omega
  refine eq_cond (fun h1 => ?_) fun h1 => ?_
  · -- the replacement sign
    refine range_ok fun w1 b e1 hb hit => ?_
    unfold S212_1
    refine LoopP.of (fun t w' => ∃ i : Nat, t = .pointer (some ⟨b, 0, none⟩) ∧ Ext w w' ∧ It w' b signs i) (fun _ w' => 2 - w'.iterPos b) ⟨0, rfl, e1, hit⟩ ?_
    rintro _ w' ⟨i, rfl, he, hit⟩
    have hpos : ∀ {w' : World} {j}, It w' b signs j → w'.iterPos b = j := fun h => by unfold It at h; simp [World.iterPos, h]
    unfold S212_4
    refine next_ok hit (fun hlt w2 hit2 c2 => ?_) fun hge => ?_
    · have hlt2 : i < 2 := hlt
      refine ext_ok rfl (condW_t (ext_ok rfl (ext_ok rfl ?_)))
      have hd : (Utf8.decode signs i).1 ≠ 65533 ∧ (Utf8.decode signs i).2 = 1 := by
        have : i = 0 ∨ i = 1 := by omega
        rcases this with rfl | rfl
        · decide
        · decide
      refine eq_cond (fun h2 => absurd h2 (by omega)) fun h2 => ?_
      refine ⟨⟨_, rfl, he.chg_new c2 fun j hj => by omega, hit2⟩, ?_⟩
      rw [hpos hit2, hpos hit, hd.2]; omega
    · exact ext_ok rfl (condW_f (hk _ _ he (by omega)))
  have neg : (0 ≤ (-1 : Int) ↔ (c = 43 ∨ c = 35)) := by omega
  refine validRune_ok h0 (not_cond (fun h2 => hk _ _ (Ext.refl _) neg) fun h2 => ?_)
  -- more than one byte
  rw [XV_eq (run_convert_int_string (P := P) w 21 9 .i32 c (by kernel_rfl) (by kernel_rfl))]
  have h128 : (128 : Int) ≤ c := by clear h2; omega
  obtain ⟨f1, f2, f3⟩ := encode_facts c h2 h128
  clear h2
  generalize Utf8.encode c = rs at f1 f2 f3 ⊢
  refine lens_ok ?_
  rw [x_sub, wrap_id (by omega) (by omega), show (rs.size : Int) - 1 = ((rs.size - 1 : Nat) : Int) by omega]
  unfold S212_2
  refine LoopP.of (fun t w' => t = (.string signs, .string rs, .int .i64 ((rs.size - 1 : Nat) : Int), .int .i64 ((rs.size - 1 : Nat) : Int)) ∧ w = w') (fun _ _ => 0) ⟨rfl, rfl⟩ ?_
  rintro _ _ ⟨rfl, rfl⟩
  unfold S212_5 B212_5
  refine lens_ok (lt_cond (fun hlt => ?_) fun hge => hk _ _ (Ext.refl _) neg)
  have hsz : signs.size = 2 := rfl
  rw [hsz] at hlt
  have hr : rs.size - 1 = 1 := by omega
  have hrs : 1 < rs.size := by omega
  have hlast : 128 ≤ (rs[1]'hrs).toNat := by
    have := f3 (by omega)
    simp only [hr] at this
    exact this
  have h35 : (signs[1]'(by decide)).toNat = 35 := by decide
  rw [hr]
  refine XS_of (fun u => run_index_str (i := 1) StT.eq (show 1 < signs.size by decide)) ?_
  refine XS_of (fun u => run_index_str (i := 1) StT.eq hrs) ?_
  refine s_ne_cond (fun _ => ?_) fun he => by rw [h35] at he; omega
  refine s_add ?_
  rw [wrap_id (by decide) (by decide)]
  refine XS_of (v := .string (signs.extract 2 2)) (fun u => by
    have hu := strT_eq (StT.eq (P := P) (T := 9))
    simp [Instr.sliceAt, Instr.slice, run_underlying hu, Instr.sliceBounds, Instr.sliceBound, asIntOf, hsz]) ?_
  refine XS_of (fun u => run_index_str (i := 1) StT.eq hrs) ?_
  have hnone : Lib.indexByte (signs.extract 2 2).data.toList (((rs[1]'hrs).toNat : Int)).toNat.toUInt8 = -1 := by
    have : (signs.extract 2 2).data.toList = [] := by decide
    rw [this]; rfl
  refine idxByte_ok ?_
  rw [hnone]
  refine ⟨Ext.refl _, ?_⟩
  rw [x_lss]
  exact condW_t (hk _ _ (ext_drew _ |>.drew) neg)
theorem eqs_cond {T : TypeId} {c : Bool} {t u : ByteArray} {A B : World → Prop} (h1 : t = u → A w) (h2 : t ≠ u → B w) : XV P (binS .eql T c (.string t) (.string u)) w fun v w => condW v (A w) (B w) := by
  rw [x_eqls]; exact condW_b (fun h => h1 (bytes_eq.1 h)) (fun h => h2 (fun e => by rw [bytes_eq.2 e] at h; cases h))
theorem run_indexArr {T E n sz b o i : Nat} {K : IntKind} (hu : P.underlying T = some (.array n E)) (hs : szT P E = some sz) (hi : i < n) : (Instr.indexAt T (.pointer (some ⟨b, o, none⟩)) (.int K i)).run P w = .ok (.pointer (some ⟨b, o + i * sz, none⟩)) w := by
  unfold szT at hs
  cases hq : P.info? E with
  | none => simp [hq] at hs
  | some q =>
    simp [hq] at hs
    have h1 : (0 : Int) ≤ (i : Int) ∧ (i : Int) < n := by omega
    simp [Instr.indexAt, run_underlying hu, Instr.sureAddr, asIntOf, h1, sizeOf, typeInfo, hq, hs, add_at]
    intro hle
    exfalso
    omega
/-- The set of the signs. -/
def setAt : Nat → List Value
  | 0 => List.replicate 256 (.bool false)
  | 1 => (List.replicate 256 (Value.bool false)).set 43 (.bool true)
  | _ => ((List.replicate 256 (Value.bool false)).set 43 (.bool true)).set 35 (.bool true)
theorem setAt_len (i : Nat) : (setAt i).length = 256 := by unfold setAt; split <;> simp
theorem setAt_get {c : Nat} (hc : c < 256) : (setAt 2)[c]? = some (.bool (isSign c)) := by
  show (((List.replicate 256 (Value.bool false)).set 43 (.bool true)).set 35 (.bool true))[c]? = _
  unfold isSign
  by_cases h1 : c = 35
  · subst h1; simp
  · by_cases h2 : c = 43
    · subst h2; simp
    · rw [List.getElem?_set_ne (by omega), List.getElem?_set_ne (by omega), List.getElem?_replicate, if_pos hc]
      simp [h1, h2]
theorem setAt_one (i : Nat) : (setAt i).all oneCell = true := by
  unfold setAt
  split <;> decide
theorem makeSet_ok (hk : ∀ w', Ext w w' → k (.tuple #[.agg (setAt 2).toArray, .bool true]) w') : CallF P 214 #[.string signs] w k := by
  refine c214 _ _ _ ?_
  unfold S214_0 B214_0
  refine alloc_ok (T := 198) (zs := setAt 0) (by kernel_rfl) fun w1 b e1 n1 k1 z1 => ?_
  unfold S214_1
  refine LoopP.of (fun t w' => ∃ i : Nat, i ≤ 2 ∧ t = (.string signs, .pointer (some ⟨b, 0, none⟩), .int .i64 i) ∧ Ext w w' ∧ Blk w' b (setAt i) 198) (fun t _ => 2 - ctr t.2.2) ⟨0, by omega, rfl, e1, k1⟩ ?_
  rintro _ w2 ⟨i, hi, rfl, e2, k2⟩
  unfold S214_2
  refine lens_ok (lt_cond (fun hlt => ?_) fun hge => ?_)
  · have hlt : i < 2 := by have : signs.size = 2 := rfl; omega
    have hb : (i = 0 ∧ byteAt signs i = 43) ∨ (i = 1 ∧ byteAt signs i = 35) := by
      have : i = 0 ∨ i = 1 := by omega
      rcases this with rfl | rfl
      · exact .inl ⟨rfl, by decide⟩
      · exact .inr ⟨rfl, by decide⟩
    refine idx_str (show i < signs.size from hlt) ?_
    refine geq_cond (fun h => by omega) fun h => ?_
    rw [XV_eq (run_indexArr (n := 256) (E := 4) (sz := 1) (by kernel_rfl) (by kernel_rfl) (by omega))]
    have hc : w2.cell? ⟨b, 0 + byteAt signs i * 1, none⟩ = (setAt i)[byteAt signs i]? := by rw [k2.cell]; simp
    have hin : byteAt signs i < (setAt i).length := by rw [setAt_len]; omega
    rw [List.getElem?_eq_getElem hin] at hc
    rw [XU_eq (run_storeAt OT.eq rfl hc (k2.free _))]
    refine add1_ok (by omega) ⟨⟨i + 1, by omega, rfl, e2.chg_new (chg_set w2 b _ _) fun j hj => by omega, ?_⟩, by simp only [ctr]; omega⟩
    have := k2.set (0 + byteAt signs i * 1) (.bool true)
    rcases hb with ⟨rfl, h⟩ | ⟨rfl, h⟩
    · rw [h] at this ⊢; exact this
    · rw [h] at this ⊢; exact this
  · obtain rfl : i = 2 := by have : signs.size = 2 := rfl; omega
    refine load_blkA k2 (T := 198) (setAt_len 2) ?_
    refine store_blkA (T := 198) k2 (setAt_len 2) (setAt_len 2) (setAt_one 2) fun w3 k3 c3 z3 => ?_
    exact ret_blkA k3 (setAt_len 2) (hk _ (e2.chg_new c3 fun j hj => by omega))
theorem contains_ok {b c : Nat} (hc : c < 256) (hb : Blk w b (setAt 2) 198) (hk : k (.bool (isSign c)) w) : CallF P 215 #[.pointer (some ⟨b, 0, none⟩), .int .u8 c] w k := by
  refine c215 _ _ _ _ ?_
  unfold S215_0
  rw [x_nil]
  unfold LI
  rw [XV_eq (run_indexArr (n := 256) (E := 4) (sz := 1) (by kernel_rfl) (by kernel_rfl) hc), XV_eq (run_loadAt PT.eq (by rw [hb.cell, show 0 + c * 1 = c by omega]; exact setAt_get hc))]
  exact hk
theorem hasSign_of {i : Nat} (h : ∀ m, m < i → isSign (byteAt s m) = false) (hi : ¬ i < s.size) : hasSign s = false := hasSign_false fun m hm => h m (by omega)
theorem isSign_high {b : Nat} (h : 128 ≤ b) : isSign b = false := by unfold isSign; simp; omega
theorem idxAny_short (hs : s.size ≤ 8) (hk : ∀ w' r, Ext w w' → (0 ≤ r ↔ hasSign s = true) → k (.int .i64 r) w') : S205_3 (.string s) (.string signs) w k := by
  unfold S205_3 B205_3
  refine range_ok fun w1 b e1 hb hit => ?_
  unfold S205_2
  have hpos : ∀ {w' : World} {j}, It w' b s j → w'.iterPos b = j := fun h => by unfold It at h; simp [World.iterPos, h]
  refine LoopP.of (fun t w' => ∃ i : Nat, t = (.string signs, .pointer (some ⟨b, 0, none⟩)) ∧ Ext w w' ∧ It w' b s i ∧ ∀ m, m < i → isSign (byteAt s m) = false) (fun _ w' => s.size - w'.iterPos b) ⟨0, rfl, e1, hit, fun m h => by omega⟩ ?_
  rintro _ w' ⟨i, rfl, he, hit, hm⟩
  unfold S205_5
  refine next_ok hit (fun hlt w2 hit2 c2 => ?_) fun hge => ?_
  · refine ext_ok rfl (condW_t (ext_ok rfl (ext_ok rfl ?_)))
    have he2 : Ext w w2 := he.chg_new c2 fun j hj => by omega
    have hd := decode_cases hlt
    generalize hcc : ((Utf8.decode s i).1 : Int) = c
    refine idxRune_ok (by omega) fun w3 r e3 hr => ?_
    refine geq_cond (fun h => hk w3 _ (he2.trans e3) ?_) fun h => ?_
    · have hc := hr.1 h
      rcases hd with ⟨d1, d2, d3⟩ | ⟨d1, d2, _⟩
      · exact ⟨fun _ => hasSign_true hlt (by unfold isSign; simp; omega), fun _ => by omega⟩
      · omega
    · have hc : ¬ (c = 43 ∨ c = 35) := fun q => by have := hr.2 q; omega
      have hit3 : It w3 b s (i + (Utf8.decode s i).2) := e3.blk hit2
      refine ⟨⟨_, rfl, he2.trans e3, hit3, fun m h => ?_⟩, ?_⟩
      · by_cases hmi : m < i
        · exact hm m hmi
        · rcases hd with ⟨d1, d2, d3⟩ | ⟨d1, d2, d3, d4, d5⟩
          · obtain rfl : m = i := by omega
            unfold isSign; simp; omega
          · exact isSign_high (d5 m (by omega) h)
      · rw [hpos hit3, hpos hit]
        rcases hd with ⟨_, _, d3⟩ | ⟨_, _, d3, _⟩ <;> omega
  · refine ext_ok rfl (condW_f (hk _ _ he ?_))
    rw [hasSign_of hm hge]; simp
theorem idxAny_ok (hs : s.size ≤ 9223372036854775807) (hk : ∀ w' r, Ext w w' → (0 ≤ r ↔ hasSign s = true) → k (.int .i64 r) w') : CallF P 205 #[.string s, .string signs] w k := by
  refine c205 _ _ _ _ ?_
  unfold S205_0 B205_0
  refine eqs_cond (fun h => absurd h (by decide)) fun _ => ?_
  refine lens_ok (eq_cond (fun h => absurd h (by decide)) fun _ => ?_)
  refine lens_ok ?_
  refine c213 _ _ _ ?_
  unfold S213_0
  rw [x_gtr]
  refine condW_dec (fun h8 => ?_) fun h8 => idxAny_short (by omega) hk
  refine makeSet_ok fun w1 e1 => ?_
  refine ext_ok rfl (ext_ok rfl ?_)
  refine alloc_ok (T := 198) (zs := setAt 0) (by kernel_rfl) fun w2 b e2 n2 k2 z2 => ?_
  refine store_blkA (T := 198) k2 (setAt_len 2) (setAt_len 0) (setAt_one 2) fun w3 k3 c3 z3 => ?_
  refine condW_t ?_
  have he : Ext w w3 := e1.trans (e2.chg_new c3 fun j hj => by omega)
  unfold S205_1
  refine LoopP.of (fun t w' => ∃ i : Nat, t = (.string s, .pointer (some ⟨b, 0, none⟩), .int .i64 i) ∧ w3 = w' ∧ i ≤ s.size ∧ ∀ m, m < i → isSign (byteAt s m) = false) (fun t _ => s.size - ctr t.2.2) ⟨0, rfl, rfl, Nat.zero_le _, fun m h => by omega⟩ ?_
  rintro _ _ ⟨i, rfl, rfl, hi, hm⟩
  unfold S205_4
  refine lens_ok (lt_cond (fun hlt => ?_) fun hge => hk _ _ he ?_)
  · have hlt : i < s.size := by omega
    refine idx_str hlt (contains_ok (byteAt_lt s i) k3 (condW_b (fun h => hk _ _ he ⟨fun _ => hasSign_true hlt h, fun _ => by omega⟩) fun h => ?_))
    refine add1_ok (by omega) ⟨⟨i + 1, rfl, rfl, by omega, fun m h' => ?_⟩, by simp only [ctr]; omega⟩
    by_cases hmi : m = i
    · subst hmi; exact h
    · exact hm m (by omega)
  · rw [hasSign_of hm (by omega)]; simp
theorem containsAny_ok (hs : s.size ≤ 9223372036854775807) (hk : ∀ w', Ext w w' → k (.bool (hasSign s)) w') : CallF P 192 #[.string s, .string signs] w k := by
  refine c192 _ _ _ _ ?_
  unfold S192_0
  refine idxAny_ok hs fun w' r e hr => ?_
  rw [x_geq]
  have : decide (r ≥ 0) = hasSign s := by rw [Bool.eq_iff_iff, decide_eq_true_eq]; exact hr
  rw [this]
  exact hk _ e
end
end Go.Proofs.YtdgffjkcpbolmaaGreatDoor.X
