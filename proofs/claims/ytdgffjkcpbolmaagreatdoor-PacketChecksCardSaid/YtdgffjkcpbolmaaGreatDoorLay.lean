/-
  The room lays down a list: what the four lay functions do. No condition.
-/
import Derived.Test.YtdgffjkcpbolmaaGreatDoorRoom
namespace Go.Proofs.YtdgffjkcpbolmaaGreatDoor.X
open Go Go.RowKit Go.Proofs.YtdgffjkcpbolmaaGreatDoor.Fx
set_option maxRecDepth 100000
set_option linter.unusedVariables false

theorem run_slice3 {P : Program} {w : World} {T E n cap i j : Nat} {a : Option Addr} [h : SlT P T E] {sz : Nat} [hs : SzT P E sz] (hi : i ≤ j) (hj : j ≤ cap) :
    (Instr.sliceAt T (.slice a n cap) none (some (.int .i64 i)) (some (.int .i64 j))).run P w = .ok (.slice a i j) w := by
  have hu := sliceT_eq (SlT.eq (P := P) (T := T) (E := E))
  have hz := hs.eq
  unfold szT at hz
  cases hq : P.info? E with
  | none => simp [hq] at hz
  | some q =>
    simp [hq] at hz
    have h1 : (0 : Int) ≤ (i : Int) ∧ (i : Int) ≤ j := by omega
    have h2 : (0 : Int) ≤ (j : Int) ∧ (j : Int) ≤ cap := by omega
    have e0 : ∀ a : Addr, a.add 0 = a := fun _ => rfl
    cases a <;> simp [Instr.sliceAt, Instr.slice, run_underlying hu, Instr.sliceBounds, Instr.sliceBound, asIntOf, sizeOf, typeInfo, hq, hi, hj, e0]

/-- How rows go on. -/
structure LayS (w w' : World) (r : Nat) (cs : List Value) (F : Nat → Prop) (cs' : List Value) (F' : Nat → Prop) : Prop where
  chg : Chg (rows r cs) w w'
  grow : ∀ c, rows r cs' c → rows r cs c ∨ w.heap.size ≤ c
  growF : ∀ c, F' c → F c ∨ w.heap.size ≤ c
theorem LayS.refl (w : World) (r : Nat) (cs : List Value) (F : Nat → Prop) : LayS w w r cs F cs F := ⟨Chg.refl _ _, fun _ h => .inl h, fun _ h => .inl h⟩
theorem LayS.trans {a b c : World} {r : Nat} {x y z : List Value} {F G H : Nat → Prop} (h : LayS a b r x F y G) (k : LayS b c r y G z H) : LayS a c r x F z H :=
  ⟨h.chg.chg_new k.chg fun i hi hl => (h.grow i hi).elim id fun hg => by omega, fun i hi => (k.grow i hi).elim (fun hy => h.grow i hy) fun hg => .inr (Nat.le_trans h.chg.size hg),
    fun i hi => (k.growF i hi).elim (fun hy => h.growF i hy) fun hg => .inr (Nat.le_trans h.chg.size hg)⟩
theorem LayS.ext {a b : World} {r : Nat} {x : List Value} {F : Nat → Prop} (h : Ext a b) : LayS a b r x F x F := ⟨h.chg _, fun _ h => .inl h, fun _ h => .inl h⟩
/-- A list that was lent, in no row of the room. -/
def Lent {α : Type} (E : Kn α) [Flat E] (w : World) (r : Nat) (cs : List Value) (v : Value) (xs : List α) : Prop := ∃ b, SlB E w b v xs ∧ b < w.heap.size ∧ ¬ rows r cs b
theorem Lent.sl {α : Type} {E : Kn α} [Flat E] {w : World} {r : Nat} {cs : List Value} {v : Value} {xs : List α} (h : Lent E w r cs v xs) : Sl E w v xs := h.elim fun _ h => h.1.sl
theorem Lent.lay {α : Type} {E : Kn α} [Flat E] {w w' : World} {r : Nat} {cs cs' : List Value} {F F' : Nat → Prop} {v : Value} {xs : List α} (h : Lent E w r cs v xs) (l : LayS w w' r cs F cs' F') : Lent E w' r cs' v xs := by
  obtain ⟨b, h1, h2, h3⟩ := h
  exact ⟨b, h1.chg l.chg h3, Nat.lt_of_lt_of_le h2 l.chg.size, fun hr => (l.grow b hr).elim h3 fun hg => by omega⟩

/-! ### the shape of the four -/
section
variable (T TT A f g : Nat) (S : Nat) (mk : Value → World → (Value → World → Prop) → Prop)
def GL2 (x0 x1 x2 x7 x8 : Value) (w : World) (K1 : Value → Value → Value → Value → Value → World → Prop) (R : Value → World → Prop) : Prop :=
 XV P (binS .lss 3 false x8 x2) w fun v15 w1 =>
 condW v15 (
  mk x8 w1 fun v22 w4 =>
  XV P (Builtin.append_ #[T, T] T #[x7, v22]) w4 fun v23 w5 =>
  XV P (binS .add 3 true x8 (.int .i64 1)) w5 fun v17 w6 =>
  K1 x0 x1 x2 v23 v17 w6) (
  LF P S TT f x0 w1 fun v28 w9 =>
  XV P (Instr.buildSlice TT 1 #[(0, x7)]) w9 fun v30 w10 =>
  XV P (Builtin.append_ #[TT, TT] TT #[v28, v30]) w10 fun v31 w11 =>
  SF P S TT f x0 v31 w11 fun w14 =>
  LF P S 26 g x0 w14 fun v38 w17 =>
  XV P (Builtin.len_ #[T] 3 #[x1]) w17 fun v40 w18 =>
  XV P (Instr.buildSlice 26 1 #[(0, v40)]) w18 fun v41 w19 =>
  XV P (Builtin.append_ #[26, 26] 26 #[v38, v41]) w19 fun v42 w20 =>
  SF P S 26 g x0 v42 w20 fun w23 =>
  XV P (Builtin.len_ #[T] 3 #[x1]) w23 fun v47 w24 =>
  XV P (Builtin.len_ #[T] 3 #[x7]) w24 fun v49 w25 =>
  XV P (Instr.sliceAt T x7 none (some v47) (some v49)) w25 fun v50 w26 =>
  R v50 w26)
def GL0 (x0 x1 x2 : Value) (w : World) (R : Value → World → Prop) : Prop :=
 XV P (Instr.buildSlice T 0 #[]) w fun v9 w1 =>
 XV P (Builtin.append_ #[T, T] T #[v9, x1]) w1 fun v12 w2 =>
 LoopP (fun (s : Value × Value × Value × Value × Value) w K => GL2 T TT f g S mk s.1 s.2.1 s.2.2.1 s.2.2.2.1 s.2.2.2.2 w (fun x0 x1 x2 x7 x8 w => K (x0, x1, x2, x7, x8) w) R) (x0, x1, x2, v12, .int .i64 0) w2
end
/-- n marks. -/
def marks (K : RK) : Nat → List Value
  | 0 => []
  | n + 1 => marks K n ++ K.mark n
structure RKOK (K : RK) : Prop where
  len : ∀ i, (K.mark i).length = K.sz
  one : ∀ i, ∀ u ∈ K.mark i, oneCell u = true
theorem marks_len {K : RK} (h : RKOK K) (n : Nat) : (marks K n).length = n * K.sz := by
  induction n with
  | zero => simp [marks]
  | succ n ih => simp only [marks, List.length_append, ih, h.len, Nat.add_mul]; omega
theorem marks_get {K : RK} (h : RKOK K) : ∀ (n i j : Nat) (u : Value), i < n → (K.mark i)[j]? = some u → (marks K n)[i * K.sz + j]? = some u := by
  intro n
  induction n with
  | zero => intro i j u h1; omega
  | succ n ih =>
    intro i j u hi hu
    have hl := marks_len h n
    have hj : j < K.sz := by rw [← h.len i]; exact (List.getElem?_eq_some_iff.1 hu).1
    simp only [marks]
    by_cases hin : i < n
    · rw [List.getElem?_append_left]
      · exact ih i j u hin hu
      · rw [hl]
        have : (i + 1) * K.sz ≤ n * K.sz := Nat.mul_le_mul_right _ hin
        rw [Nat.add_mul] at this; omega
    · obtain rfl : i = n := by omega
      rw [List.getElem?_append_right (by omega), hl, show i * K.sz + j - i * K.sz = j by omega]
      exact hu
theorem kinds_ok {j : Nat} {K : RK} (h : kinds[j]? = some K) : RKOK K := by
  have : j < 4 := (List.getElem?_eq_some_iff.1 h).1
  match j, h with
  | 0, h => cases h; exact ⟨fun i => rfl, fun i u hu => by simp at hu; rw [hu]; rfl⟩
  | 1, h => cases h; exact ⟨fun i => rfl, fun i u hu => by simp at hu; rw [hu]; rfl⟩
  | 2, h => cases h; exact ⟨fun i => rfl, fun i u hu => by simp at hu; rw [hu]; rfl⟩
  | 3, h => cases h; exact ⟨fun i => rfl, fun i u hu => by simp at hu; rcases hu with hu | hu <;> rw [hu] <;> rfl⟩
  | j + 4, _ => omega
theorem rows_set {w : World} {r j : Nat} {cs : List Value} {v a v' a' : Value} (hv : cs[2 * j]? = some v) (ha : cs[2 * j + 1]? = some a) (s1 : SameOrNew w v v') (s2 : SameOrNew w a a') {b : Nat}
    (h : rows r ((cs.set (2 * j) v').set (2 * j + 1) a') b) : rows r cs b ∨ w.heap.size ≤ b := by
  have hj1 : 2 * j < cs.length := (List.getElem?_eq_some_iff.1 hv).1
  have hj2 : 2 * j + 1 < cs.length := (List.getElem?_eq_some_iff.1 ha).1
  rcases h with rfl | ⟨i, u, hi, hu⟩
  · exact .inl (.inl rfl)
  · by_cases h1 : i = 2 * j
    · subst h1
      rw [List.getElem?_set_ne (by omega), List.getElem?_set_self hj1] at hi; obtain rfl := Option.some.inj hi
      rcases s1 with e | ⟨g, hg, hge⟩
      · exact .inl (.inr ⟨_, v, hv, by rw [← e]; exact hu⟩)
      · rw [hg] at hu; obtain rfl := Option.some.inj hu; exact .inr hge
    · by_cases h2 : i = 2 * j + 1
      · subst h2
        rw [List.getElem?_set_self (by simpa using hj2)] at hi; obtain rfl := Option.some.inj hi
        rcases s2 with e | ⟨g, hg, hge⟩
        · exact .inl (.inr ⟨_, a, ha, by rw [← e]; exact hu⟩)
        · rw [hg] at hu; obtain rfl := Option.some.inj hu; exact .inr hge
      · rw [List.getElem?_set_ne (by omega), List.getElem?_set_ne (by omega)] at hi; exact .inl (.inr ⟨i, u, hi, hu⟩)
theorem Own_one {w : World} {E sz n : Nat} {v : Value} {xs : List Value} (h : Own w E sz v n xs) : oneCell v = true := by obtain ⟨a, c, rfl⟩ := h.shape; rfl
theorem lay_ok {T TT f g S j bytes : Nat} {mk : Value → World → (Value → World → Prop) → Prop} {K : RK} {α : Type} {E : Kn α} [Flat E] {w w0 : World} {r L N : Nat} {cs : List Value} {F : Nat → Prop} {v : Value} {xs : List α} {k : Value → World → Prop}
    [ApT P T K.E K.sz bytes] [SlT P T K.E] [SzT P K.E K.sz] [ApT P TT T 1 24] [FO P S f (2 * j)] [FO P S g (2 * j + 1)] [PT P TT] [OT P TT] [PT P 26] [OT P 26] [ApT P 26 3 1 8]
    (hK : kinds[j]? = some K) (hT : T = K.S) (hE : K.sz = E.sz) (hI : RoomInv w r cs F L) (hv : Sl E w0 v xs) (h0 : Ext w0 w) (hN : N ≤ 1000000) (hx : xs.length ≤ 1000000) (hb8 : bytes ≤ 1000) (hL : L ≤ 1000000000)
    (hmk : ∀ i w k, i ≤ 1000000 → (∀ w' b c, Ext w w' → (∀ j u, (K.mark i)[j]? = some u → w'.cell? ⟨b, j, none⟩ = some u) → k (.slice (some ⟨b, 0, none⟩) 1 c) w') → mk (.int .i64 i) w k)
    (hk : ∀ v' w' cs' F' b, LayS w w' r cs F cs' F' → RoomInv w' r cs' F' (L + 1) → SlB E w' b v' xs → b < w'.heap.size → w.heap.size ≤ b → ¬ rows r cs' b → k v' w') :
    GL0 T TT f g S mk (.pointer (some ⟨r, 0, none⟩)) v (.int .i64 N) w k := by
  have hOK := kinds_ok hK
  unfold GL0
  rw [XV_eq run_buildSlice0]
  have hnew : Own (w.alloc (.cells #[] K.E)) K.E K.sz (.slice (some ⟨w.heap.size, 0, none⟩) 0 0) 0 [] := World.ownsRow_lit (base := 0) w #[] 0 (Nat.zero_le _) (by unfold maxLen; omega) (by simp)
  refine appendL_ok (E := E) (ys := xs) hE hnew hv (h0.alloc _) (by omega) ?_ fun v1 w1 ho1 hc1 hs1 _ => ?_
  · have := Nat.mul_le_mul (show 0 + xs.length ≤ 1000000 by omega) hb8
    omega
  have hext1 : Ext w w1 := (ext_alloc w _).chg_new hc1 fun i hi => by injection hi with hi; exact Nat.le_of_eq hi
  have hb1 : ∃ b, v1.ownBlock = some b ∧ w.heap.size ≤ b := by
    rcases hs1 with e | ⟨g, hg, hge⟩
    · exact ⟨w.heap.size, by rw [e]; rfl, Nat.le_refl _⟩
    · exact ⟨g, hg, Nat.le_trans (by simp) hge⟩
  refine LoopP.of (fun s wc => ∃ i x7, i ≤ N ∧ s = (.pointer (some ⟨r, 0, none⟩), v, .int .i64 N, x7, .int .i64 i) ∧ Ext w wc ∧ Own wc K.E K.sz x7 (xs.length + i) (encs E xs ++ marks K i) ∧ ∃ b, x7.ownBlock = some b ∧ w.heap.size ≤ b)
    (fun s _ => N - ctr s.2.2.2.2) ⟨0, v1, Nat.zero_le _, rfl, hext1, by simpa [marks] using ho1, hb1⟩ ?_
  rintro s wc ⟨i, x7, hi, rfl, he, ho, b7, hb7, hlt7⟩
  unfold GL2
  refine lt_cond (fun hlt => ?_) (fun hge => ?_)
  · refine hmk i wc _ (by omega) fun w2 b c he2 hcell => ?_
    refine append_ok (sz := K.sz) (n := xs.length + i) (m := 1) (ho.ext he2) (news := K.mark i) (by rw [hOK.len]; omega) (by simpa using hcell) (hOK.one i) (by omega) ?_ fun v2 w3 ho2 hc2 hs2 => ?_
    · have := Nat.mul_le_mul (show xs.length + i + 1 ≤ 2000000 by omega) hb8
      omega
    simp only [go_sem]
    rw [wrap_id (by omega) (by omega)]
    refine ⟨⟨i + 1, v2, by omega, by simp, (he.trans he2).chg_new hc2 fun q hq => ?_, ?_, ?_⟩, ?_⟩
    · rw [hb7] at hq; injection hq with hq; omega
    · simpa [marks, Nat.add_assoc] using ho2
    · rcases hs2 with e | ⟨g, hg, hge⟩
      · exact ⟨b7, by rw [e, hb7], hlt7⟩
      · exact ⟨g, hg, Nat.le_trans he.size (Nat.le_trans he2.size hge)⟩
    · simp only [ctr]; omega
  · obtain rfl : i = N := by omega
    have hI1 := hI.ext he
    obtain ⟨rv, ra, hrv, hra, fulls, ns, o1, o2, hl, hLn, hf⟩ := hI1.kind j K hK
    have hn7 : ∃ cap, x7 = .slice (some ⟨b7, 0, none⟩) (xs.length + i) cap := by
      rcases ho.2 with ⟨rfl, _⟩ | ⟨g, cap, cur, rfl, _⟩
      · cases hb7
      · injection hb7 with hb7; simp at hb7; subst hb7; exact ⟨_, rfl⟩
    obtain ⟨cap7, rfl⟩ := hn7
    have hlt7' : b7 < wc.heap.size := ho.lt rfl
    refine LF_blk hI1.blk (by rw [Nat.zero_add]; exact hrv) ?_
    rw [XV_eq (run_buildSlice1 (T := TT) (E := T) (sz := 1) (bytes := 24) (by rfl) (by omega))]
    subst hT
    have heA : Ext wc (wc.alloc (.cells (Value.slice (some ⟨b7, 0, none⟩) (xs.length + i) cap7).cells K.S)) := ext_alloc _ _
    refine append_ok (sz := 1) (n := fulls.length) (m := 1) (o1.ext heA) (news := [.slice (some ⟨b7, 0, none⟩) (xs.length + i) cap7]) rfl (fun j u hu => ?_) (fun u hu => by simp at hu; rw [hu]; rfl) (by omega) (by omega) fun v31 wB o3 hcB hsB => ?_
    · have hb := Blk.new wc [.slice (some ⟨b7, 0, none⟩) (xs.length + i) cap7] K.S
      have := hb.cell (0 + j)
      rw [Nat.zero_add] at this ⊢
      rw [← hu]; exact this
    have hrv2 := fun b => hI1.apart _ _ b hrv
    have hra2 := fun b => hI1.apart _ _ b hra
    have hvB : ∀ b, v31.ownBlock = some b → b ≠ r ∧ (b < wc.heap.size → rv.ownBlock = some b) := fun b hb => by
      rcases hsB with e | ⟨g, hg, hge⟩
      · rw [e] at hb; exact ⟨(hrv2 b hb).1, fun _ => hb⟩
      · rw [hg] at hb; obtain rfl := Option.some.inj hb
        have := heA.size; have := hI1.blk.lt
        exact ⟨by omega, fun h => by omega⟩
    have hblkB : Blk wB r cs 51 := (hI1.blk.ext heA).chg hcB fun h => (hrv2 r h).1 rfl
    refine SF_blk hblkB (Own_one o3) (by rw [Nat.zero_add]; exact hrv) fun wC hblkC hcC hszC => ?_
    rw [Nat.zero_add] at hblkC
    have hne : ∀ b, rv.ownBlock = some b → ra.ownBlock ≠ some b := fun b => hI1.apart2 _ _ _ _ b (by omega) hrv hra
    have o2C : Own wC 3 1 ra ns.length (ns.map fun n : Nat => .int .i64 n) := ((o2.ext heA).chg hcB fun b hb hr => hne b hr hb).chg hcC fun b hb hr => (hra2 b hb).1 hr
    refine LF_blk hblkC (by rw [Nat.zero_add, List.getElem?_set_ne (by omega)]; exact hra) ?_
    refine len_sl (e := K.E) hv ?_
    rw [XV_eq (run_buildSlice1 (T := 26) (E := 3) (sz := 1) (bytes := 8) (by rfl) (by omega))]
    have heD : Ext wC (wC.alloc (.cells (Value.int .i64 xs.length).cells 3)) := ext_alloc _ _
    refine append_ok (sz := 1) (n := ns.length) (m := 1) (o2C.ext heD) (news := [.int .i64 xs.length]) rfl (fun j u hu => ?_) (fun u hu => by simp at hu; rw [hu]; rfl) (by omega) (by omega) fun v42 wE o4 hcE hsE => ?_
    · have hb := Blk.new wC [.int .i64 xs.length] 3
      have := hb.cell (0 + j)
      rw [Nat.zero_add] at this ⊢
      rw [← hu]; exact this
    have hblkE : Blk wE r (cs.set (2 * j) v31) 51 := (hblkC.ext heD).chg hcE fun h => (hra2 r h).1 rfl
    refine SF_blk hblkE (Own_one o4) (by rw [Nat.zero_add, List.getElem?_set_ne (by omega)]; exact hra) fun wF hblkF hcF hszF => ?_
    rw [Nat.zero_add] at hblkF
    refine len_sl (e := K.E) hv ?_
    refine len_ok (E := K.E) ?_
    have hcap : xs.length + i ≤ cap7 := by
      rcases ho.2 with ⟨h, _⟩ | ⟨g, cap, cur, h, _, _, h1, h2, _⟩
      · cases h
      · injection h with _ _ h; subst h; exact h1
    rw [XV_eq (run_slice3 (E := K.E) (sz := K.sz) (by omega) hcap)]
    -- what turned
    have hch : Chg (fun b => b = r ∨ rv.ownBlock = some b ∨ ra.ownBlock = some b) wc wF := by
      have c1 : Chg (fun b => b = r ∨ rv.ownBlock = some b ∨ ra.ownBlock = some b) wc wB := (heA.chg _).trans (hcB.mono fun b _ h => .inr (.inl h))
      have c2 : Chg (fun b => b = r ∨ rv.ownBlock = some b ∨ ra.ownBlock = some b) wC wE := (heD.chg _).trans (hcE.mono fun b _ h => .inr (.inr h))
      exact ((c1.trans (hcC.mono fun b _ h => .inl h)).trans c2).trans (hcF.mono fun b _ h => .inl h)
    have hMr : ∀ b, (b = r ∨ rv.ownBlock = some b ∨ ra.ownBlock = some b) → rows r cs b := by
      rintro b (h | h | h)
      · exact .inl h
      · exact .inr ⟨_, rv, hrv, h⟩
      · exact .inr ⟨_, ra, hra, h⟩
    have hnr : ¬ rows r cs b7 := fun h => by have := hI.rows_lt h; omega
    have hsz1 : wc.heap.size ≤ wB.heap.size := Nat.le_trans heA.size hcB.size
    have hsz2 : wB.heap.size ≤ wE.heap.size := by have := heD.size; have := hcE.size; omega
    have hv42 : ∀ b, v42.ownBlock = some b → b ≠ r ∧ (b < wC.heap.size → ra.ownBlock = some b) := fun b hb => by
      rcases hsE with e | ⟨g, hg, hge⟩
      · rw [e] at hb; exact ⟨(hra2 b hb).1, fun _ => hb⟩
      · rw [hg] at hb; obtain rfl := Option.some.inj hb
        have := heD.size; have := hI1.blk.lt
        exact ⟨by omega, fun h => by omega⟩
    have s3 : ∀ b, v31.ownBlock = some b → v42.ownBlock ≠ some b := fun b h1 h2 => by
      have hlt := o3.lt h1
      have h3 := (hv42 b h2).2 (by omega)
      exact hne b ((hvB b h1).2 (hra2 b h3).2) h3
    have oF1 : Own wF K.S 1 v31 (fulls.length + 1) (fulls ++ [.slice (some ⟨b7, 0, none⟩) (xs.length + i) cap7]) := (((o3.chg hcC fun b hb h => (hvB b hb).1 h).ext heD).chg hcE fun b hb h => hne b ((hvB b hb).2 (hra2 b h).2) h).chg hcF fun b hb h => (hvB b hb).1 h
    have oF2 : Own wF 3 1 v42 (ns.length + 1) ((ns ++ [xs.length]).map fun n : Nat => .int .i64 n) := by
      have := o4.chg hcF fun b hb h => (hv42 b hb).1 h
      simpa using this
    have hcells : ∀ j u, (encs E xs ++ marks K i)[j]? = some u → wF.cell? ⟨b7, j, none⟩ = some u := fun j u hu =>
      hch.cell (ho.cell rfl hu) fun h => hnr (hMr b7 h)
    have hb7lt : b7 < wF.heap.size := by have := hch.size; omega
    have g1 : SameOrNew wc rv v31 := hsB.elim .inl fun ⟨g, hg, hge⟩ => .inr ⟨g, hg, Nat.le_trans heA.size hge⟩
    have g2 : SameOrNew wc ra v42 := hsE.elim .inl fun ⟨g, hg, hge⟩ => .inr ⟨g, hg, by have := heD.size; omega⟩
    have hgrow : ∀ c, rows r ((cs.set (2 * j) v31).set (2 * j + 1) v42) c → rows r cs c ∨ wc.heap.size ≤ c := fun c hc => rows_set hrv hra g1 g2 hc
    refine hk _ _ ((cs.set (2 * j) v31).set (2 * j + 1) v42) _ b7 ⟨(he.chg _).trans ⟨hch.os, hch.tape, hch.output, hch.size, fun b hb hn => hch.block b hb fun h => hn (hMr b h)⟩, fun c hc => ?_, fun c hc => ?_⟩ (hI1.more (full := .slice (some ⟨b7, 0, none⟩) (xs.length + i) cap7) (m := xs.length) hK hrv hra o1 o2 hl hLn hf hblkF oF1 oF2 hch g1 g2 s3 ?_ ?_) ⟨xs.length + i, rfl, by omega, by omega, fun j u hu => hcells j u (by
      rw [List.getElem?_append_left (List.getElem?_eq_some_iff.1 hu).1]; exact hu)⟩ hb7lt hlt7 ?_
    · have := he.size
      exact (hgrow c hc).imp id fun h => by omega
    · have := he.size
      rcases hc with hc | hc | hc
      · exact .inl hc
      · injection hc with hc; simp at hc; subst hc; exact .inr hlt7
      · exact .inr (by omega)
    · refine ⟨b7, xs.length + i, cap7, rfl, by omega, by omega, hb7lt, fun q h1 h2 jj u hu => hcells _ _ ?_⟩
      have hlen := encs_length E w xs
      rw [← hE] at hlen
      have hq : q * K.sz = xs.length * K.sz + (q - xs.length) * K.sz := by rw [← Nat.add_mul]; congr 1; omega
      rw [List.getElem?_append_right (by omega), hlen, show q * K.sz + jj - xs.length * K.sz = (q - xs.length) * K.sz + jj by omega]
      exact marks_get hOK _ _ _ _ (by omega) hu
    · intro b hb
      injection hb with hb; simp at hb; subst hb
      exact ⟨hlt7', hnr⟩
    · intro h
      rcases hgrow _ h with h | h
      · exact hnr h
      · omega
end Go.Proofs.YtdgffjkcpbolmaaGreatDoor.X
