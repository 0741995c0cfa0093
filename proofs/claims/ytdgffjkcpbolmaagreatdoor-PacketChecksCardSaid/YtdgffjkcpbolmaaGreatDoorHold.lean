/-
  The room holds: every mark stands where it was laid. No condition.
-/
import Derived.Test.YtdgffjkcpbolmaaGreatDoorLay3
import Derived.Test.YtdgffjkcpbolmaaGreatDoorFxEq
import Derived.Test.YtdgffjkcpbolmaaGreatDoorGRoomHold
namespace Go.Proofs.YtdgffjkcpbolmaaGreatDoor.X
open Go Go.RowKit Go.Proofs.YtdgffjkcpbolmaaGreatDoor.Fx
set_option maxRecDepth 100000
set_option linter.unusedVariables false
theorem Own_LI {A T E n i : Nat} {w : World} {v u : Value} {xs : List Value} {k : Value → World → Prop} [SlT P A E] [SzT P E 1] [PT P T] (h : Own w E 1 v n xs) (hu : xs[i]? = some u) (hk : k u w) : LI P A T v (.int .i64 i) w k := by
  have hl : xs.length = n * 1 := h.1
  have hi := (List.getElem?_eq_some_iff.1 hu).1
  rcases h.2 with ⟨_, rfl⟩ | ⟨g, cap, cur, rfl, _⟩
  · omega
  · exact LI_ok (E := E) (sz := 1) (by omega) (by rw [show 0 + i * 1 = i by omega]; exact h.cell rfl hu) hk
theorem LI_A {A T E : Nat} {w : World} {b o n c i sz : Nat} {cs : List Value} {k : Value → World → Prop} [SlT P A E] [SzT P E sz] [AT P T] [SzT P T sz] (hi : i < n) (hl : cs.length = sz) (hc : ∀ j u, cs[j]? = some u → w.cell? ⟨b, o + i * sz + j, none⟩ = some u) (hk : k (.agg cs.toArray) w) :
    LI P A T (.slice (some ⟨b, o, none⟩) n c) (.int .i64 i) w k := by
  unfold LI
  rw [XV_eq (run_index (SlT.eq (E := E)) SzT.eq hi), XV_eq (run_loadAgg AT.eq SzT.eq hl hc)]
  exact hk
theorem Own_len {T R E n : Nat} {w w' : World} {v : Value} {xs : List Value} {k : Value → World → Prop} [SlT P T E] {e sz : Nat} (h : Own w e sz v n xs) (hk : k (.int .i64 n) w') : XV P (Builtin.len_ #[T] R #[v]) w' k := by
  obtain ⟨a, c, rfl⟩ := h.shape
  exact len_ok (E := E) hk
/-- The shape of the holds. -/
def GH (S TT T f g : Nat) (cmp : Value → Value → Value → Value → World → (World → Prop) → (World → Prop) → Prop) (x0 : Value) (w : World) (R : Value → World → Prop) : Prop :=
 LoopP (fun (s : Value × Value) w K =>
   LF P S TT f s.1 w fun v11 w3 =>
   XV P (Builtin.len_ #[TT] 3 #[v11]) w3 fun v12 w4 =>
   XV P (binS .lss 3 false s.2 v12) w4 fun v13 w5 =>
   condW v13 (
    LF P S 26 g s.1 w5 fun v19 w8 =>
    LI P 26 3 v19 s.2 w8 fun v22 w10 =>
    LoopP (fun (t : Value × Value × Value × Value) w K2 =>
      LF P S TT f t.1 w fun v28 w3 =>
      LI P TT T v28 t.2.1 w3 fun v31 w5 =>
      XV P (Builtin.len_ #[T] 3 #[v31]) w5 fun v32 w6 =>
      XV P (binS .lss 3 false t.2.2.2 v32) w6 fun v33 w7 =>
      condW v33 (
       cmp t.1 t.2.1 t.2.2.1 t.2.2.2 w7 (fun w => R (.bool false) w) fun w18 =>
        XV P (binS .add 3 true t.2.2.2 (.int .i64 1)) w18 fun v35 w19 =>
        K2 (t.1, t.2.1, t.2.2.1, v35) w19) (
       XV P (binS .add 3 true t.2.1 (.int .i64 1)) w7 fun v15 w20 =>
       K (t.1, v15) w20)) (s.1, s.2, v22, v22) w10) (
    R (.bool true) w5)) (x0, .int .i64 0) w
section
variable {w : World} {r L : Nat} {cs : List Value} {F : Nat → Prop} {k : Value → World → Prop}
/-- A kind of which nothing was lent. -/
theorem hold_nil {S TT T f g j E : Nat} {cmp : Value → Value → Value → Value → World → (World → Prop) → (World → Prop) → Prop} [FO P S f j] [SlT P TT E] [PT P TT] (hI : RoomInv w r cs F L) (hj : 8 ≤ j) (hj2 : j < 34) (hk : k (.bool true) w) :
    GH S TT T f g cmp (.pointer (some ⟨r, 0, none⟩)) w k := by
  refine LoopP.of (fun s w' => s = (.pointer (some ⟨r, 0, none⟩), .int .i64 0) ∧ w' = w) (fun _ _ => 0) ⟨rfl, rfl⟩ ?_
  rintro _ _ ⟨rfl, rfl⟩
  have hv : ∃ v, cs[j]? = some v := ⟨_, List.getElem?_eq_getElem (by rw [hI.len]; exact hj2)⟩
  obtain ⟨v, hv⟩ := hv
  obtain rfl := hI.none j v hj hj2 hv
  refine LF_blk hI.blk (by rw [Nat.zero_add]; exact hv) ?_
  refine len_ok (E := E) ?_
  exact lt_cond (fun h => by omega) fun _ => hk
theorem hold_ok {S TT T f g j : Nat} {cmp : Value → Value → Value → Value → World → (World → Prop) → (World → Prop) → Prop} {K : RK} [FO P S f (2 * j)] [FO P S g (2 * j + 1)] [SlT P TT T] [SzT P T 1] [PT P T] [PT P TT] [SlT P T K.E]
    (hI : RoomInv w r cs F L) (hL : L ≤ 1000000000) (hK : kinds[j]? = some K) (hT : T = K.S)
    (hcmp : ∀ (w' : World) (i q n N b cap m : Nat) (v : Value) (fulls : List Value) (fail next : World → Prop), Blk w' r cs 51 → cs[2 * j]? = some v → Own w' K.S 1 v m fulls → fulls[i]? = some (.slice (some ⟨b, 0, none⟩) N cap) →
      n ≤ q → q < N → N ≤ 140737488355328 → (∀ jj u, (K.mark (q - n))[jj]? = some u → w'.cell? ⟨b, q * K.sz + jj, none⟩ = some u) → (∀ w'', Ext w' w'' → next w'') →
      cmp (.pointer (some ⟨r, 0, none⟩)) (.int .i64 i) (.int .i64 n) (.int .i64 q) w' fail next)
    (hk : ∀ w', Ext w w' → k (.bool true) w') : GH S TT T f g cmp (.pointer (some ⟨r, 0, none⟩)) w k := by
  subst hT
  obtain ⟨v, a, hv, ha, fulls, ns, o1, o2, hl, hlL, hf⟩ := hI.kind j K hK
  refine LoopP.of (fun s w' => ∃ i : Nat, i ≤ fulls.length ∧ s = (.pointer (some ⟨r, 0, none⟩), .int .i64 i) ∧ Ext w w') (fun s _ => fulls.length - ctr s.2) ⟨0, Nat.zero_le _, rfl, Ext.refl _⟩ ?_
  rintro _ w1 ⟨i, hi, rfl, e1⟩
  have hB1 := hI.blk.ext e1
  refine LF_blk hB1 (by rw [Nat.zero_add]; exact hv) ?_
  refine Own_len (E := K.S) o1 ?_
  refine lt_cond (fun hlt => ?_) fun _ => hk _ e1
  have hiN : i < fulls.length := by omega
  refine LF_blk hB1 (by rw [Nat.zero_add]; exact ha) ?_
  refine Own_LI (E := 3) (u := .int .i64 ns[i]) (o2.ext e1) (by simp [List.getElem?_map, List.getElem?_eq_getElem (show i < ns.length by omega)]) ?_
  obtain ⟨⟨b, N, cap, hfe, h1, h2, h3, h4⟩, h5⟩ := hf i fulls[i] ns[i] (List.getElem?_eq_getElem hiN) (List.getElem?_eq_getElem (by omega))
  have hfi : fulls[i]? = some (.slice (some ⟨b, 0, none⟩) N cap) := by rw [← hfe]; exact List.getElem?_eq_getElem hiN
  refine LoopP.of (fun t w' => ∃ q : Nat, ns[i] ≤ q ∧ q ≤ N ∧ t = (.pointer (some ⟨r, 0, none⟩), .int .i64 i, .int .i64 ns[i], .int .i64 q) ∧ Ext w w') (fun t _ => N - ctr t.2.2.2) ⟨ns[i], Nat.le_refl _, h1, rfl, e1⟩ ?_
  rintro _ w2 ⟨q, hq1, hq2, rfl, e2⟩
  have hB2 := hI.blk.ext e2
  refine LF_blk hB2 (by rw [Nat.zero_add]; exact hv) ?_
  refine Own_LI (E := K.S) (o1.ext e2) hfi ?_
  refine len_ok (E := K.E) ?_
  refine lt_cond (fun hlt2 => ?_) fun hge => ?_
  · refine hcmp w2 i q ns[i] N b cap fulls.length v fulls _ _ hB2 hv (o1.ext e2) hfi hq1 (by omega) h2 (fun jj u hu => e2.cell (h4 q hq1 (by omega) jj u hu)) fun w3 e3 => ?_
    try simp only [go_sem]
    rw [wrap_id (by omega) (by omega)]
    exact ⟨⟨q + 1, by omega, by omega, rfl, e2.trans e3⟩, by simp only [ctr]; omega⟩
  · try simp only [go_sem]
    rw [wrap_id (by omega) (by omega)]
    exact ⟨⟨i + 1, by omega, rfl, e2⟩, by simp only [ctr]; omega⟩
theorem holdBytes_ok (hI : RoomInv w r cs F L) (hL : L ≤ 1000000000) (hk : ∀ w', Ext w w' → k (.bool true) w') : CallF P 62 #[.pointer (some ⟨r, 0, none⟩)] w k := by
  refine c62 _ _ _ ?_
  refine hold_ok (S := 51) (TT := 33) (T := 22) (f := 0) (g := 1) (j := 0) (K := ⟨22, 5, 1, fun i => [.int .u8 (IntKind.u8.wrap (lotv i))]⟩)
    (cmp := fun x0 x3 x4 x5 w fail next =>
      LF P 51 33 0 x0 w fun v w => LI P 33 22 v x3 w fun v w => LI P 22 5 v x5 w fun v45 w =>
      XV P (binS .sub 3 false x5 x4) w fun v w => CallF P 117 #[v] w fun v w => XV P (convert 3 5 v) w fun v51 w =>
      XV P (binS .neq 5 false v45 v51) w fun v52 w => condW v52 (fail w) (next w)) hI hL rfl rfl ?_ hk
  intro w' i q n N b cap m v fulls fail next hB hv ho hfi h1 h2 h3 hm hn
  refine LF_blk hB (by rw [Nat.zero_add]; exact hv) ?_
  refine Own_LI (E := 22) ho hfi ?_
  have := hm 0 _ rfl
  refine LI_ok (E := 5) (sz := 1) h2 (by rw [Nat.zero_add]; exact this) ?_
  simp only [go_sem]
  rw [wrap_id (by omega) (by omega), show (q : Int) - n = ((q - n : Nat) : Int) by omega]
  refine lot_ok (by omega) ?_
  rw [XV_eq (run_convert_int (P := P) w' 3 5 .i64 (lotv (q - n)) (by kernel_rfl) (by kernel_rfl))]
  exact ne_cond (fun h => absurd rfl h) fun _ => hn _ (Ext.refl _)
theorem holdInts_ok (hI : RoomInv w r cs F L) (hL : L ≤ 1000000000) (hk : ∀ w', Ext w w' → k (.bool true) w') : CallF P 63 #[.pointer (some ⟨r, 0, none⟩)] w k := by
  refine c63 _ _ _ ?_
  refine hold_ok (S := 51) (TT := 34) (T := 26) (f := 2) (g := 3) (j := 1) (K := ⟨26, 3, 1, fun i => [.int .i64 (lotv i)]⟩)
    (cmp := fun x0 x3 x4 x5 w fail next =>
      LF P 51 34 2 x0 w fun v w => LI P 34 26 v x3 w fun v w => LI P 26 3 v x5 w fun v45 w =>
      XV P (binS .sub 3 false x5 x4) w fun v w => CallF P 117 #[v] w fun v w =>
      XV P (binS .neq 3 false v45 v) w fun v52 w => condW v52 (fail w) (next w)) hI hL rfl rfl ?_ hk
  intro w' i q n N b cap m v fulls fail next hB hv ho hfi h1 h2 h3 hm hn
  refine LF_blk hB (by rw [Nat.zero_add]; exact hv) ?_
  refine Own_LI (E := 26) ho hfi ?_
  have := hm 0 _ rfl
  refine LI_ok (E := 3) (sz := 1) h2 (by rw [Nat.zero_add]; exact this) ?_
  simp only [x_sub]
  rw [wrap_id (by omega) (by omega), show (q : Int) - n = ((q - n : Nat) : Int) by omega]
  refine lot_ok (by omega) ?_
  exact ne_cond (fun h => absurd rfl h) fun _ => hn _ (Ext.refl _)
theorem holdTexts_ok (hI : RoomInv w r cs F L) (hL : L ≤ 1000000000) (hk : ∀ w', Ext w w' → k (.bool true) w') : CallF P 64 #[.pointer (some ⟨r, 0, none⟩)] w k := by
  refine c64 _ _ _ ?_
  refine hold_ok (S := 51) (TT := 35) (T := 27) (f := 4) (g := 5) (j := 2) (K := ⟨27, 9, 1, fun i => [.string (wordv i)]⟩)
    (cmp := fun x0 x3 x4 x5 w fail next =>
      LF P 51 35 4 x0 w fun v w => LI P 35 27 v x3 w fun v w => LI P 27 9 v x5 w fun v45 w =>
      XV P (binS .sub 3 false x5 x4) w fun v w => CallF P 118 #[v] w fun v w =>
      XV P (binS .neq 9 false v45 v) w fun v52 w => condW v52 (fail w) (next w)) hI hL rfl rfl ?_ hk
  intro w' i q n N b cap m v fulls fail next hB hv ho hfi h1 h2 h3 hm hn
  refine LF_blk hB (by rw [Nat.zero_add]; exact hv) ?_
  refine Own_LI (E := 27) ho hfi ?_
  have := hm 0 _ rfl
  refine LI_ok (E := 9) (sz := 1) h2 (by rw [Nat.zero_add]; exact this) ?_
  simp only [x_sub]
  rw [wrap_id (by omega) (by omega), show (q : Int) - n = ((q - n : Nat) : Int) by omega]
  refine word_ok (by omega) ?_
  exact nes_cond (fun h => absurd rfl h) fun _ => hn _ (Ext.refl _)
theorem holdAsks_ok (hI : RoomInv w r cs F L) (hL : L ≤ 1000000000) (hk : ∀ w', Ext w w' → k (.bool true) w') : CallF P 65 #[.pointer (some ⟨r, 0, none⟩)] w k := by
  refine c65 _ _ _ ?_
  refine hold_ok (S := 51) (TT := 36) (T := 25) (f := 6) (g := 7) (j := 3) (K := ⟨25, 73, 2, fun i => [.string (wordv i), .int .i64 0]⟩)
    (cmp := fun x0 x3 x4 x5 w fail next =>
      LF P 51 36 6 x0 w fun v w => LI P 36 25 v x3 w fun v w => LI P 25 73 v x5 w fun v45 w =>
      XV P (Instr.alloc 73 true (.tuple #[])) w fun v6 w => XU P (Instr.storeAt 73 v6 v45) w fun w16 =>
      XS P (Ext (World.drew w16)) (Instr.loadAt 73 v6) fun v46 =>
      XS P (Ext (World.drew w16)) (binS .sub 3 false x5 x4) fun v49 =>
      CallF P 118 #[v49] (World.drew w16) fun v50 w17 =>
      Ext (World.drew w16) w17 ∧
      XS P (Ext (World.drew w16)) (Instr.build 73 #[(0, v50)]) fun v51 =>
      XS P (Ext (World.drew w16)) (binS .neq 73 false v46 v51) fun v52 =>
      condW v52 (fail w17) (next w17)) hI hL rfl rfl ?_ hk
  intro w' i q n N b cap m v fulls fail next hB hv ho hfi h1 h2 h3 hm hn
  refine LF_blk hB (by rw [Nat.zero_add]; exact hv) ?_
  refine Own_LI (E := 25) ho hfi ?_
  refine LI_A (E := 73) (sz := 2) (cs := [.string (wordv (q - n)), .int .i64 0]) h2 rfl (fun jj u hu => by rw [Nat.zero_add]; exact hm jj u hu) ?_
  refine alloc_ok (T := 73) (zs := [.string ⟨#[]⟩, .int .i64 0]) (by kernel_rfl) fun w2 b2 e2 n2 k2 z2 => ?_
  refine store_blkA (T := 73) k2 rfl rfl rfl fun w3 k3 c3 z3 => ?_
  have e3 : Ext w' w3 := e2.chg_new c3 fun i hi => by omega
  refine XS_at (fun u hu => run_loadAgg AT.eq SzT.eq rfl fun jj x hx => by rw [Nat.zero_add]; exact hu.cell (by rw [World.cell?_drew]; exact (k3.cell jj).trans hx)) ?_
  refine s_sub ?_
  rw [wrap_id (by omega) (by omega), show (q : Int) - n = ((q - n : Nat) : Int) by omega]
  refine word_ok (by omega) ?_
  refine ⟨Ext.refl _, ?_⟩
  refine XS_of (fun u => (by kernel_rfl : (Instr.build 73 #[(0, .string (wordv (q - n)))]).run P u = .ok (.agg #[.string (wordv (q - n)), .int .i64 0]) u)) ?_
  refine s_neqA (xs := [.string (wordv (q - n)), .int .i64 0]) (ys := [.string (wordv (q - n)), .int .i64 0]) (by kernel_rfl) ?_
  have : eqCells [.string (wordv (q - n)), .int .i64 0] [.string (wordv (q - n)), .int .i64 0] = true := by simp [eqCells, valEq]
  rw [this]
  exact hn _ e3.drew
/-! ### kinds of which nothing was lent -/
theorem nil_ok {S TT f j E : Nat} {A : World → Prop} [FO P S f j] [SlT P TT E] [PT P TT] (hI : RoomInv w r cs F L) (hj : 8 ≤ j) (hj2 : j < 34) (hk : k (.bool true) w) :
    LF P S TT f (.pointer (some ⟨r, 0, none⟩)) w fun v w => XV P (Builtin.len_ #[TT] 3 #[v]) w fun v w => XV P (binS .lss 3 false (.int .i64 0) v) w fun v w => condW v (A w) (k (.bool true) w) := by
  have hv : ∃ v, cs[j]? = some v := ⟨_, List.getElem?_eq_getElem (by rw [hI.len]; exact hj2)⟩
  obtain ⟨v, hv⟩ := hv
  obtain rfl := hI.none j v hj hj2 hv
  refine LF_blk hI.blk (by rw [Nat.zero_add]; exact hv) ?_
  refine len_ok (E := E) ?_
  exact lt_cond (fun h => by omega) fun _ => hk
theorem holdUsers_ok (hI : RoomInv w r cs F L) (hk : k (.bool true) w) : CallF P 66 #[.pointer (some ⟨r, 0, none⟩)] w k := by
  refine c66 _ _ _ ?_
  unfold S66_0 B66_0 S66_1
  refine LoopP.of (fun s w' => s = (.pointer (some ⟨r, 0, none⟩), .int .i64 0) ∧ w' = w) (fun _ _ => 0) ⟨rfl, rfl⟩ ?_
  rintro _ _ ⟨rfl, rfl⟩
  unfold S66_2 B66_2
  exact nil_ok hI (by omega) (by omega) hk
theorem holdWhos_ok (hI : RoomInv w r cs F L) (hk : k (.bool true) w) : CallF P 67 #[.pointer (some ⟨r, 0, none⟩)] w k := by
  refine c67 _ _ _ ?_
  unfold S67_0 B67_0 S67_1
  refine LoopP.of (fun s w' => s = (.pointer (some ⟨r, 0, none⟩), .int .i64 0) ∧ w' = w) (fun _ _ => 0) ⟨rfl, rfl⟩ ?_
  rintro _ _ ⟨rfl, rfl⟩
  unfold S67_2 B67_2
  exact nil_ok hI (by omega) (by omega) hk
theorem holdChunks_ok (hI : RoomInv w r cs F L) (hk : k (.bool true) w) : CallF P 68 #[.pointer (some ⟨r, 0, none⟩)] w k := by
  refine c68 _ _ _ ?_
  unfold S68_0 B68_0 S68_1
  refine LoopP.of (fun s w' => s = (.pointer (some ⟨r, 0, none⟩), .int .i64 0) ∧ w' = w) (fun _ _ => 0) ⟨rfl, rfl⟩ ?_
  rintro _ _ ⟨rfl, rfl⟩
  unfold S68_2 B68_2
  exact nil_ok hI (by omega) (by omega) hk
theorem holdMessages_ok (hI : RoomInv w r cs F L) (hk : k (.bool true) w) : CallF P 69 #[.pointer (some ⟨r, 0, none⟩)] w k := by
  refine c69 _ _ _ ?_
  unfold S69_0 B69_0 S69_1
  refine LoopP.of (fun s w' => s = (.pointer (some ⟨r, 0, none⟩), .int .i64 0) ∧ w' = w) (fun _ _ => 0) ⟨rfl, rfl⟩ ?_
  rintro _ _ ⟨rfl, rfl⟩
  unfold S69_2 B69_2
  exact nil_ok hI (by omega) (by omega) hk
theorem holdFlights_ok (hI : RoomInv w r cs F L) (hk : k (.bool true) w) : CallF P 70 #[.pointer (some ⟨r, 0, none⟩)] w k := by
  refine c70 _ _ _ ?_
  unfold S70_0 B70_0 S70_1
  refine LoopP.of (fun s w' => s = (.pointer (some ⟨r, 0, none⟩), .int .i64 0) ∧ w' = w) (fun _ _ => 0) ⟨rfl, rfl⟩ ?_
  rintro _ _ ⟨rfl, rfl⟩
  unfold S70_2 B70_2
  exact nil_ok hI (by omega) (by omega) hk
theorem holdPackets_ok (hI : RoomInv w r cs F L) (hk : k (.bool true) w) : CallF P 71 #[.pointer (some ⟨r, 0, none⟩)] w k := by
  refine c71 _ _ _ ?_
  unfold S71_0 B71_0 S71_1
  refine LoopP.of (fun s w' => s = (.pointer (some ⟨r, 0, none⟩), .int .i64 0) ∧ w' = w) (fun _ _ => 0) ⟨rfl, rfl⟩ ?_
  rintro _ _ ⟨rfl, rfl⟩
  unfold S71_2 B71_2
  exact nil_ok hI (by omega) (by omega) hk
theorem holdInputs_ok (hI : RoomInv w r cs F L) (hk : k (.bool true) w) : CallF P 72 #[.pointer (some ⟨r, 0, none⟩)] w k := by
  refine c72 _ _ _ ?_
  unfold S72_0 B72_0 S72_1
  refine LoopP.of (fun s w' => s = (.pointer (some ⟨r, 0, none⟩), .int .i64 0) ∧ w' = w) (fun _ _ => 0) ⟨rfl, rfl⟩ ?_
  rintro _ _ ⟨rfl, rfl⟩
  unfold S72_2 B72_2
  exact nil_ok hI (by omega) (by omega) hk
theorem holdEvents_ok (hI : RoomInv w r cs F L) (hk : k (.bool true) w) : CallF P 73 #[.pointer (some ⟨r, 0, none⟩)] w k := by
  refine c73 _ _ _ ?_
  unfold S73_0 B73_0 S73_1
  refine LoopP.of (fun s w' => s = (.pointer (some ⟨r, 0, none⟩), .int .i64 0) ∧ w' = w) (fun _ _ => 0) ⟨rfl, rfl⟩ ?_
  rintro _ _ ⟨rfl, rfl⟩
  unfold S73_2 B73_2
  exact nil_ok hI (by omega) (by omega) hk
theorem holdSessions_ok (hI : RoomInv w r cs F L) (hk : k (.bool true) w) : CallF P 74 #[.pointer (some ⟨r, 0, none⟩)] w k := by
  refine c74 _ _ _ ?_
  unfold S74_0 B74_0 S74_1
  refine LoopP.of (fun s w' => s = (.pointer (some ⟨r, 0, none⟩), .int .i64 0) ∧ w' = w) (fun _ _ => 0) ⟨rfl, rfl⟩ ?_
  rintro _ _ ⟨rfl, rfl⟩
  unfold S74_2 B74_2
  exact nil_ok hI (by omega) (by omega) hk
theorem holdSteps_ok (hI : RoomInv w r cs F L) (hk : k (.bool true) w) : CallF P 75 #[.pointer (some ⟨r, 0, none⟩)] w k := by
  refine c75 _ _ _ ?_
  unfold S75_0 B75_0 S75_1
  refine LoopP.of (fun s w' => s = (.pointer (some ⟨r, 0, none⟩), .int .i64 0) ∧ w' = w) (fun _ _ => 0) ⟨rfl, rfl⟩ ?_
  rintro _ _ ⟨rfl, rfl⟩
  unfold S75_2 B75_2
  exact nil_ok hI (by omega) (by omega) hk
theorem holdServeds_ok (hI : RoomInv w r cs F L) (hk : k (.bool true) w) : CallF P 76 #[.pointer (some ⟨r, 0, none⟩)] w k := by
  refine c76 _ _ _ ?_
  unfold S76_0 B76_0 S76_1
  refine LoopP.of (fun s w' => s = (.pointer (some ⟨r, 0, none⟩), .int .i64 0) ∧ w' = w) (fun _ _ => 0) ⟨rfl, rfl⟩ ?_
  rintro _ _ ⟨rfl, rfl⟩
  unfold S76_2 B76_2
  exact nil_ok hI (by omega) (by omega) hk
theorem holdRules_ok (hI : RoomInv w r cs F L) (hk : k (.bool true) w) : CallF P 77 #[.pointer (some ⟨r, 0, none⟩)] w k := by
  refine c77 _ _ _ ?_
  unfold S77_0 B77_0 S77_1
  refine LoopP.of (fun s w' => s = (.pointer (some ⟨r, 0, none⟩), .int .i64 0) ∧ w' = w) (fun _ _ => 0) ⟨rfl, rfl⟩ ?_
  rintro _ _ ⟨rfl, rfl⟩
  unfold S77_2 B77_2
  exact nil_ok hI (by omega) (by omega) hk
theorem holdChanges_ok (hI : RoomInv w r cs F L) (hk : k (.bool true) w) : CallF P 78 #[.pointer (some ⟨r, 0, none⟩)] w k := by
  refine c78 _ _ _ ?_
  unfold S78_0 B78_0 S78_1
  refine LoopP.of (fun s w' => s = (.pointer (some ⟨r, 0, none⟩), .int .i64 0) ∧ w' = w) (fun _ _ => 0) ⟨rfl, rfl⟩ ?_
  rintro _ _ ⟨rfl, rfl⟩
  unfold S78_2 B78_2
  exact nil_ok hI (by omega) (by omega) hk
/-- The room holds. -/
theorem Hold_ok (hI : RoomInv w r cs F L) (hL : L ≤ 1000000000) (hk : ∀ w', Ext w w' → k (.bool true) w') : CallF P 14 #[.pointer (some ⟨r, 0, none⟩)] w k := by
  refine c14 _ _ _ ?_
  unfold S14_0 B14_0
  refine holdBytes_ok hI hL fun w1 e1 => ?_
  simp only [gd_tt]
  refine holdInts_ok (hI.ext e1) hL fun w2 e2 => ?_
  unfold S14_15 B14_15
  simp only [gd_tt]
  refine holdTexts_ok (hI.ext (e1.trans e2)) hL fun w3 e3 => ?_
  unfold S14_14 B14_14
  simp only [gd_tt]
  refine holdAsks_ok (hI.ext ((e1.trans e2).trans e3)) hL fun w4 e4 => ?_
  have e := ((e1.trans e2).trans e3).trans e4
  have hI4 := hI.ext e
  unfold S14_13 B14_13
  simp only [gd_tt]
  refine holdUsers_ok hI4 ?_
  unfold S14_12 B14_12
  simp only [gd_tt]
  refine holdWhos_ok hI4 ?_
  unfold S14_11 B14_11
  simp only [gd_tt]
  refine holdChunks_ok hI4 ?_
  unfold S14_10 B14_10
  simp only [gd_tt]
  refine holdMessages_ok hI4 ?_
  unfold S14_9 B14_9
  simp only [gd_tt]
  refine holdFlights_ok hI4 ?_
  unfold S14_8 B14_8
  simp only [gd_tt]
  refine holdPackets_ok hI4 ?_
  unfold S14_7 B14_7
  simp only [gd_tt]
  refine holdInputs_ok hI4 ?_
  unfold S14_6 B14_6
  simp only [gd_tt]
  refine holdEvents_ok hI4 ?_
  unfold S14_5 B14_5
  simp only [gd_tt]
  refine holdSessions_ok hI4 ?_
  unfold S14_4 B14_4
  simp only [gd_tt]
  refine holdSteps_ok hI4 ?_
  unfold S14_3 B14_3
  simp only [gd_tt]
  refine holdServeds_ok hI4 ?_
  unfold S14_2 B14_2
  simp only [gd_tt]
  refine holdRules_ok hI4 ?_
  unfold S14_1
  simp only [gd_tt]
  refine holdChanges_ok hI4 ?_
  exact hk _ e
end
end Go.Proofs.YtdgffjkcpbolmaaGreatDoor.X
