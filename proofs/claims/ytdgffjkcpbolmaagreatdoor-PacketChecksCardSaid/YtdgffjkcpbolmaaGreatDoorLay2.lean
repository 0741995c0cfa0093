/-
  The room: Bytes, Asks, Ints, Texts, Message, Packet. No condition.
-/
import Derived.Test.YtdgffjkcpbolmaaGreatDoorLay
import Derived.Test.YtdgffjkcpbolmaaGreatDoorFxAgg
namespace Go.Proofs.YtdgffjkcpbolmaaGreatDoor.X
open Go Go.RowKit Go.Proofs.YtdgffjkcpbolmaaGreatDoor.Fx
set_option maxRecDepth 100000
set_option linter.unusedVariables false
section
variable {w w0 : World} {r L N : Nat} {cs : List Value} {F : Nat → Prop} {v : Value} {k : Value → World → Prop}
/-- What a lay call leaves. -/
def Laid {α : Type} (E : Kn α) [Flat E] (w : World) (r L : Nat) (cs : List Value) (F : Nat → Prop) (xs : List α) (k : Value → World → Prop) : Prop :=
  ∀ v' w' cs' F' b, LayS w w' r cs F cs' F' → RoomInv w' r cs' F' (L + 1) → SlB E w' b v' xs → b < w'.heap.size → w.heap.size ≤ b → ¬ rows r cs' b → k v' w'
theorem layBytes_ok {xs : List UInt8} (hI : RoomInv w r cs F L) (hv : Sl Kn.byte w0 v xs) (h0 : Ext w0 w) (hN : N ≤ 1000000) (hx : xs.length ≤ 1000000) (hL : L ≤ 1000000000) (hk : Laid Kn.byte w r L cs F xs k) :
    CallF P 89 #[.pointer (some ⟨r, 0, none⟩), v, .int .i64 N] w k := by
  refine c89 _ _ _ _ _ ?_
  refine lay_ok (E := Kn.byte) (T := 22) (TT := 33) (j := 0) (K := ⟨22, 5, 1, fun i => [.int .u8 (IntKind.u8.wrap (lotv i))]⟩) (f := 0) (g := 1) (S := 51) (bytes := 1)
    (mk := fun x w K => CallF P 117 #[x] w fun v w => XV P (convert 3 5 v) w fun v w => XV P (Instr.buildSlice 22 1 #[(0, v)]) w K) rfl rfl rfl hI hv h0 hN hx (by omega) hL ?_ hk
  intro i w k hi hk
  refine lot_ok (by omega) ?_
  rw [XV_eq (run_convert_int (P := P) w 3 5 .i64 (lotv i) (by kernel_rfl) (by kernel_rfl)), XV_eq (run_buildSlice1 (E := 5) (sz := 1) (bytes := 1) (by rfl) (by omega))]
  exact hk _ _ _ (ext_alloc _ _) fun j u hu => by rw [← hu]; exact (Blk.new w [.int .u8 (IntKind.u8.wrap (lotv i))] 5).cell j
theorem layInts_ok {xs : List Int} (hI : RoomInv w r cs F L) (hv : Sl Kn.int w0 v xs) (h0 : Ext w0 w) (hN : N ≤ 1000000) (hx : xs.length ≤ 1000000) (hL : L ≤ 1000000000) (hk : Laid Kn.int w r L cs F xs k) :
    CallF P 91 #[.pointer (some ⟨r, 0, none⟩), v, .int .i64 N] w k := by
  refine c91 _ _ _ _ _ ?_
  refine lay_ok (E := Kn.int) (T := 26) (TT := 34) (j := 1) (K := ⟨26, 3, 1, fun i => [.int .i64 (lotv i)]⟩) (f := 2) (g := 3) (S := 51) (bytes := 8)
    (mk := fun x w K => CallF P 117 #[x] w fun v w => XV P (Instr.buildSlice 26 1 #[(0, v)]) w K) rfl rfl rfl hI hv h0 hN hx (by omega) hL ?_ hk
  intro i w k hi hk
  refine lot_ok (by omega) ?_
  rw [XV_eq (run_buildSlice1 (E := 3) (sz := 1) (bytes := 8) (by rfl) (by omega))]
  exact hk _ _ _ (ext_alloc _ _) fun j u hu => by rw [← hu]; exact (Blk.new w [.int .i64 (lotv i)] 3).cell j
theorem layTexts_ok {xs : List ByteArray} (hI : RoomInv w r cs F L) (hv : Sl Kn.str w0 v xs) (h0 : Ext w0 w) (hN : N ≤ 1000000) (hx : xs.length ≤ 1000000) (hL : L ≤ 1000000000) (hk : Laid Kn.str w r L cs F xs k) :
    CallF P 92 #[.pointer (some ⟨r, 0, none⟩), v, .int .i64 N] w k := by
  refine c92 _ _ _ _ _ ?_
  refine lay_ok (E := Kn.str) (T := 27) (TT := 35) (j := 2) (K := ⟨27, 9, 1, fun i => [.string (wordv i)]⟩) (f := 4) (g := 5) (S := 51) (bytes := 16)
    (mk := fun x w K => CallF P 118 #[x] w fun v w => XV P (Instr.buildSlice 27 1 #[(0, v)]) w K) rfl rfl rfl hI hv h0 hN hx (by omega) hL ?_ hk
  intro i w k hi hk
  refine word_ok (by omega) ?_
  rw [XV_eq (run_buildSlice1 (E := 9) (sz := 1) (bytes := 16) (by rfl) (by omega))]
  exact hk _ _ _ (ext_alloc _ _) fun j u hu => by rw [← hu]; exact (Blk.new w [.string (wordv i)] 9).cell j
theorem layAsks_ok {xs : List (ByteArray × Int)} (hI : RoomInv w r cs F L) (hv : Sl Kn.ask w0 v xs) (h0 : Ext w0 w) (hN : N ≤ 1000000) (hx : xs.length ≤ 1000000) (hL : L ≤ 1000000000) (hk : Laid Kn.ask w r L cs F xs k) :
    CallF P 90 #[.pointer (some ⟨r, 0, none⟩), v, .int .i64 N] w k := by
  refine c90 _ _ _ _ _ ?_
  refine lay_ok (E := Kn.ask) (T := 25) (TT := 36) (j := 3) (K := ⟨25, 73, 2, fun i => [.string (wordv i), .int .i64 0]⟩) (f := 6) (g := 7) (S := 51) (bytes := 24)
    (mk := fun x w K => CallF P 118 #[x] w fun v w => XV P (Instr.build 73 #[(0, v)]) w fun v w => XV P (Instr.buildSlice 25 1 #[(0, v)]) w K) rfl rfl rfl hI hv h0 hN hx (by omega) hL ?_ hk
  intro i w k hi hk
  refine word_ok (by omega) ?_
  rw [XV_eq (show (Instr.build 73 #[(0, .string (wordv i))]).run P w = .ok (.agg #[.string (wordv i), .int .i64 0]) w by kernel_rfl), XV_eq (run_buildSlice1 (E := 73) (sz := 2) (bytes := 24) (by rfl) (by omega))]
  exact hk _ _ _ (ext_alloc _ _) fun j u hu => by rw [← hu]; exact (Blk.new w [.string (wordv i), .int .i64 0] 73).cell j
theorem Bytes_ok {xs : List UInt8} (hI : RoomInv w r cs F L) (hv : Sl Kn.byte w0 v xs) (h0 : Ext w0 w) (hx : xs.length ≤ 1000000) (hL : L ≤ 1000000000) (hk : Laid Kn.byte w r L cs F xs k) : CallF P 27 #[.pointer (some ⟨r, 0, none⟩), v] w k :=
  c27 _ _ _ _ (layBytes_ok hI hv h0 (N := 600) (by omega) hx hL hk)
theorem Ints_ok {xs : List Int} (hI : RoomInv w r cs F L) (hv : Sl Kn.int w0 v xs) (h0 : Ext w0 w) (hx : xs.length ≤ 1000000) (hL : L ≤ 1000000000) (hk : Laid Kn.int w r L cs F xs k) : CallF P 29 #[.pointer (some ⟨r, 0, none⟩), v] w k :=
  c29 _ _ _ _ (layInts_ok hI hv h0 (N := 40) (by omega) hx hL hk)
theorem Texts_ok {xs : List ByteArray} (hI : RoomInv w r cs F L) (hv : Sl Kn.str w0 v xs) (h0 : Ext w0 w) (hx : xs.length ≤ 1000000) (hL : L ≤ 1000000000) (hk : Laid Kn.str w r L cs F xs k) : CallF P 30 #[.pointer (some ⟨r, 0, none⟩), v] w k :=
  c30 _ _ _ _ (layTexts_ok hI hv h0 (N := 40) (by omega) hx hL hk)
theorem Asks_ok {xs : List (ByteArray × Int)} (hI : RoomInv w r cs F L) (hv : Sl Kn.ask w0 v xs) (h0 : Ext w0 w) (hx : xs.length ≤ 1000000) (hL : L ≤ 1000000000) (hk : Laid Kn.ask w r L cs F xs k) : CallF P 28 #[.pointer (some ⟨r, 0, none⟩), v] w k :=
  c28 _ _ _ _ (layAsks_ok hI hv h0 (N := 40) (by omega) hx hL hk)
end
end Go.Proofs.YtdgffjkcpbolmaaGreatDoor.X
