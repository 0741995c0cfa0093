/- Shallow forms of Go functions, written by the tool fx.py of this session, each with the proof that the call does what its form says. No condition. -/
import Derived.Test.YtdgffjkcpbolmaaGreatDoorFxP
namespace Go.Proofs.YtdgffjkcpbolmaaGreatDoor.X
open Go Go.RowKit Go.Proofs.Tryz Go.Proofs.YtdgffjkcpbolmaaGreatDoor.Fx
set_option linter.unusedVariables false
set_option linter.constructorNameAsVariable false
set_option maxRecDepth 100000
/-! ### 15 "crier/crierlaw2.tells" -/
noncomputable abbrev b15_0 : Code := (f15.body).getD .skip
abbrev D15 : Plans := [(1, [(0, false), (2, false), (1, true), (3, true), (4, false), (5, false), (6, false), (8, false), (7, true), (9, true), (10, false), (11, false), (12, false), (13, false), (15, false), (14, true), (16, true), (17, false), (18, false), (19, false), (20, false), (21, false), (23, false), (24, false), (22, true), (25, true), (26, false), (27, false), (28, false)], 29)]
abbrev Q15_0 (R : Value → World → Prop) : Post := retQ P f15.results.toList R
def S15_0 (x0 x1 : Value) (w : World) (R : Value → World → Prop) : Prop :=
 XV P (Instr.box 29 x0) w fun v2 w1 =>
 XV P (Instr.box 29 x1) w1 fun v3 w2 =>
 XS P (Ext (World.drew w2)) (Instr.loadAt 29 v2) fun v5 =>
 XS P (Ext (World.drew w2)) (Instr.loadAt 29 v3) fun v7 =>
 CallF P 79 #[v5] (World.drew w2) fun v6 w3 =>
 Ext (World.drew w2) w3 ∧
 CallF P 80 #[v7] w3 fun v8 w4 =>
 Ext (World.drew w2) w4 ∧
 XS P (Ext (World.drew w2)) (binS .eql 3 false v6 v8) fun v9 =>
 gd v9 true (
  XS P (Ext (World.drew w2)) (Instr.loadAt 29 v2) fun v11 =>
  XS P (Ext (World.drew w2)) (Instr.loadAt 29 v3) fun v13 =>
  CallF P 81 #[v11] w4 fun v12 w5 =>
  Ext (World.drew w2) w5 ∧
  CallF P 82 #[v13] w5 fun v14 w6 =>
  Ext (World.drew w2) w6 ∧
  XS P (Ext (World.drew w2)) (binS .eql 3 false v12 v14) fun v15 =>
  gd v15 true (
   XS P (Ext (World.drew w2)) (Instr.loadAt 29 v2) fun v18 =>
   XS P (Ext (World.drew w2)) (Instr.loadAt 29 v3) fun v20 =>
   CallF P 83 #[v18] w6 fun v19 w7 =>
   Ext (World.drew w2) w7 ∧
   CallF P 84 #[v20] w7 fun v21 w8 =>
   Ext (World.drew w2) w8 ∧
   XS P (Ext (World.drew w2)) (binS .eql 3 false v19 v21) fun v22 =>
   gd v22 true (
    LBS P (Ext (World.drew w2)) 29 24 14 v2 fun v26 =>
    LBS P (Ext (World.drew w2)) 29 24 14 v3 fun v29 =>
    CallF P 85 #[v26] w8 fun v27 w9 =>
    Ext (World.drew w2) w9 ∧
    CallF P 86 #[v29] w9 fun v30 w10 =>
    Ext (World.drew w2) w10 ∧
    XS P (Ext (World.drew w2)) (binS .eql 3 false v27 v30) fun v31 =>
    R v31 w10) (
    R (.bool false) w8)) (
   R (.bool false) w6)) (
  R (.bool false) w4)
theorem e15_0 (x0 x1 : Value) (w : World) (R : Value → World → Prop) : S15_0 x0 x1 w R = Wp P 33 D15 [] b15_0 [] (Q15_0 R) [(0, some x0), (1, some x1)] w := by kernel_rfl
theorem q15_0 (x0 x1 : Value) (w : World) (R : Value → World → Prop) (h : S15_0 x0 x1 w R) : Runs P 33 (subC [] b15_0) (postC P 33 [] b15_0 (Q15_0 R)) [(0, some x0), (1, some x1)] w :=
  Wp_use mixed (e15_0 x0 x1 w R) h (fun _ _ _ h => h) trivial
theorem c15 (x0 x1 : Value) (w : World) (R : Value → World → Prop) (h : S15_0 x0 x1 w R) : CallF P 15 #[x0, x1] w R :=
  call_of_runs (args := [x0, x1]) (c := b15_0) (by kernel_rfl) func15 rfl (by kernel_rfl) (q15_0 x0 x1 w R h)

/-! ### 4 "crier/crierlaw2.PacketChecks" -/
noncomputable abbrev b4_0 : Code := (f4.body).getD .skip
abbrev D4 : Plans := []
abbrev Q4_0 (R : Value → World → Prop) : Post := retQ P f4.results.toList R
def S4_0 (x0 : Value) (w : World) (R : Value → World → Prop) : Prop :=
 XV P (Instr.box 29 x0) w fun v1 w1 =>
 XV P (Instr.loadAt 29 v1) w1 fun v5 w2 =>
 XV P (Instr.buildSlice 65 1 #[(0, v5)]) w2 fun v6 w3 =>
 CallF P 5 #[v6] w3 fun v7 w4 =>
 XV P (Op.unary .not v7) w4 fun v8 w5 =>
 condW v8 (
  R (.bool true) w5) (
  XV P (Instr.build 51 #[]) w5 fun v9 w6 =>
  XV P (Instr.box 51 v9) w6 fun v10 w7 =>
  XV P (Instr.loadAt 29 v1) w7 fun v12 w8 =>
  CallF P 8 #[v10, v12] w8 fun v13 w9 =>
  XV P (Instr.alloc 29 true (.tuple #[])) w9 fun v4 w10 =>
  XU P (Instr.storeAt 29 v4 v13) w10 fun w11 =>
  XV P (Instr.loadAt 29 v4) w11 fun v14 w12 =>
  XV P (Instr.loadAt 29 v1) w12 fun v15 w13 =>
  CallF P 15 #[v14, v15] w13 fun v16 w14 =>
  gd v16 true (
   XV P (Instr.loadAt 29 v4) w14 fun v18 w15 =>
   XV P (Instr.loadAt 29 v1) w15 fun v19 w16 =>
   CallF P 15 #[v18, v19] w16 fun v20 w17 =>
   gd v20 true (
    XV P (Instr.loadAt 29 v4) w17 fun v23 w18 =>
    XV P (Instr.loadAt 29 v1) w18 fun v24 w19 =>
    CallF P 7 #[v23, v24] w19 fun v25 w20 =>
    gd v25 true (
     CallF P 14 #[v10] w20 fun v29 w21 =>
     R v29 w21) (
     R (.bool false) w20)) (
    R (.bool false) w17)) (
   R (.bool false) w14))
theorem e4_0 (x0 : Value) (w : World) (R : Value → World → Prop) : S4_0 x0 w R = Wp P 31 D4 [] b4_0 [] (Q4_0 R) [(0, some x0)] w := by kernel_rfl
theorem q4_0 (x0 : Value) (w : World) (R : Value → World → Prop) (h : S4_0 x0 w R) : Runs P 31 (subC [] b4_0) (postC P 31 [] b4_0 (Q4_0 R)) [(0, some x0)] w :=
  Wp_use mixed (e4_0 x0 w R) h (fun _ _ _ h => h) trivial
theorem c4 (x0 : Value) (w : World) (R : Value → World → Prop) (h : S4_0 x0 w R) : CallF P 4 #[x0] w R :=
  call_of_runs (args := [x0]) (c := b4_0) (by kernel_rfl) func4 rfl (by kernel_rfl) (q4_0 x0 w R h)

end Go.Proofs.YtdgffjkcpbolmaaGreatDoor.X
