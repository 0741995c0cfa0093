/- Shallow forms of Go functions, written by the tool fx.py of this session, each with the proof that the call does what its form says. No condition. -/
import Derived.Test.YtdgffjkcpbolmaaGreatDoorFxP
namespace Go.Proofs.YtdgffjkcpbolmaaGreatDoor.X
open Go Go.RowKit Go.Proofs.Tryz Go.Proofs.YtdgffjkcpbolmaaGreatDoor.Fx
set_option linter.unusedVariables false
set_option linter.constructorNameAsVariable false
set_option maxRecDepth 100000
/-! ### 119 "crier/packet.isKind" -/
noncomputable abbrev b119_0 : Code := (f119.body).getD .skip
abbrev D119 : Plans := []
abbrev Q119_0 (R : Value → World → Prop) : Post := retQ P f119.results.toList R
def S119_0 (x0 : Value) (w : World) (R : Value → World → Prop) : Prop :=
 XV P (binS .geq 3 true x0 (.int .i64 1)) w fun v4 w1 =>
 gd v4 true (
  XV P (binS .leq 3 true x0 (.int .i64 14)) w1 fun v7 w2 =>
  R v7 w2) (
  R (.bool false) w1)
theorem e119_0 (x0 : Value) (w : World) (R : Value → World → Prop) : S119_0 x0 w R = Wp P 9 D119 [] b119_0 [] (Q119_0 R) [(0, some x0)] w := by kernel_rfl
theorem q119_0 (x0 : Value) (w : World) (R : Value → World → Prop) (h : S119_0 x0 w R) : Runs P 9 (subC [] b119_0) (postC P 9 [] b119_0 (Q119_0 R)) [(0, some x0)] w :=
  Wp_use mixed (e119_0 x0 w R) h (fun _ _ _ h => h) trivial
theorem c119 (x0 : Value) (w : World) (R : Value → World → Prop) (h : S119_0 x0 w R) : CallF P 119 #[x0] w R :=
  call_of_runs (args := [x0]) (c := b119_0) (by kernel_rfl) func119 rfl (by kernel_rfl) (q119_0 x0 w R h)

/-! ### 135 "crier/packet.isQoS" -/
noncomputable abbrev b135_0 : Code := (f135.body).getD .skip
abbrev D135 : Plans := []
abbrev Q135_0 (R : Value → World → Prop) : Post := retQ P f135.results.toList R
def S135_0 (x0 : Value) (w : World) (R : Value → World → Prop) : Prop :=
 XV P (binS .geq 3 true x0 (.int .i64 0)) w fun v4 w1 =>
 gd v4 true (
  XV P (binS .leq 3 true x0 (.int .i64 2)) w1 fun v7 w2 =>
  R v7 w2) (
  R (.bool false) w1)
theorem e135_0 (x0 : Value) (w : World) (R : Value → World → Prop) : S135_0 x0 w R = Wp P 9 D135 [] b135_0 [] (Q135_0 R) [(0, some x0)] w := by kernel_rfl
theorem q135_0 (x0 : Value) (w : World) (R : Value → World → Prop) (h : S135_0 x0 w R) : Runs P 9 (subC [] b135_0) (postC P 9 [] b135_0 (Q135_0 R)) [(0, some x0)] w :=
  Wp_use mixed (e135_0 x0 w R) h (fun _ _ _ h => h) trivial
theorem c135 (x0 : Value) (w : World) (R : Value → World → Prop) (h : S135_0 x0 w R) : CallF P 135 #[x0] w R :=
  call_of_runs (args := [x0]) (c := b135_0) (by kernel_rfl) func135 rfl (by kernel_rfl) (q135_0 x0 w R h)

/-! ### 88 "crier/packet.plainly" -/
noncomputable abbrev b88_0 : Code := (f88.body).getD .skip
abbrev D88 : Plans := []
abbrev Q88_0 (R : Value → World → Prop) : Post := retQ P f88.results.toList R
def S88_0 (x0 : Value) (w : World) (R : Value → World → Prop) : Prop :=
 XV P (Instr.box 24 x0) w fun v1 w1 =>
 XV P (Instr.alloc 93 true (.tuple #[])) w1 fun v2 w2 =>
 LB P 24 9 0 v1 w2 fun v4 w4 =>
 LB P 24 3 2 v1 w4 fun v6 w6 =>
 LB P 24 4 3 v1 w6 fun v8 w8 =>
 XV P (Instr.build 93 #[(0, v4), (1, v6), (2, v8)]) w8 fun v9 w9 =>
 XU P (Instr.storeAt 93 v2 v9) w9 fun w10 =>
 ∃ v2_1, (do loadVar 93 (← asAddr v2) : Sem Value).run P w10 = .ok v2_1 w10 ∧ R v2_1 w10
theorem e88_0 (x0 : Value) (w : World) (R : Value → World → Prop) : S88_0 x0 w R = Wp P 10 D88 [] b88_0 [] (Q88_0 R) [(0, some x0)] w := by kernel_rfl
theorem q88_0 (x0 : Value) (w : World) (R : Value → World → Prop) (h : S88_0 x0 w R) : Runs P 10 (subC [] b88_0) (postC P 10 [] b88_0 (Q88_0 R)) [(0, some x0)] w :=
  Wp_use mixed (e88_0 x0 w R) h (fun _ _ _ h => h) trivial
theorem c88 (x0 : Value) (w : World) (R : Value → World → Prop) (h : S88_0 x0 w R) : CallF P 88 #[x0] w R :=
  call_of_runs (args := [x0]) (c := b88_0) (by kernel_rfl) func88 rfl (by kernel_rfl) (q88_0 x0 w R h)

/-! ### 20 "crier/packet.sameMessage" -/
noncomputable abbrev b20_0 : Code := (f20.body).getD .skip
abbrev D20 : Plans := [(1, [(0, false), (2, false), (1, true), (3, true), (4, false), (5, false), (6, false), (7, false), (8, false), (9, false), (10, true), (11, false), (12, false)], 13)]
abbrev Q20_0 (R : Value → World → Prop) : Post := retQ P f20.results.toList R
def S20_0 (x0 x1 : Value) (w : World) (R : Value → World → Prop) : Prop :=
 XV P (Instr.box 24 x0) w fun v2 w1 =>
 XV P (Instr.box 24 x1) w1 fun v3 w2 =>
 XS P (Ext (World.drew w2)) (Instr.loadAt 24 v2) fun v5 =>
 XS P (Ext (World.drew w2)) (Instr.loadAt 24 v3) fun v7 =>
 CallF P 88 #[v5] (World.drew w2) fun v6 w3 =>
 Ext (World.drew w2) w3 ∧
 CallF P 88 #[v7] w3 fun v8 w4 =>
 Ext (World.drew w2) w4 ∧
 XS P (Ext (World.drew w2)) (binS .eql 93 false v6 v8) fun v9 =>
 gd v9 true (
  LBS P (Ext (World.drew w2)) 24 22 1 v2 fun v12 =>
  LBS P (Ext (World.drew w2)) 24 22 1 v3 fun v14 =>
  CallF P 19 #[v12, v14] w4 fun v15 w5 =>
  Ext (World.drew w2) w5 ∧
  R v15 w5) (
  R (.bool false) w4)
theorem e20_0 (x0 x1 : Value) (w : World) (R : Value → World → Prop) : S20_0 x0 x1 w R = Wp P 17 D20 [] b20_0 [] (Q20_0 R) [(0, some x0), (1, some x1)] w := by kernel_rfl
theorem q20_0 (x0 x1 : Value) (w : World) (R : Value → World → Prop) (h : S20_0 x0 x1 w R) : Runs P 17 (subC [] b20_0) (postC P 17 [] b20_0 (Q20_0 R)) [(0, some x0), (1, some x1)] w :=
  Wp_use mixed (e20_0 x0 x1 w R) h (fun _ _ _ h => h) trivial
theorem c20 (x0 x1 : Value) (w : World) (R : Value → World → Prop) (h : S20_0 x0 x1 w R) : CallF P 20 #[x0, x1] w R :=
  call_of_runs (args := [x0, x1]) (c := b20_0) (by kernel_rfl) func20 rfl (by kernel_rfl) (q20_0 x0 x1 w R h)

/-! ### 19 "bytes.Equal" -/
noncomputable abbrev b19_0 : Code := (f19.body).getD .skip
abbrev D19 : Plans := []
abbrev Q19_0 (R : Value → World → Prop) : Post := retQ P f19.results.toList R
def S19_0 (x0 x1 : Value) (w : World) (R : Value → World → Prop) : Prop :=
 XV P (convert 22 9 x0) w fun v6 w1 =>
 XV P (convert 22 9 x1) w1 fun v8 w2 =>
 XV P (binS .eql 9 false v6 v8) w2 fun v9 w3 =>
 R v9 w3
theorem e19_0 (x0 x1 : Value) (w : World) (R : Value → World → Prop) : S19_0 x0 x1 w R = Wp P 10 D19 [] b19_0 [] (Q19_0 R) [(0, some x0), (1, some x1)] w := by kernel_rfl
theorem q19_0 (x0 x1 : Value) (w : World) (R : Value → World → Prop) (h : S19_0 x0 x1 w R) : Runs P 10 (subC [] b19_0) (postC P 10 [] b19_0 (Q19_0 R)) [(0, some x0), (1, some x1)] w :=
  Wp_use mixed (e19_0 x0 x1 w R) h (fun _ _ _ h => h) trivial
theorem c19 (x0 x1 : Value) (w : World) (R : Value → World → Prop) (h : S19_0 x0 x1 w R) : CallF P 19 #[x0, x1] w R :=
  call_of_runs (args := [x0, x1]) (c := b19_0) (by kernel_rfl) func19 rfl (by kernel_rfl) (q19_0 x0 x1 w R h)

/-! ### 125 "crier/packet.numbered" -/
noncomputable abbrev b125_0 : Code := (f125.body).getD .skip
abbrev D125 : Plans := []
abbrev Q125_0 (R : Value → World → Prop) : Post := retQ P f125.results.toList R
def S125_0 (x0 : Value) (w : World) (R : Value → World → Prop) : Prop :=
 XV P (Instr.box 29 x0) w fun v1 w1 =>
 LB P 29 3 0 v1 w1 fun v4 w3 =>
 LI P 159 3 (.pointer (some ⟨0, 0, none⟩)) v4 w3 fun v6 w5 =>
 XV P (binS .and 3 true v6 (.int .i64 8)) w5 fun v7 w6 =>
 XV P (binS .gtr 3 true v7 (.int .i64 0)) w6 fun v8 w7 =>
 gd v8 false (
  LB P 29 3 0 v1 w7 fun v11 w9 =>
  LI P 159 3 (.pointer (some ⟨0, 0, none⟩)) v11 w9 fun v13 w11 =>
  XV P (binS .and 3 true v13 (.int .i64 4)) w11 fun v14 w12 =>
  XV P (binS .gtr 3 true v14 (.int .i64 0)) w12 fun v15 w13 =>
  gd v15 true (
   XV P (Instr.fieldAt 29 v1 14) w13 fun v17 w14 =>
   LB P 24 3 2 v17 w14 fun v19 w16 =>
   XV P (binS .neq 3 true v19 (.int .i64 0)) w16 fun v20 w17 =>
   R v20 w17) (
   R (.bool false) w13)) (
  R (.bool true) w7)
theorem e125_0 (x0 : Value) (w : World) (R : Value → World → Prop) : S125_0 x0 w R = Wp P 23 D125 [] b125_0 [] (Q125_0 R) [(0, some x0)] w := by kernel_rfl
theorem q125_0 (x0 : Value) (w : World) (R : Value → World → Prop) (h : S125_0 x0 w R) : Runs P 23 (subC [] b125_0) (postC P 23 [] b125_0 (Q125_0 R)) [(0, some x0)] w :=
  Wp_use mixed (e125_0 x0 w R) h (fun _ _ _ h => h) trivial
theorem c125 (x0 : Value) (w : World) (R : Value → World → Prop) (h : S125_0 x0 w R) : CallF P 125 #[x0] w R :=
  call_of_runs (args := [x0]) (c := b125_0) (by kernel_rfl) func125 rfl (by kernel_rfl) (q125_0 x0 w R h)

/-! ### 120 "crier/packet.foreign" -/
noncomputable abbrev b120_0 : Code := (f120.body).getD .skip
abbrev D120 : Plans := []
abbrev Q120_0 (R : Value → World → Prop) : Post := retQ P f120.results.toList R
def S120_1 (x1 x3 x121 : Value) (w : World) (R : Value → World → Prop) : Prop :=
 condW x121 (
  R (.bool true) w) (
  XV P (binS .and 3 true x3 (.int .i64 64)) w fun v133 w1 =>
  XV P (binS .eql 3 true v133 (.int .i64 0)) w1 fun v134 w2 =>
  gd v134 true (
   LB P 29 27 18 x1 w2 fun v137 w4 =>
   XV P (Builtin.len_ #[27] 3 #[v137]) w4 fun v138 w5 =>
   XV P (binS .gtr 3 true v138 (.int .i64 0)) w5 fun v139 w6 =>
   condW v139 (
    R (.bool true) w6) (
    R (.bool false) w6)) (
   R (.bool false) w2))
def B120_2 (Z1 : Value → Value → Value → World → Prop) (x1 x3 x111 : Value) (w : World) (R : Value → World → Prop) : Prop :=
 condW x111 (
  R (.bool true) w) (
  XV P (binS .and 3 true x3 (.int .i64 32)) w fun v123 w1 =>
  XV P (binS .eql 3 true v123 (.int .i64 0)) w1 fun v124 w2 =>
  gd v124 true (
   LB P 29 26 17 x1 w2 fun v127 w4 =>
   XV P (Builtin.len_ #[26] 3 #[v127]) w4 fun v128 w5 =>
   XV P (binS .gtr 3 true v128 (.int .i64 0)) w5 fun v129 w6 =>
   Z1 x1 x3 v129 w6) (
   Z1 x1 x3 (.bool false) w2))
def S120_2 (x1 x3 x111 : Value) (w : World) (R : Value → World → Prop) : Prop := B120_2 (fun x1 x3 x121 w => S120_1 x1 x3 x121 w R) x1 x3 x111 w R
def B120_3 (Z2 : Value → Value → Value → World → Prop) (x1 x3 x102 : Value) (w : World) (R : Value → World → Prop) : Prop :=
 condW x102 (
  R (.bool true) w) (
  XV P (binS .and 3 true x3 (.int .i64 16)) w fun v113 w1 =>
  XV P (binS .eql 3 true v113 (.int .i64 0)) w1 fun v114 w2 =>
  gd v114 true (
   LB P 29 25 16 x1 w2 fun v117 w4 =>
   XV P (Builtin.len_ #[25] 3 #[v117]) w4 fun v118 w5 =>
   XV P (binS .gtr 3 true v118 (.int .i64 0)) w5 fun v119 w6 =>
   Z2 x1 x3 v119 w6) (
   Z2 x1 x3 (.bool false) w2))
def S120_3 (x1 x3 x102 : Value) (w : World) (R : Value → World → Prop) : Prop := B120_3 (fun x1 x3 x111 w => S120_2 x1 x3 x111 w R) x1 x3 x102 w R
def B120_4 (Z3 : Value → Value → Value → World → Prop) (x1 x3 x87 : Value) (w : World) (R : Value → World → Prop) : Prop :=
 condW x87 (
  R (.bool true) w) (
  XV P (Instr.loadAt 29 x1) w fun v103 w1 =>
  CallF P 125 #[v103] w1 fun v104 w2 =>
  XV P (Op.unary .not v104) w2 fun v105 w3 =>
  gd v105 true (
   LB P 29 3 15 x1 w3 fun v108 w5 =>
   XV P (binS .neq 3 true v108 (.int .i64 0)) w5 fun v109 w6 =>
   Z3 x1 x3 v109 w6) (
   Z3 x1 x3 (.bool false) w3))
def S120_4 (x1 x3 x87 : Value) (w : World) (R : Value → World → Prop) : Prop := B120_4 (fun x1 x3 x102 w => S120_3 x1 x3 x102 w R) x1 x3 x87 w R
def B120_5 (Z4 : Value → Value → Value → World → Prop) (x1 x3 x4 x74 : Value) (w : World) (R : Value → World → Prop) : Prop :=
 condW x74 (
  R (.bool true) w) (
  XV P (binS .and 3 true x3 (.int .i64 4)) w fun v89 w1 =>
  XV P (binS .eql 3 true v89 (.int .i64 0)) w1 fun v90 w2 =>
  gd v90 true (
   LB P 29 4 13 x1 w2 fun v93 w4 =>
   gd v93 false (
    LB P 29 24 14 x1 w4 fun v96 w6 =>
    XV P (Instr.loadAt 24 x4) w6 fun v97 w7 =>
    CallF P 20 #[v96, v97] w7 fun v98 w8 =>
    XV P (Op.unary .not v98) w8 fun v99 w9 =>
    Z4 x1 x3 v99 w9) (
    Z4 x1 x3 (.bool true) w4)) (
   Z4 x1 x3 (.bool false) w2))
def S120_5 (x1 x3 x4 x74 : Value) (w : World) (R : Value → World → Prop) : Prop := B120_5 (fun x1 x3 x87 w => S120_4 x1 x3 x87 w R) x1 x3 x4 x74 w R
def B120_6 (Z5 : Value → Value → Value → Value → World → Prop) (x1 x3 x4 x64 : Value) (w : World) (R : Value → World → Prop) : Prop :=
 condW x64 (
  R (.bool true) w) (
  XV P (binS .and 3 true x3 (.int .i64 2)) w fun v76 w1 =>
  XV P (binS .eql 3 true v76 (.int .i64 0)) w1 fun v77 w2 =>
  gd v77 true (
   LB P 29 4 11 x1 w2 fun v80 w4 =>
   gd v80 false (
    LB P 29 3 12 x1 w4 fun v83 w6 =>
    XV P (binS .neq 3 true v83 (.int .i64 0)) w6 fun v84 w7 =>
    Z5 x1 x3 x4 v84 w7) (
    Z5 x1 x3 x4 (.bool true) w4)) (
   Z5 x1 x3 x4 (.bool false) w2))
def S120_6 (x1 x3 x4 x64 : Value) (w : World) (R : Value → World → Prop) : Prop := B120_6 (fun x1 x3 x4 x74 w => S120_5 x1 x3 x4 x74 w R) x1 x3 x4 x64 w R
def B120_7 (Z6 : Value → Value → Value → Value → World → Prop) (x1 x3 x4 x55 : Value) (w : World) (R : Value → World → Prop) : Prop :=
 condW x55 (
  R (.bool true) w) (
  LB P 29 4 9 x1 w fun v66 w2 =>
  XV P (Op.unary .not v66) w2 fun v67 w3 =>
  gd v67 true (
   LB P 29 22 10 x1 w3 fun v70 w5 =>
   XV P (Builtin.len_ #[22] 3 #[v70]) w5 fun v71 w6 =>
   XV P (binS .gtr 3 true v71 (.int .i64 0)) w6 fun v72 w7 =>
   Z6 x1 x3 x4 v72 w7) (
   Z6 x1 x3 x4 (.bool false) w3))
def S120_7 (x1 x3 x4 x55 : Value) (w : World) (R : Value → World → Prop) : Prop := B120_7 (fun x1 x3 x4 x64 w => S120_6 x1 x3 x4 x64 w R) x1 x3 x4 x55 w R
def B120_8 (Z7 : Value → Value → Value → Value → World → Prop) (x1 x3 x4 x44 : Value) (w : World) (R : Value → World → Prop) : Prop :=
 condW x44 (
  R (.bool true) w) (
  LB P 29 4 7 x1 w fun v57 w2 =>
  XV P (Op.unary .not v57) w2 fun v58 w3 =>
  gd v58 true (
   LB P 29 9 8 x1 w3 fun v61 w5 =>
   XV P (binS .neq 9 true v61 (.string { data := #[] })) w5 fun v62 w6 =>
   Z7 x1 x3 x4 v62 w6) (
   Z7 x1 x3 x4 (.bool false) w3))
def S120_8 (x1 x3 x4 x44 : Value) (w : World) (R : Value → World → Prop) : Prop := B120_8 (fun x1 x3 x4 x55 w => S120_7 x1 x3 x4 x55 w R) x1 x3 x4 x44 w R
def B120_9 (Z8 : Value → Value → Value → Value → World → Prop) (x1 x3 x4 x9 : Value) (w : World) (R : Value → World → Prop) : Prop :=
 condW x9 (
  R (.bool true) w) (
  LB P 29 4 5 x1 w fun v46 w2 =>
  XV P (Op.unary .not v46) w2 fun v47 w3 =>
  gd v47 true (
   LB P 29 24 6 x1 w3 fun v50 w5 =>
   XV P (Instr.loadAt 24 x4) w5 fun v51 w6 =>
   CallF P 20 #[v50, v51] w6 fun v52 w7 =>
   XV P (Op.unary .not v52) w7 fun v53 w8 =>
   Z8 x1 x3 x4 v53 w8) (
   Z8 x1 x3 x4 (.bool false) w3))
def S120_9 (x1 x3 x4 x9 : Value) (w : World) (R : Value → World → Prop) : Prop := B120_9 (fun x1 x3 x4 x44 w => S120_8 x1 x3 x4 x44 w R) x1 x3 x4 x9 w R
def B120_0 (Z9 : Value → Value → Value → Value → World → Prop) (x0 : Value) (w : World) (R : Value → World → Prop) : Prop :=
 XV P (Instr.box 29 x0) w fun v1 w1 =>
 LB P 29 3 0 v1 w1 fun v6 w3 =>
 LI P 159 3 (.pointer (some ⟨0, 0, none⟩)) v6 w3 fun v8 w5 =>
 XV P (Instr.alloc 24 true (.tuple #[])) w5 fun v4 w6 =>
 XV P (binS .and 3 true v8 (.int .i64 1)) w6 fun v11 w7 =>
 XV P (binS .eql 3 true v11 (.int .i64 0)) w7 fun v12 w8 =>
 gd v12 true (
  LB P 29 3 1 v1 w8 fun v15 w10 =>
  XV P (binS .neq 3 true v15 (.int .i64 0)) w10 fun v16 w11 =>
  gd v16 false (
   LB P 29 4 2 v1 w11 fun v19 w13 =>
   gd v19 false (
    LB P 29 3 3 v1 w13 fun v23 w15 =>
    XV P (binS .neq 3 true v23 (.int .i64 0)) w15 fun v24 w16 =>
    gd v24 false (
     LB P 29 9 4 v1 w16 fun v28 w18 =>
     XV P (binS .neq 9 true v28 (.string { data := #[] })) w18 fun v29 w19 =>
     gd v29 false (
      LB P 29 4 5 v1 w19 fun v33 w21 =>
      gd v33 false (
       LB P 29 4 7 v1 w21 fun v37 w23 =>
       gd v37 false (
        LB P 29 4 9 v1 w23 fun v41 w25 =>
        Z9 v1 v8 v4 v41 w25) (
        Z9 v1 v8 v4 (.bool true) w23)) (
       Z9 v1 v8 v4 (.bool true) w21)) (
      Z9 v1 v8 v4 (.bool true) w19)) (
     Z9 v1 v8 v4 (.bool true) w16)) (
    Z9 v1 v8 v4 (.bool true) w13)) (
   Z9 v1 v8 v4 (.bool true) w11)) (
  Z9 v1 v8 v4 (.bool false) w8)
def S120_0 (x0 : Value) (w : World) (R : Value → World → Prop) : Prop := B120_0 (fun x1 x3 x4 x9 w => S120_9 x1 x3 x4 x9 w R) x0 w R
theorem e120_1 (x1 x3 x121 : Value) (w : World) (R : Value → World → Prop) : S120_1 x1 x3 x121 w R = Wp P 141 D120 [true, true, true, false, false, true, true, true, true, true, true, true, true, true, true, true, true, true, true, true, true, true] b120_0 [] (Q120_0 R) [(1, some x1), (3, some x3), (121, some x121)] w := by kernel_rfl
theorem q120_1 (x1 x3 x121 : Value) (w : World) (R : Value → World → Prop) (h : S120_1 x1 x3 x121 w R) : Runs P 141 (subC [true, true, true, false, false, true, true, true, true, true, true, true, true, true, true, true, true, true, true, true, true, true] b120_0) (postC P 141 [true, true, true, false, false, true, true, true, true, true, true, true, true, true, true, true, true, true, true, true, true, true] b120_0 (Q120_0 R)) [(1, some x1), (3, some x3), (121, some x121)] w :=
  Wp_use mixed (e120_1 x1 x3 x121 w R) h (fun _ _ _ h => h) trivial
theorem e120_2 (Z1 : Value → Value → Value → World → Prop) (x1 x3 x111 : Value) (w : World) (R : Value → World → Prop) : B120_2 Z1 x1 x3 x111 w R = Wp P 141 D120 [true, true, true, false, false, true, true, true, true, true, true, true, true, true, true, true, true, true, true, true] b120_0 [([true, true, true, false, false, true, true, true, true, true, true, true, true, true, true, true, true, true, true, true, true, true], fun e w => E1 e (.tmp 1) fun x1 => E1 e (.tmp 3) fun x3 => E1 e (.tmp 121) fun x121 => Z1 x1 x3 x121 w)] (Q120_0 R) [(1, some x1), (3, some x3), (111, some x111)] w := by kernel_rfl
theorem q120_2 (x1 x3 x111 : Value) (w : World) (R : Value → World → Prop) (h : S120_2 x1 x3 x111 w R) : Runs P 141 (subC [true, true, true, false, false, true, true, true, true, true, true, true, true, true, true, true, true, true, true, true] b120_0) (postC P 141 [true, true, true, false, false, true, true, true, true, true, true, true, true, true, true, true, true, true, true, true] b120_0 (Q120_0 R)) [(1, some x1), (3, some x3), (111, some x111)] w :=
  Wp_use mixed (e120_2 (fun x1 x3 x121 w => S120_1 x1 x3 x121 w R) x1 x3 x111 w R) h (fun _ _ _ h => h) ⟨(fun e w h => let ⟨y1, h1, h⟩ := E1.elim h; let ⟨y3, h3, h⟩ := E1.elim h; let ⟨y121, h121, h⟩ := E1.elim h; (q120_1 y1 y3 y121 w R h).more (sub_cons h1 (sub_cons h3 (sub_cons h121 (sub_nil))))), trivial⟩
theorem e120_3 (Z2 : Value → Value → Value → World → Prop) (x1 x3 x102 : Value) (w : World) (R : Value → World → Prop) : B120_3 Z2 x1 x3 x102 w R = Wp P 141 D120 [true, true, true, false, false, true, true, true, true, true, true, true, true, true, true, true, true, true] b120_0 [([true, true, true, false, false, true, true, true, true, true, true, true, true, true, true, true, true, true, true, true], fun e w => E1 e (.tmp 1) fun x1 => E1 e (.tmp 3) fun x3 => E1 e (.tmp 111) fun x111 => Z2 x1 x3 x111 w)] (Q120_0 R) [(1, some x1), (3, some x3), (102, some x102)] w := by kernel_rfl
theorem q120_3 (x1 x3 x102 : Value) (w : World) (R : Value → World → Prop) (h : S120_3 x1 x3 x102 w R) : Runs P 141 (subC [true, true, true, false, false, true, true, true, true, true, true, true, true, true, true, true, true, true] b120_0) (postC P 141 [true, true, true, false, false, true, true, true, true, true, true, true, true, true, true, true, true, true] b120_0 (Q120_0 R)) [(1, some x1), (3, some x3), (102, some x102)] w :=
  Wp_use mixed (e120_3 (fun x1 x3 x111 w => S120_2 x1 x3 x111 w R) x1 x3 x102 w R) h (fun _ _ _ h => h) ⟨(fun e w h => let ⟨y1, h1, h⟩ := E1.elim h; let ⟨y3, h3, h⟩ := E1.elim h; let ⟨y111, h111, h⟩ := E1.elim h; (q120_2 y1 y3 y111 w R h).more (sub_cons h1 (sub_cons h3 (sub_cons h111 (sub_nil))))), trivial⟩
theorem e120_4 (Z3 : Value → Value → Value → World → Prop) (x1 x3 x87 : Value) (w : World) (R : Value → World → Prop) : B120_4 Z3 x1 x3 x87 w R = Wp P 141 D120 [true, true, true, false, false, true, true, true, true, true, true, true, true, true, true, true] b120_0 [([true, true, true, false, false, true, true, true, true, true, true, true, true, true, true, true, true, true], fun e w => E1 e (.tmp 1) fun x1 => E1 e (.tmp 3) fun x3 => E1 e (.tmp 102) fun x102 => Z3 x1 x3 x102 w)] (Q120_0 R) [(1, some x1), (3, some x3), (87, some x87)] w := by kernel_rfl
theorem q120_4 (x1 x3 x87 : Value) (w : World) (R : Value → World → Prop) (h : S120_4 x1 x3 x87 w R) : Runs P 141 (subC [true, true, true, false, false, true, true, true, true, true, true, true, true, true, true, true] b120_0) (postC P 141 [true, true, true, false, false, true, true, true, true, true, true, true, true, true, true, true] b120_0 (Q120_0 R)) [(1, some x1), (3, some x3), (87, some x87)] w :=
  Wp_use mixed (e120_4 (fun x1 x3 x102 w => S120_3 x1 x3 x102 w R) x1 x3 x87 w R) h (fun _ _ _ h => h) ⟨(fun e w h => let ⟨y1, h1, h⟩ := E1.elim h; let ⟨y3, h3, h⟩ := E1.elim h; let ⟨y102, h102, h⟩ := E1.elim h; (q120_3 y1 y3 y102 w R h).more (sub_cons h1 (sub_cons h3 (sub_cons h102 (sub_nil))))), trivial⟩
theorem e120_5 (Z4 : Value → Value → Value → World → Prop) (x1 x3 x4 x74 : Value) (w : World) (R : Value → World → Prop) : B120_5 Z4 x1 x3 x4 x74 w R = Wp P 141 D120 [true, true, true, false, false, true, true, true, true, true, true, true, true, true] b120_0 [([true, true, true, false, false, true, true, true, true, true, true, true, true, true, true, true], fun e w => E1 e (.tmp 1) fun x1 => E1 e (.tmp 3) fun x3 => E1 e (.tmp 87) fun x87 => Z4 x1 x3 x87 w)] (Q120_0 R) [(1, some x1), (3, some x3), (4, some x4), (74, some x74)] w := by kernel_rfl
theorem q120_5 (x1 x3 x4 x74 : Value) (w : World) (R : Value → World → Prop) (h : S120_5 x1 x3 x4 x74 w R) : Runs P 141 (subC [true, true, true, false, false, true, true, true, true, true, true, true, true, true] b120_0) (postC P 141 [true, true, true, false, false, true, true, true, true, true, true, true, true, true] b120_0 (Q120_0 R)) [(1, some x1), (3, some x3), (4, some x4), (74, some x74)] w :=
  Wp_use mixed (e120_5 (fun x1 x3 x87 w => S120_4 x1 x3 x87 w R) x1 x3 x4 x74 w R) h (fun _ _ _ h => h) ⟨(fun e w h => let ⟨y1, h1, h⟩ := E1.elim h; let ⟨y3, h3, h⟩ := E1.elim h; let ⟨y87, h87, h⟩ := E1.elim h; (q120_4 y1 y3 y87 w R h).more (sub_cons h1 (sub_cons h3 (sub_cons h87 (sub_nil))))), trivial⟩
theorem e120_6 (Z5 : Value → Value → Value → Value → World → Prop) (x1 x3 x4 x64 : Value) (w : World) (R : Value → World → Prop) : B120_6 Z5 x1 x3 x4 x64 w R = Wp P 141 D120 [true, true, true, false, false, true, true, true, true, true, true, true] b120_0 [([true, true, true, false, false, true, true, true, true, true, true, true, true, true], fun e w => E1 e (.tmp 1) fun x1 => E1 e (.tmp 3) fun x3 => E1 e (.tmp 4) fun x4 => E1 e (.tmp 74) fun x74 => Z5 x1 x3 x4 x74 w)] (Q120_0 R) [(1, some x1), (3, some x3), (4, some x4), (64, some x64)] w := by kernel_rfl
theorem q120_6 (x1 x3 x4 x64 : Value) (w : World) (R : Value → World → Prop) (h : S120_6 x1 x3 x4 x64 w R) : Runs P 141 (subC [true, true, true, false, false, true, true, true, true, true, true, true] b120_0) (postC P 141 [true, true, true, false, false, true, true, true, true, true, true, true] b120_0 (Q120_0 R)) [(1, some x1), (3, some x3), (4, some x4), (64, some x64)] w :=
  Wp_use mixed (e120_6 (fun x1 x3 x4 x74 w => S120_5 x1 x3 x4 x74 w R) x1 x3 x4 x64 w R) h (fun _ _ _ h => h) ⟨(fun e w h => let ⟨y1, h1, h⟩ := E1.elim h; let ⟨y3, h3, h⟩ := E1.elim h; let ⟨y4, h4, h⟩ := E1.elim h; let ⟨y74, h74, h⟩ := E1.elim h; (q120_5 y1 y3 y4 y74 w R h).more (sub_cons h1 (sub_cons h3 (sub_cons h4 (sub_cons h74 (sub_nil)))))), trivial⟩
theorem e120_7 (Z6 : Value → Value → Value → Value → World → Prop) (x1 x3 x4 x55 : Value) (w : World) (R : Value → World → Prop) : B120_7 Z6 x1 x3 x4 x55 w R = Wp P 141 D120 [true, true, true, false, false, true, true, true, true, true] b120_0 [([true, true, true, false, false, true, true, true, true, true, true, true], fun e w => E1 e (.tmp 1) fun x1 => E1 e (.tmp 3) fun x3 => E1 e (.tmp 4) fun x4 => E1 e (.tmp 64) fun x64 => Z6 x1 x3 x4 x64 w)] (Q120_0 R) [(1, some x1), (3, some x3), (4, some x4), (55, some x55)] w := by kernel_rfl
theorem q120_7 (x1 x3 x4 x55 : Value) (w : World) (R : Value → World → Prop) (h : S120_7 x1 x3 x4 x55 w R) : Runs P 141 (subC [true, true, true, false, false, true, true, true, true, true] b120_0) (postC P 141 [true, true, true, false, false, true, true, true, true, true] b120_0 (Q120_0 R)) [(1, some x1), (3, some x3), (4, some x4), (55, some x55)] w :=
  Wp_use mixed (e120_7 (fun x1 x3 x4 x64 w => S120_6 x1 x3 x4 x64 w R) x1 x3 x4 x55 w R) h (fun _ _ _ h => h) ⟨(fun e w h => let ⟨y1, h1, h⟩ := E1.elim h; let ⟨y3, h3, h⟩ := E1.elim h; let ⟨y4, h4, h⟩ := E1.elim h; let ⟨y64, h64, h⟩ := E1.elim h; (q120_6 y1 y3 y4 y64 w R h).more (sub_cons h1 (sub_cons h3 (sub_cons h4 (sub_cons h64 (sub_nil)))))), trivial⟩
theorem e120_8 (Z7 : Value → Value → Value → Value → World → Prop) (x1 x3 x4 x44 : Value) (w : World) (R : Value → World → Prop) : B120_8 Z7 x1 x3 x4 x44 w R = Wp P 141 D120 [true, true, true, false, false, true, true, true] b120_0 [([true, true, true, false, false, true, true, true, true, true], fun e w => E1 e (.tmp 1) fun x1 => E1 e (.tmp 3) fun x3 => E1 e (.tmp 4) fun x4 => E1 e (.tmp 55) fun x55 => Z7 x1 x3 x4 x55 w)] (Q120_0 R) [(1, some x1), (3, some x3), (4, some x4), (44, some x44)] w := by kernel_rfl
theorem q120_8 (x1 x3 x4 x44 : Value) (w : World) (R : Value → World → Prop) (h : S120_8 x1 x3 x4 x44 w R) : Runs P 141 (subC [true, true, true, false, false, true, true, true] b120_0) (postC P 141 [true, true, true, false, false, true, true, true] b120_0 (Q120_0 R)) [(1, some x1), (3, some x3), (4, some x4), (44, some x44)] w :=
  Wp_use mixed (e120_8 (fun x1 x3 x4 x55 w => S120_7 x1 x3 x4 x55 w R) x1 x3 x4 x44 w R) h (fun _ _ _ h => h) ⟨(fun e w h => let ⟨y1, h1, h⟩ := E1.elim h; let ⟨y3, h3, h⟩ := E1.elim h; let ⟨y4, h4, h⟩ := E1.elim h; let ⟨y55, h55, h⟩ := E1.elim h; (q120_7 y1 y3 y4 y55 w R h).more (sub_cons h1 (sub_cons h3 (sub_cons h4 (sub_cons h55 (sub_nil)))))), trivial⟩
theorem e120_9 (Z8 : Value → Value → Value → Value → World → Prop) (x1 x3 x4 x9 : Value) (w : World) (R : Value → World → Prop) : B120_9 Z8 x1 x3 x4 x9 w R = Wp P 141 D120 [true, true, true, false, false, true] b120_0 [([true, true, true, false, false, true, true, true], fun e w => E1 e (.tmp 1) fun x1 => E1 e (.tmp 3) fun x3 => E1 e (.tmp 4) fun x4 => E1 e (.tmp 44) fun x44 => Z8 x1 x3 x4 x44 w)] (Q120_0 R) [(1, some x1), (3, some x3), (4, some x4), (9, some x9)] w := by kernel_rfl
theorem q120_9 (x1 x3 x4 x9 : Value) (w : World) (R : Value → World → Prop) (h : S120_9 x1 x3 x4 x9 w R) : Runs P 141 (subC [true, true, true, false, false, true] b120_0) (postC P 141 [true, true, true, false, false, true] b120_0 (Q120_0 R)) [(1, some x1), (3, some x3), (4, some x4), (9, some x9)] w :=
  Wp_use mixed (e120_9 (fun x1 x3 x4 x44 w => S120_8 x1 x3 x4 x44 w R) x1 x3 x4 x9 w R) h (fun _ _ _ h => h) ⟨(fun e w h => let ⟨y1, h1, h⟩ := E1.elim h; let ⟨y3, h3, h⟩ := E1.elim h; let ⟨y4, h4, h⟩ := E1.elim h; let ⟨y44, h44, h⟩ := E1.elim h; (q120_8 y1 y3 y4 y44 w R h).more (sub_cons h1 (sub_cons h3 (sub_cons h4 (sub_cons h44 (sub_nil)))))), trivial⟩
theorem e120_0 (Z9 : Value → Value → Value → Value → World → Prop) (x0 : Value) (w : World) (R : Value → World → Prop) : B120_0 Z9 x0 w R = Wp P 141 D120 [] b120_0 [([true, true, true, false, false, true], fun e w => E1 e (.tmp 1) fun x1 => E1 e (.tmp 3) fun x3 => E1 e (.tmp 4) fun x4 => E1 e (.tmp 9) fun x9 => Z9 x1 x3 x4 x9 w)] (Q120_0 R) [(0, some x0)] w := by kernel_rfl
theorem q120_0 (x0 : Value) (w : World) (R : Value → World → Prop) (h : S120_0 x0 w R) : Runs P 141 (subC [] b120_0) (postC P 141 [] b120_0 (Q120_0 R)) [(0, some x0)] w :=
  Wp_use mixed (e120_0 (fun x1 x3 x4 x9 w => S120_9 x1 x3 x4 x9 w R) x0 w R) h (fun _ _ _ h => h) ⟨(fun e w h => let ⟨y1, h1, h⟩ := E1.elim h; let ⟨y3, h3, h⟩ := E1.elim h; let ⟨y4, h4, h⟩ := E1.elim h; let ⟨y9, h9, h⟩ := E1.elim h; (q120_9 y1 y3 y4 y9 w R h).more (sub_cons h1 (sub_cons h3 (sub_cons h4 (sub_cons h9 (sub_nil)))))), trivial⟩
theorem c120 (x0 : Value) (w : World) (R : Value → World → Prop) (h : S120_0 x0 w R) : CallF P 120 #[x0] w R :=
  call_of_runs (args := [x0]) (c := b120_0) (by kernel_rfl) func120 rfl (by kernel_rfl) (q120_0 x0 w R h)

/-! ### 121 "crier/packet.text" -/
noncomputable abbrev b121_0 : Code := (f121.body).getD .skip
abbrev D121 : Plans := []
abbrev Q121_0 (R : Value → World → Prop) : Post := retQ P f121.results.toList R
def S121_0 (x0 : Value) (w : World) (R : Value → World → Prop) : Prop :=
 CallF P 190 #[x0] w fun v7 w1 =>
 XV P (Instr.extract v7 0) w1 fun v8 w2 =>
 XV P (Instr.extract v7 1) w2 fun v9 w3 =>
 XV P (binS .eql 85 true v9 (.int .i64 0)) w3 fun v11 w4 =>
 R v11 w4
theorem e121_0 (x0 : Value) (w : World) (R : Value → World → Prop) : S121_0 x0 w R = Wp P 12 D121 [] b121_0 [] (Q121_0 R) [(0, some x0)] w := by kernel_rfl
theorem q121_0 (x0 : Value) (w : World) (R : Value → World → Prop) (h : S121_0 x0 w R) : Runs P 12 (subC [] b121_0) (postC P 12 [] b121_0 (Q121_0 R)) [(0, some x0)] w :=
  Wp_use mixed (e121_0 x0 w R) h (fun _ _ _ h => h) trivial
theorem c121 (x0 : Value) (w : World) (R : Value → World → Prop) (h : S121_0 x0 w R) : CallF P 121 #[x0] w R :=
  call_of_runs (args := [x0]) (c := b121_0) (by kernel_rfl) func121 rfl (by kernel_rfl) (q121_0 x0 w R h)

/-! ### 123 "crier/packet.filters" -/
noncomputable abbrev b123_0 : Code := (f123.body).getD .skip
abbrev D123 : Plans := []
abbrev Q123_0 (R : Value → World → Prop) : Post := retQ P f123.results.toList R
def S123_0 (x0 : Value) (w : World) (R : Value → World → Prop) : Prop :=
 XV P (Instr.box 29 x0) w fun v1 w1 =>
 XV P (Instr.alloc 160 true (.tuple #[])) w1 fun v3 w2 =>
 XU P (Instr.storeAt 160 v3 (.func (.func 193) #[] #[])) w2 fun w3 =>
 LB P 29 27 18 v1 w3 fun v5 w5 =>
 XV P (Instr.loadAt 160 v3) w5 fun v6 w6 =>
 CallF P 195 #[v5, v6] w6 fun v7 w7 =>
 XV P (Op.unary .not v7) w7 fun v8 w8 =>
 gd v8 true (
  LB P 29 25 16 v1 w8 fun v11 w10 =>
  XV P (Instr.makeFunc (.func 197) #[] #[v3]) w10 fun v12 w11 =>
  CallF P 196 #[v11, v12] w11 fun v13 w12 =>
  XV P (Op.unary .not v13) w12 fun v14 w13 =>
  R v14 w13) (
  R (.bool false) w8)
theorem e123_0 (x0 : Value) (w : World) (R : Value → World → Prop) : S123_0 x0 w R = Wp P 16 D123 [] b123_0 [] (Q123_0 R) [(0, some x0)] w := by kernel_rfl
theorem q123_0 (x0 : Value) (w : World) (R : Value → World → Prop) (h : S123_0 x0 w R) : Runs P 16 (subC [] b123_0) (postC P 16 [] b123_0 (Q123_0 R)) [(0, some x0)] w :=
  Wp_use mixed (e123_0 x0 w R) h (fun _ _ _ h => h) trivial
theorem c123 (x0 : Value) (w : World) (R : Value → World → Prop) (h : S123_0 x0 w R) : CallF P 123 #[x0] w R :=
  call_of_runs (args := [x0]) (c := b123_0) (by kernel_rfl) func123 rfl (by kernel_rfl) (q123_0 x0 w R h)

/-! ### 193 "crier/packet.filters$1" -/
noncomputable abbrev b193_0 : Code := (f193.body).getD .skip
abbrev D193 : Plans := []
abbrev Q193_0 (R : Value → World → Prop) : Post := retQ P f193.results.toList R
def S193_0 (x0 : Value) (w : World) (R : Value → World → Prop) : Prop :=
 CallF P 194 #[x0] w fun v4 w1 =>
 XV P (binS .neq 85 true v4 (.int .i64 0)) w1 fun v5 w2 =>
 R v5 w2
theorem e193_0 (x0 : Value) (w : World) (R : Value → World → Prop) : S193_0 x0 w R = Wp P 6 D193 [] b193_0 [] (Q193_0 R) [(0, some x0)] w := by kernel_rfl
theorem q193_0 (x0 : Value) (w : World) (R : Value → World → Prop) (h : S193_0 x0 w R) : Runs P 6 (subC [] b193_0) (postC P 6 [] b193_0 (Q193_0 R)) [(0, some x0)] w :=
  Wp_use mixed (e193_0 x0 w R) h (fun _ _ _ h => h) trivial
theorem c193 (x0 : Value) (w : World) (R : Value → World → Prop) (h : S193_0 x0 w R) : CallF P 193 #[x0] w R :=
  call_of_runs (args := [x0]) (c := b193_0) (by kernel_rfl) func193 rfl (by kernel_rfl) (q193_0 x0 w R h)

/-! ### 197 "crier/packet.filters$2" -/
noncomputable abbrev b197_0 : Code := (f197.body).getD .skip
abbrev D197 : Plans := []
abbrev Q197_0 (R : Value → World → Prop) : Post := retQ P f197.results.toList R
def S197_0 (x0 x1 : Value) (w : World) (R : Value → World → Prop) : Prop :=
 XV P (Instr.box 73 x0) w fun v2 w1 =>
 XV P (Instr.loadAt 160 x1) w1 fun v4 w2 =>
 LB P 73 9 0 v2 w2 fun v6 w4 =>
 XN P (callF v4 #[v6]) w4 fun v7 w5 =>
 R v7 w5
theorem e197_0 (x0 x1 : Value) (w : World) (R : Value → World → Prop) : S197_0 x0 x1 w R = Wp P 8 D197 [] b197_0 [] (Q197_0 R) [(0, some x0), (1, some x1)] w := by kernel_rfl
theorem q197_0 (x0 x1 : Value) (w : World) (R : Value → World → Prop) (h : S197_0 x0 x1 w R) : Runs P 8 (subC [] b197_0) (postC P 8 [] b197_0 (Q197_0 R)) [(0, some x0), (1, some x1)] w :=
  Wp_use mixed (e197_0 x0 x1 w R) h (fun _ _ _ h => h) trivial
theorem c197 (x0 x1 : Value) (w : World) (R : Value → World → Prop) (h : S197_0 x0 x1 w R) : CallF P 197 #[x0, x1] w R :=
  call_of_runs (args := [x0, x1]) (c := b197_0) (by kernel_rfl) func197 rfl (by kernel_rfl) (q197_0 x0 x1 w R h)

/-! ### 124 "crier/packet.qualities" -/
noncomputable abbrev b124_0 : Code := (f124.body).getD .skip
abbrev D124 : Plans := []
abbrev Q124_0 (R : Value → World → Prop) : Post := retQ P f124.results.toList R
def S124_4 (x32 x33 x34 : Value) (w : World) (K2 : Value → Value → Value → World → Prop) (R : Value → World → Prop) : Prop :=
 XV P (binS .lss 3 false x34 x33) w fun v35 w1 =>
 condW v35 (
  LI P 26 3 x32 x34 w1 fun v37 w3 =>
  CallF P 135 #[v37] w3 fun v39 w4 =>
  XV P (Op.unary .not v39) w4 fun v40 w5 =>
  gd v40 true (
   XV P (binS .neq 3 true v37 (.int .i64 128)) w5 fun v43 w6 =>
   condW v43 (
    R (.bool false) w6) (
    XV P (binS .add 3 true x34 (.int .i64 1)) w6 fun v45 w7 =>
    K2 x32 x33 v45 w7)) (
   XV P (binS .add 3 true x34 (.int .i64 1)) w5 fun v45_1 w8 =>
   K2 x32 x33 v45_1 w8)) (
  R (.bool true) w1)
def S124_3 (x32 x33 x34 : Value) (w : World) (R : Value → World → Prop) : Prop :=
 LoopP (fun (s : Value × Value × Value) w K => S124_4 s.1 s.2.1 s.2.2 w (fun x32 x33 x34 w => K (x32, x33, x34) w) R) (x32, x33, x34) w
def B124_2 (Z3 : Value → Value → Value → World → Prop) (x1 x20 x21 x22 : Value) (w : World) (K1 : Value → Value → Value → Value → World → Prop) (R : Value → World → Prop) : Prop :=
 XV P (binS .lss 3 false x22 x21) w fun v23 w1 =>
 condW v23 (
  LI P 25 73 x20 x22 w1 fun v25 w3 =>
  XV P (Instr.alloc 73 true (.tuple #[])) w3 fun v4 w4 =>
  XU P (Instr.storeAt 73 v4 v25) w4 fun w5 =>
  LB P 73 3 1 v4 w5 fun v27 w7 =>
  CallF P 135 #[v27] w7 fun v28 w8 =>
  XV P (Op.unary .not v28) w8 fun v29 w9 =>
  condW v29 (
   R (.bool false) w9) (
   XV P (binS .add 3 true x22 (.int .i64 1)) w9 fun v30 w10 =>
   K1 x1 x20 x21 v30 w10)) (
  LB P 29 26 17 x1 w1 fun v32 w12 =>
  XV P (Builtin.len_ #[26] 3 #[v32]) w12 fun v33 w13 =>
  Z3 v32 v33 (.int .i64 0) w13)
def S124_2 (x1 x20 x21 x22 : Value) (w : World) (K1 : Value → Value → Value → Value → World → Prop) (R : Value → World → Prop) : Prop := B124_2 (fun x32 x33 x34 w => S124_3 x32 x33 x34 w R) x1 x20 x21 x22 w K1 R
def S124_1 (x1 x20 x21 x22 : Value) (w : World) (R : Value → World → Prop) : Prop :=
 LoopP (fun (s : Value × Value × Value × Value) w K => S124_2 s.1 s.2.1 s.2.2.1 s.2.2.2 w (fun x1 x20 x21 x22 w => K (x1, x20, x21, x22) w) R) (x1, x20, x21, x22) w
def B124_0 (Z1 : Value → Value → Value → Value → World → Prop) (x0 : Value) (w : World) (R : Value → World → Prop) : Prop :=
 XV P (Instr.box 29 x0) w fun v1 w1 =>
 XV P (Instr.fieldAt 29 v1 6) w1 fun v7 w2 =>
 LB P 24 3 2 v7 w2 fun v9 w4 =>
 CallF P 135 #[v9] w4 fun v10 w5 =>
 XV P (Op.unary .not v10) w5 fun v11 w6 =>
 gd v11 false (
  XV P (Instr.fieldAt 29 v1 14) w6 fun v13 w7 =>
  LB P 24 3 2 v13 w7 fun v15 w9 =>
  CallF P 135 #[v15] w9 fun v16 w10 =>
  XV P (Op.unary .not v16) w10 fun v17 w11 =>
  condW v17 (
   R (.bool false) w11) (
   LB P 29 25 16 v1 w11 fun v20 w13 =>
   XV P (Builtin.len_ #[25] 3 #[v20]) w13 fun v21 w14 =>
   Z1 v1 v20 v21 (.int .i64 0) w14)) (
  R (.bool false) w6)
def S124_0 (x0 : Value) (w : World) (R : Value → World → Prop) : Prop := B124_0 (fun x1 x20 x21 x22 w => S124_1 x1 x20 x21 x22 w R) x0 w R
noncomputable abbrev b124_1 : Code := match subC [true, true, false, true, false] b124_0 with | .loop x => x | _ => .skip
abbrev V124_1 (K : Value → Value → Value → Value → World → Prop) (e : Env) (w : World) : Prop := E1 e (.tmp 1) fun x1 => E1 e (.tmp 20) fun x20 => E1 e (.tmp 21) fun x21 => E1 e (.tmp 22) fun x22 => K x1 x20 x21 x22 w
abbrev Q124_1 (K1 : Value → Value → Value → Value → World → Prop) (R : Value → World → Prop) : Post := thenQ (V124_1 K1) (postC P 46 [true, true, false, true, false] b124_0 (Q124_0 R))
noncomputable abbrev b124_2 : Code := match subC [true, true, true, false, true, false] b124_0 with | .loop x => x | _ => .skip
abbrev V124_2 (K : Value → Value → Value → World → Prop) (e : Env) (w : World) : Prop := E1 e (.tmp 32) fun x32 => E1 e (.tmp 33) fun x33 => E1 e (.tmp 34) fun x34 => K x32 x33 x34 w
abbrev Q124_2 (K2 : Value → Value → Value → World → Prop) (R : Value → World → Prop) : Post := thenQ (V124_2 K2) (postC P 46 [true, true, true, false, true, false] b124_0 (Q124_0 R))
theorem e124_4 (x32 x33 x34 : Value) (w : World) (K2 : Value → Value → Value → World → Prop) (R : Value → World → Prop) : S124_4 x32 x33 x34 w K2 R = Wp P 46 D124 [] b124_2 [] (thenQ (V124_2 K2) (postW P 46 D124 [true, true, true, false, true, false] b124_0 [] (Q124_0 R))) [(32, some x32), (33, some x33), (34, some x34)] w := by kernel_rfl
theorem q124_4 (x32 x33 x34 : Value) (w : World) (K2 : Value → Value → Value → World → Prop) (R : Value → World → Prop) (h : S124_4 x32 x33 x34 w K2 R) : Runs P 46 (subC [] b124_2) (postC P 46 [] b124_2 (Q124_2 K2 R)) [(32, some x32), (33, some x33), (34, some x34)] w :=
  Wp_use mixed (e124_4 x32 x33 x34 w K2 R) h (thenQ_le (postW_le mixed _ _ _ _ _ (fun _ _ _ h => h) trivial)) trivial
theorem q124_3 (x32 x33 x34 : Value) (w : World) (R : Value → World → Prop) (h : S124_3 x32 x33 x34 w R) : Runs P 46 (subC [true, true, true, false, true, false] b124_0) (postC P 46 [true, true, true, false, true, false] b124_0 (Q124_0 R)) [(32, some x32), (33, some x33), (34, some x34)] w :=
  Runs.loop (σ := Value × Value × Value) (fun s => [(32, some s.1), (33, some s.2.1), (34, some s.2.2)]) (fun e k => E1 e (.tmp 32) fun x32 => E1 e (.tmp 33) fun x33 => E1 e (.tmp 34) fun x34 => k (x32, x33, x34)) (fun e k h => let ⟨y32, h32, h⟩ := E1.elim h; let ⟨y33, h33, h⟩ := E1.elim h; let ⟨y34, h34, h⟩ := E1.elim h; ⟨(y32, y33, y34), h, (sub_cons h32 (sub_cons h33 (sub_cons h34 (sub_nil))))⟩) (fun s w K h => q124_4 s.1 s.2.1 s.2.2 w (fun x32 x33 x34 w => K (x32, x33, x34) w) R h) h
theorem e124_2 (Z3 : Value → Value → Value → World → Prop) (x1 x20 x21 x22 : Value) (w : World) (K1 : Value → Value → Value → Value → World → Prop) (R : Value → World → Prop) : B124_2 Z3 x1 x20 x21 x22 w K1 R = Wp P 46 D124 [] b124_1 [] (thenQ (V124_1 K1) (postW P 46 D124 [true, true, false, true, false] b124_0 [([true, true, true, false, true, false], fun e w => E1 e (.tmp 32) fun x32 => E1 e (.tmp 33) fun x33 => E1 e (.tmp 34) fun x34 => Z3 x32 x33 x34 w)] (Q124_0 R))) [(1, some x1), (20, some x20), (21, some x21), (22, some x22)] w := by kernel_rfl
theorem q124_2 (x1 x20 x21 x22 : Value) (w : World) (K1 : Value → Value → Value → Value → World → Prop) (R : Value → World → Prop) (h : S124_2 x1 x20 x21 x22 w K1 R) : Runs P 46 (subC [] b124_1) (postC P 46 [] b124_1 (Q124_1 K1 R)) [(1, some x1), (20, some x20), (21, some x21), (22, some x22)] w :=
  Wp_use mixed (e124_2 (fun x32 x33 x34 w => S124_3 x32 x33 x34 w R) x1 x20 x21 x22 w K1 R) h (thenQ_le (postW_le mixed _ _ _ _ _ (fun _ _ _ h => h) ⟨(fun e w h => let ⟨y32, h32, h⟩ := E1.elim h; let ⟨y33, h33, h⟩ := E1.elim h; let ⟨y34, h34, h⟩ := E1.elim h; (q124_3 y32 y33 y34 w R h).more (sub_cons h32 (sub_cons h33 (sub_cons h34 (sub_nil))))), trivial⟩)) trivial
theorem q124_1 (x1 x20 x21 x22 : Value) (w : World) (R : Value → World → Prop) (h : S124_1 x1 x20 x21 x22 w R) : Runs P 46 (subC [true, true, false, true, false] b124_0) (postC P 46 [true, true, false, true, false] b124_0 (Q124_0 R)) [(1, some x1), (20, some x20), (21, some x21), (22, some x22)] w :=
  Runs.loop (σ := Value × Value × Value × Value) (fun s => [(1, some s.1), (20, some s.2.1), (21, some s.2.2.1), (22, some s.2.2.2)]) (fun e k => E1 e (.tmp 1) fun x1 => E1 e (.tmp 20) fun x20 => E1 e (.tmp 21) fun x21 => E1 e (.tmp 22) fun x22 => k (x1, x20, x21, x22)) (fun e k h => let ⟨y1, h1, h⟩ := E1.elim h; let ⟨y20, h20, h⟩ := E1.elim h; let ⟨y21, h21, h⟩ := E1.elim h; let ⟨y22, h22, h⟩ := E1.elim h; ⟨(y1, y20, y21, y22), h, (sub_cons h1 (sub_cons h20 (sub_cons h21 (sub_cons h22 (sub_nil)))))⟩) (fun s w K h => q124_2 s.1 s.2.1 s.2.2.1 s.2.2.2 w (fun x1 x20 x21 x22 w => K (x1, x20, x21, x22) w) R h) h
theorem e124_0 (Z1 : Value → Value → Value → Value → World → Prop) (x0 : Value) (w : World) (R : Value → World → Prop) : B124_0 Z1 x0 w R = Wp P 46 D124 [] b124_0 [([true, true, false, true, false], fun e w => E1 e (.tmp 1) fun x1 => E1 e (.tmp 20) fun x20 => E1 e (.tmp 21) fun x21 => E1 e (.tmp 22) fun x22 => Z1 x1 x20 x21 x22 w)] (Q124_0 R) [(0, some x0)] w := by kernel_rfl
theorem q124_0 (x0 : Value) (w : World) (R : Value → World → Prop) (h : S124_0 x0 w R) : Runs P 46 (subC [] b124_0) (postC P 46 [] b124_0 (Q124_0 R)) [(0, some x0)] w :=
  Wp_use mixed (e124_0 (fun x1 x20 x21 x22 w => S124_1 x1 x20 x21 x22 w R) x0 w R) h (fun _ _ _ h => h) ⟨(fun e w h => let ⟨y1, h1, h⟩ := E1.elim h; let ⟨y20, h20, h⟩ := E1.elim h; let ⟨y21, h21, h⟩ := E1.elim h; let ⟨y22, h22, h⟩ := E1.elim h; (q124_1 y1 y20 y21 y22 w R h).more (sub_cons h1 (sub_cons h20 (sub_cons h21 (sub_cons h22 (sub_nil)))))), trivial⟩
theorem c124 (x0 : Value) (w : World) (R : Value → World → Prop) (h : S124_0 x0 w R) : CallF P 124 #[x0] w R :=
  call_of_runs (args := [x0]) (c := b124_0) (by kernel_rfl) func124 rfl (by kernel_rfl) (q124_0 x0 w R h)

/-! ### 79 "crier/packet.Check" -/
noncomputable abbrev b79_0 : Code := (f79.body).getD .skip
abbrev D79 : Plans := []
abbrev Q79_0 (R : Value → World → Prop) : Post := retQ P f79.results.toList R
def S79_1 (x1 x124 : Value) (w : World) (R : Value → World → Prop) : Prop :=
 condW x124 (
  condW x124 (
   R (.int .i64 29) w) (
   R (.int .i64 0) w)) (
  LB P 29 4 11 x1 w fun v141 w2 =>
  gd v141 true (
   LB P 29 3 12 x1 w2 fun v144 w4 =>
   XV P (binS .neq 3 true v144 (.int .i64 0)) w4 fun v145 w5 =>
   condW v145 (
    R (.int .i64 29) w5) (
    R (.int .i64 0) w5)) (
   R (.int .i64 0) w2))
def B79_2 (Z1 : Value → Value → World → Prop) (x1 x124 : Value) (w : World) (R : Value → World → Prop) : Prop :=
 condW x124 (
  condW x124 (
   R (.int .i64 29) w) (
   R (.int .i64 0) w)) (
  LB P 29 4 13 x1 w fun v133 w2 =>
  gd v133 true (
   XV P (Instr.fieldAt 29 x1 14) w2 fun v135 w3 =>
   LB P 24 3 2 v135 w3 fun v137 w5 =>
   XV P (binS .eql 3 true v137 (.int .i64 0)) w5 fun v138 w6 =>
   Z1 x1 v138 w6) (
   Z1 x1 (.bool false) w2))
def S79_2 (x1 x124 : Value) (w : World) (R : Value → World → Prop) : Prop := B79_2 (fun x1 x124 w => S79_1 x1 x124 w R) x1 x124 w R
def B79_3 (Z2 : Value → Value → World → Prop) (x1 x96 : Value) (w : World) (R : Value → World → Prop) : Prop :=
 condW x96 (
  R (.int .i64 28) w) (
  LB P 29 4 9 x1 w fun v126 w2 =>
  gd v126 true (
   LB P 29 4 7 x1 w2 fun v129 w4 =>
   XV P (Op.unary .not v129) w4 fun v130 w5 =>
   Z2 x1 v130 w5) (
   Z2 x1 (.bool false) w2))
def S79_3 (x1 x96 : Value) (w : World) (R : Value → World → Prop) : Prop := B79_3 (fun x1 x124 w => S79_2 x1 x124 w R) x1 x96 w R
def B79_4 (Z3 : Value → Value → World → Prop) (x1 x3 x96 : Value) (w : World) (R : Value → World → Prop) : Prop :=
 condW x96 (
  Z3 x1 x96 w) (
  XV P (binS .and 3 true x3 (.int .i64 64)) w fun v116 w1 =>
  XV P (binS .gtr 3 true v116 (.int .i64 0)) w1 fun v117 w2 =>
  gd v117 true (
   LB P 29 27 18 x1 w2 fun v120 w4 =>
   XV P (Builtin.len_ #[27] 3 #[v120]) w4 fun v121 w5 =>
   XV P (binS .eql 3 true v121 (.int .i64 0)) w5 fun v122 w6 =>
   Z3 x1 v122 w6) (
   Z3 x1 (.bool false) w2))
def S79_4 (x1 x3 x96 : Value) (w : World) (R : Value → World → Prop) : Prop := B79_4 (fun x1 x96 w => S79_3 x1 x96 w R) x1 x3 x96 w R
def B79_5 (Z3 : Value → Value → World → Prop) (Z4 : Value → Value → Value → World → Prop) (x1 x3 x96 : Value) (w : World) (R : Value → World → Prop) : Prop :=
 condW x96 (
  Z3 x1 x96 w) (
  XV P (binS .and 3 true x3 (.int .i64 32)) w fun v107 w1 =>
  XV P (binS .gtr 3 true v107 (.int .i64 0)) w1 fun v108 w2 =>
  gd v108 true (
   LB P 29 26 17 x1 w2 fun v111 w4 =>
   XV P (Builtin.len_ #[26] 3 #[v111]) w4 fun v112 w5 =>
   XV P (binS .eql 3 true v112 (.int .i64 0)) w5 fun v113 w6 =>
   Z4 x1 x3 v113 w6) (
   Z4 x1 x3 (.bool false) w2))
def S79_5 (x1 x3 x96 : Value) (w : World) (R : Value → World → Prop) : Prop := B79_5 (fun x1 x96 w => S79_3 x1 x96 w R) (fun x1 x3 x96 w => S79_4 x1 x3 x96 w R) x1 x3 x96 w R
def B79_6 (Z5 : Value → Value → Value → World → Prop) (x1 x3 x83 : Value) (w : World) (R : Value → World → Prop) : Prop :=
 condW x83 (
  R (.int .i64 27) w) (
  XV P (binS .and 3 true x3 (.int .i64 16)) w fun v98 w1 =>
  XV P (binS .gtr 3 true v98 (.int .i64 0)) w1 fun v99 w2 =>
  gd v99 true (
   LB P 29 25 16 x1 w2 fun v102 w4 =>
   XV P (Builtin.len_ #[25] 3 #[v102]) w4 fun v103 w5 =>
   XV P (binS .eql 3 true v103 (.int .i64 0)) w5 fun v104 w6 =>
   Z5 x1 x3 v104 w6) (
   Z5 x1 x3 (.bool false) w2))
def S79_6 (x1 x3 x83 : Value) (w : World) (R : Value → World → Prop) : Prop := B79_6 (fun x1 x3 x96 w => S79_5 x1 x3 x96 w R) x1 x3 x83 w R
def B79_7 (Z6 : Value → Value → Value → World → Prop) (x1 x3 x70 : Value) (w : World) (R : Value → World → Prop) : Prop :=
 condW x70 (
  R (.int .i64 26) w) (
  XV P (Instr.fieldAt 29 x1 6) w fun v84 w1 =>
  LB P 24 22 1 v84 w1 fun v86 w3 =>
  XV P (Builtin.len_ #[22] 3 #[v86]) w3 fun v87 w4 =>
  XV P (binS .gtr 3 true v87 (.int .i64 65535)) w4 fun v88 w5 =>
  condW v88 (
   Z6 x1 x3 v88 w5) (
   LB P 29 22 10 x1 w5 fun v90 w7 =>
   XV P (Builtin.len_ #[22] 3 #[v90]) w7 fun v91 w8 =>
   XV P (binS .gtr 3 true v91 (.int .i64 65535)) w8 fun v92 w9 =>
   condW v92 (
    Z6 x1 x3 v92 w9) (
    XV P (Instr.loadAt 29 x1) w9 fun v93 w10 =>
    CallF P 126 #[v93] w10 fun v94 w11 =>
    XV P (binS .gtr 3 true v94 (.int .i64 268435455)) w11 fun v95 w12 =>
    Z6 x1 x3 v95 w12)))
def S79_7 (x1 x3 x70 : Value) (w : World) (R : Value → World → Prop) : Prop := B79_7 (fun x1 x3 x83 w => S79_6 x1 x3 x83 w R) x1 x3 x70 w R
def B79_8 (Z7 : Value → Value → Value → World → Prop) (x1 x3 x42 : Value) (w : World) (R : Value → World → Prop) : Prop :=
 condW x42 (
  R (.int .i64 23) w) (
  XV P (Instr.loadAt 29 x1) w fun v63 w1 =>
  CallF P 123 #[v63] w1 fun v64 w2 =>
  XV P (Op.unary .not v64) w2 fun v65 w3 =>
  condW v65 (
   R (.int .i64 24) w3) (
   XV P (Instr.loadAt 29 x1) w3 fun v67 w4 =>
   CallF P 124 #[v67] w4 fun v68 w5 =>
   XV P (Op.unary .not v68) w5 fun v69 w6 =>
   condW v69 (
    R (.int .i64 25) w6) (
    XV P (Instr.loadAt 29 x1) w6 fun v71 w7 =>
    CallF P 125 #[v71] w7 fun v72 w8 =>
    gd v72 true (
     LB P 29 3 15 x1 w8 fun v75 w10 =>
     XV P (binS .lss 3 true v75 (.int .i64 1)) w10 fun v76 w11 =>
     gd v76 false (
      LB P 29 3 15 x1 w11 fun v79 w13 =>
      XV P (binS .gtr 3 true v79 (.int .i64 65535)) w13 fun v80 w14 =>
      Z7 x1 x3 v80 w14) (
      Z7 x1 x3 (.bool true) w11)) (
     Z7 x1 x3 (.bool false) w8))))
def S79_8 (x1 x3 x42 : Value) (w : World) (R : Value → World → Prop) : Prop := B79_8 (fun x1 x3 x70 w => S79_7 x1 x3 x70 w R) x1 x3 x42 w R
def B79_9 (Z8 : Value → Value → Value → World → Prop) (x1 x3 x42 : Value) (w : World) (R : Value → World → Prop) : Prop :=
 condW x42 (
  Z8 x1 x3 x42 w) (
  XV P (binS .and 3 true x3 (.int .i64 4)) w fun v53 w1 =>
  XV P (binS .gtr 3 true v53 (.int .i64 0)) w1 fun v54 w2 =>
  gd v54 true (
   XV P (Instr.fieldAt 29 x1 14) w2 fun v56 w3 =>
   LB P 24 9 0 v56 w3 fun v58 w5 =>
   CallF P 122 #[v58] w5 fun v59 w6 =>
   XV P (binS .neq 85 true v59 (.int .i64 0)) w6 fun v60 w7 =>
   Z8 x1 x3 v60 w7) (
   Z8 x1 x3 (.bool false) w2))
def S79_9 (x1 x3 x42 : Value) (w : World) (R : Value → World → Prop) : Prop := B79_9 (fun x1 x3 x42 w => S79_8 x1 x3 x42 w R) x1 x3 x42 w R
def B79_10 (Z9 : Value → Value → Value → World → Prop) (x1 x3 x33 : Value) (w : World) (R : Value → World → Prop) : Prop :=
 condW x33 (
  R (.int .i64 22) w) (
  LB P 29 4 5 x1 w fun v44 w2 =>
  gd v44 true (
   XV P (Instr.fieldAt 29 x1 6) w2 fun v46 w3 =>
   LB P 24 9 0 v46 w3 fun v48 w5 =>
   CallF P 122 #[v48] w5 fun v49 w6 =>
   XV P (binS .neq 85 true v49 (.int .i64 0)) w6 fun v50 w7 =>
   Z9 x1 x3 v50 w7) (
   Z9 x1 x3 (.bool false) w2))
def S79_10 (x1 x3 x33 : Value) (w : World) (R : Value → World → Prop) : Prop := B79_10 (fun x1 x3 x42 w => S79_9 x1 x3 x42 w R) x1 x3 x33 w R
def B79_11 (Z10 : Value → Value → Value → World → Prop) (x1 x3 x12 : Value) (w : World) (R : Value → World → Prop) : Prop :=
 condW x12 (
  R (.int .i64 21) w) (
  LB P 29 9 4 x1 w fun v35 w2 =>
  CallF P 121 #[v35] w2 fun v36 w3 =>
  XV P (Op.unary .not v36) w3 fun v37 w4 =>
  condW v37 (
   Z10 x1 x3 v37 w4) (
   LB P 29 9 8 x1 w4 fun v39 w6 =>
   CallF P 121 #[v39] w6 fun v40 w7 =>
   XV P (Op.unary .not v40) w7 fun v41 w8 =>
   Z10 x1 x3 v41 w8))
def S79_11 (x1 x3 x12 : Value) (w : World) (R : Value → World → Prop) : Prop := B79_11 (fun x1 x3 x33 w => S79_10 x1 x3 x33 w R) x1 x3 x12 w R
def B79_0 (Z11 : Value → Value → Value → World → Prop) (x0 : Value) (w : World) (R : Value → World → Prop) : Prop :=
 XV P (Instr.box 29 x0) w fun v1 w1 =>
 LB P 29 3 0 v1 w1 fun v5 w3 =>
 CallF P 119 #[v5] w3 fun v6 w4 =>
 XV P (Op.unary .not v6) w4 fun v7 w5 =>
 condW v7 (
  R (.int .i64 20) w5) (
  LB P 29 3 0 v1 w5 fun v9 w7 =>
  LI P 159 3 (.pointer (some ⟨0, 0, none⟩)) v9 w7 fun v11 w9 =>
  XV P (Instr.loadAt 29 v1) w9 fun v13 w10 =>
  CallF P 120 #[v13] w10 fun v14 w11 =>
  condW v14 (
   Z11 v1 v11 v14 w11) (
   LB P 29 3 1 v1 w11 fun v16 w13 =>
   XV P (binS .lss 3 true v16 (.int .i64 0)) w13 fun v17 w14 =>
   condW v17 (
    Z11 v1 v11 v17 w14) (
    LB P 29 3 1 v1 w14 fun v19 w16 =>
    XV P (binS .gtr 3 true v19 (.int .i64 255)) w16 fun v20 w17 =>
    condW v20 (
     Z11 v1 v11 v20 w17) (
     LB P 29 3 12 v1 w17 fun v22 w19 =>
     XV P (binS .lss 3 true v22 (.int .i64 0)) w19 fun v23 w20 =>
     condW v23 (
      Z11 v1 v11 v23 w20) (
      LB P 29 3 12 v1 w20 fun v25 w22 =>
      XV P (binS .gtr 3 true v25 (.int .i64 255)) w22 fun v26 w23 =>
      condW v26 (
       Z11 v1 v11 v26 w23) (
       LB P 29 3 3 v1 w23 fun v28 w25 =>
       XV P (binS .lss 3 true v28 (.int .i64 0)) w25 fun v29 w26 =>
       condW v29 (
        Z11 v1 v11 v29 w26) (
        LB P 29 3 3 v1 w26 fun v31 w28 =>
        XV P (binS .gtr 3 true v31 (.int .i64 65535)) w28 fun v32 w29 =>
        Z11 v1 v11 v32 w29)))))))
def S79_0 (x0 : Value) (w : World) (R : Value → World → Prop) : Prop := B79_0 (fun x1 x3 x12 w => S79_11 x1 x3 x12 w R) x0 w R
theorem e79_1 (x1 x124 : Value) (w : World) (R : Value → World → Prop) : S79_1 x1 x124 w R = Wp P 147 D79 [true, true, true, false, false, true, true, true, true, true, true, true, true, true, true, true, true, true, true, true, true, false, true, true, true] b79_0 [] (Q79_0 R) [(1, some x1), (124, some x124)] w := by kernel_rfl
theorem q79_1 (x1 x124 : Value) (w : World) (R : Value → World → Prop) (h : S79_1 x1 x124 w R) : Runs P 147 (subC [true, true, true, false, false, true, true, true, true, true, true, true, true, true, true, true, true, true, true, true, true, false, true, true, true] b79_0) (postC P 147 [true, true, true, false, false, true, true, true, true, true, true, true, true, true, true, true, true, true, true, true, true, false, true, true, true] b79_0 (Q79_0 R)) [(1, some x1), (124, some x124)] w :=
  Wp_use mixed (e79_1 x1 x124 w R) h (fun _ _ _ h => h) trivial
theorem e79_2 (Z1 : Value → Value → World → Prop) (x1 x124 : Value) (w : World) (R : Value → World → Prop) : B79_2 Z1 x1 x124 w R = Wp P 147 D79 [true, true, true, false, false, true, true, true, true, true, true, true, true, true, true, true, true, true, true, true, true, false, true] b79_0 [([true, true, true, false, false, true, true, true, true, true, true, true, true, true, true, true, true, true, true, true, true, false, true, true, true], fun e w => E1 e (.tmp 1) fun x1 => E1 e (.tmp 124) fun x124 => Z1 x1 x124 w)] (Q79_0 R) [(1, some x1), (124, some x124)] w := by kernel_rfl
theorem q79_2 (x1 x124 : Value) (w : World) (R : Value → World → Prop) (h : S79_2 x1 x124 w R) : Runs P 147 (subC [true, true, true, false, false, true, true, true, true, true, true, true, true, true, true, true, true, true, true, true, true, false, true] b79_0) (postC P 147 [true, true, true, false, false, true, true, true, true, true, true, true, true, true, true, true, true, true, true, true, true, false, true] b79_0 (Q79_0 R)) [(1, some x1), (124, some x124)] w :=
  Wp_use mixed (e79_2 (fun x1 x124 w => S79_1 x1 x124 w R) x1 x124 w R) h (fun _ _ _ h => h) ⟨(fun e w h => let ⟨y1, h1, h⟩ := E1.elim h; let ⟨y124, h124, h⟩ := E1.elim h; (q79_1 y1 y124 w R h).more (sub_cons h1 (sub_cons h124 (sub_nil)))), trivial⟩
theorem e79_3 (Z2 : Value → Value → World → Prop) (x1 x96 : Value) (w : World) (R : Value → World → Prop) : B79_3 Z2 x1 x96 w R = Wp P 147 D79 [true, true, true, false, false, true, true, true, true, true, true, true, true, true, true, true, true, true, true, true] b79_0 [([true, true, true, false, false, true, true, true, true, true, true, true, true, true, true, true, true, true, true, true, true, false, true], fun e w => E1 e (.tmp 1) fun x1 => E1 e (.tmp 124) fun x124 => Z2 x1 x124 w)] (Q79_0 R) [(1, some x1), (96, some x96)] w := by kernel_rfl
theorem q79_3 (x1 x96 : Value) (w : World) (R : Value → World → Prop) (h : S79_3 x1 x96 w R) : Runs P 147 (subC [true, true, true, false, false, true, true, true, true, true, true, true, true, true, true, true, true, true, true, true] b79_0) (postC P 147 [true, true, true, false, false, true, true, true, true, true, true, true, true, true, true, true, true, true, true, true] b79_0 (Q79_0 R)) [(1, some x1), (96, some x96)] w :=
  Wp_use mixed (e79_3 (fun x1 x124 w => S79_2 x1 x124 w R) x1 x96 w R) h (fun _ _ _ h => h) ⟨(fun e w h => let ⟨y1, h1, h⟩ := E1.elim h; let ⟨y124, h124, h⟩ := E1.elim h; (q79_2 y1 y124 w R h).more (sub_cons h1 (sub_cons h124 (sub_nil)))), trivial⟩
theorem e79_4 (Z3 : Value → Value → World → Prop) (x1 x3 x96 : Value) (w : World) (R : Value → World → Prop) : B79_4 Z3 x1 x3 x96 w R = Wp P 147 D79 [true, true, true, false, false, true, true, true, true, true, true, true, true, true, true, true, true, true, true, false, true, true, true] b79_0 [([true, true, true, false, false, true, true, true, true, true, true, true, true, true, true, true, true, true, true, true], fun e w => E1 e (.tmp 1) fun x1 => E1 e (.tmp 96) fun x96 => Z3 x1 x96 w)] (Q79_0 R) [(1, some x1), (3, some x3), (96, some x96)] w := by kernel_rfl
theorem q79_4 (x1 x3 x96 : Value) (w : World) (R : Value → World → Prop) (h : S79_4 x1 x3 x96 w R) : Runs P 147 (subC [true, true, true, false, false, true, true, true, true, true, true, true, true, true, true, true, true, true, true, false, true, true, true] b79_0) (postC P 147 [true, true, true, false, false, true, true, true, true, true, true, true, true, true, true, true, true, true, true, false, true, true, true] b79_0 (Q79_0 R)) [(1, some x1), (3, some x3), (96, some x96)] w :=
  Wp_use mixed (e79_4 (fun x1 x96 w => S79_3 x1 x96 w R) x1 x3 x96 w R) h (fun _ _ _ h => h) ⟨(fun e w h => let ⟨y1, h1, h⟩ := E1.elim h; let ⟨y96, h96, h⟩ := E1.elim h; (q79_3 y1 y96 w R h).more (sub_cons h1 (sub_cons h96 (sub_nil)))), trivial⟩
theorem e79_5 (Z3 : Value → Value → World → Prop) (Z4 : Value → Value → Value → World → Prop) (x1 x3 x96 : Value) (w : World) (R : Value → World → Prop) : B79_5 Z3 Z4 x1 x3 x96 w R = Wp P 147 D79 [true, true, true, false, false, true, true, true, true, true, true, true, true, true, true, true, true, true, true, false, true] b79_0 [([true, true, true, false, false, true, true, true, true, true, true, true, true, true, true, true, true, true, true, true], fun e w => E1 e (.tmp 1) fun x1 => E1 e (.tmp 96) fun x96 => Z3 x1 x96 w), ([true, true, true, false, false, true, true, true, true, true, true, true, true, true, true, true, true, true, true, false, true, true, true], fun e w => E1 e (.tmp 1) fun x1 => E1 e (.tmp 3) fun x3 => E1 e (.tmp 96) fun x96 => Z4 x1 x3 x96 w)] (Q79_0 R) [(1, some x1), (3, some x3), (96, some x96)] w := by kernel_rfl
theorem q79_5 (x1 x3 x96 : Value) (w : World) (R : Value → World → Prop) (h : S79_5 x1 x3 x96 w R) : Runs P 147 (subC [true, true, true, false, false, true, true, true, true, true, true, true, true, true, true, true, true, true, true, false, true] b79_0) (postC P 147 [true, true, true, false, false, true, true, true, true, true, true, true, true, true, true, true, true, true, true, false, true] b79_0 (Q79_0 R)) [(1, some x1), (3, some x3), (96, some x96)] w :=
  Wp_use mixed (e79_5 (fun x1 x96 w => S79_3 x1 x96 w R) (fun x1 x3 x96 w => S79_4 x1 x3 x96 w R) x1 x3 x96 w R) h (fun _ _ _ h => h) ⟨(fun e w h => let ⟨y1, h1, h⟩ := E1.elim h; let ⟨y96, h96, h⟩ := E1.elim h; (q79_3 y1 y96 w R h).more (sub_cons h1 (sub_cons h96 (sub_nil)))), (fun e w h => let ⟨y1, h1, h⟩ := E1.elim h; let ⟨y3, h3, h⟩ := E1.elim h; let ⟨y96, h96, h⟩ := E1.elim h; (q79_4 y1 y3 y96 w R h).more (sub_cons h1 (sub_cons h3 (sub_cons h96 (sub_nil))))), trivial⟩
theorem e79_6 (Z5 : Value → Value → Value → World → Prop) (x1 x3 x83 : Value) (w : World) (R : Value → World → Prop) : B79_6 Z5 x1 x3 x83 w R = Wp P 147 D79 [true, true, true, false, false, true, true, true, true, true, true, true, true, true, true, true, true, true] b79_0 [([true, true, true, false, false, true, true, true, true, true, true, true, true, true, true, true, true, true, true, false, true], fun e w => E1 e (.tmp 1) fun x1 => E1 e (.tmp 3) fun x3 => E1 e (.tmp 96) fun x96 => Z5 x1 x3 x96 w)] (Q79_0 R) [(1, some x1), (3, some x3), (83, some x83)] w := by kernel_rfl
theorem q79_6 (x1 x3 x83 : Value) (w : World) (R : Value → World → Prop) (h : S79_6 x1 x3 x83 w R) : Runs P 147 (subC [true, true, true, false, false, true, true, true, true, true, true, true, true, true, true, true, true, true] b79_0) (postC P 147 [true, true, true, false, false, true, true, true, true, true, true, true, true, true, true, true, true, true] b79_0 (Q79_0 R)) [(1, some x1), (3, some x3), (83, some x83)] w :=
  Wp_use mixed (e79_6 (fun x1 x3 x96 w => S79_5 x1 x3 x96 w R) x1 x3 x83 w R) h (fun _ _ _ h => h) ⟨(fun e w h => let ⟨y1, h1, h⟩ := E1.elim h; let ⟨y3, h3, h⟩ := E1.elim h; let ⟨y96, h96, h⟩ := E1.elim h; (q79_5 y1 y3 y96 w R h).more (sub_cons h1 (sub_cons h3 (sub_cons h96 (sub_nil))))), trivial⟩
theorem e79_7 (Z6 : Value → Value → Value → World → Prop) (x1 x3 x70 : Value) (w : World) (R : Value → World → Prop) : B79_7 Z6 x1 x3 x70 w R = Wp P 147 D79 [true, true, true, false, false, true, true, true, true, true, true, true, true, true, true, true] b79_0 [([true, true, true, false, false, true, true, true, true, true, true, true, true, true, true, true, true, true], fun e w => E1 e (.tmp 1) fun x1 => E1 e (.tmp 3) fun x3 => E1 e (.tmp 83) fun x83 => Z6 x1 x3 x83 w)] (Q79_0 R) [(1, some x1), (3, some x3), (70, some x70)] w := by kernel_rfl
theorem q79_7 (x1 x3 x70 : Value) (w : World) (R : Value → World → Prop) (h : S79_7 x1 x3 x70 w R) : Runs P 147 (subC [true, true, true, false, false, true, true, true, true, true, true, true, true, true, true, true] b79_0) (postC P 147 [true, true, true, false, false, true, true, true, true, true, true, true, true, true, true, true] b79_0 (Q79_0 R)) [(1, some x1), (3, some x3), (70, some x70)] w :=
  Wp_use mixed (e79_7 (fun x1 x3 x83 w => S79_6 x1 x3 x83 w R) x1 x3 x70 w R) h (fun _ _ _ h => h) ⟨(fun e w h => let ⟨y1, h1, h⟩ := E1.elim h; let ⟨y3, h3, h⟩ := E1.elim h; let ⟨y83, h83, h⟩ := E1.elim h; (q79_6 y1 y3 y83 w R h).more (sub_cons h1 (sub_cons h3 (sub_cons h83 (sub_nil))))), trivial⟩
theorem e79_8 (Z7 : Value → Value → Value → World → Prop) (x1 x3 x42 : Value) (w : World) (R : Value → World → Prop) : B79_8 Z7 x1 x3 x42 w R = Wp P 147 D79 [true, true, true, false, false, true, true, true, true, true] b79_0 [([true, true, true, false, false, true, true, true, true, true, true, true, true, true, true, true], fun e w => E1 e (.tmp 1) fun x1 => E1 e (.tmp 3) fun x3 => E1 e (.tmp 70) fun x70 => Z7 x1 x3 x70 w)] (Q79_0 R) [(1, some x1), (3, some x3), (42, some x42)] w := by kernel_rfl
theorem q79_8 (x1 x3 x42 : Value) (w : World) (R : Value → World → Prop) (h : S79_8 x1 x3 x42 w R) : Runs P 147 (subC [true, true, true, false, false, true, true, true, true, true] b79_0) (postC P 147 [true, true, true, false, false, true, true, true, true, true] b79_0 (Q79_0 R)) [(1, some x1), (3, some x3), (42, some x42)] w :=
  Wp_use mixed (e79_8 (fun x1 x3 x70 w => S79_7 x1 x3 x70 w R) x1 x3 x42 w R) h (fun _ _ _ h => h) ⟨(fun e w h => let ⟨y1, h1, h⟩ := E1.elim h; let ⟨y3, h3, h⟩ := E1.elim h; let ⟨y70, h70, h⟩ := E1.elim h; (q79_7 y1 y3 y70 w R h).more (sub_cons h1 (sub_cons h3 (sub_cons h70 (sub_nil))))), trivial⟩
theorem e79_9 (Z8 : Value → Value → Value → World → Prop) (x1 x3 x42 : Value) (w : World) (R : Value → World → Prop) : B79_9 Z8 x1 x3 x42 w R = Wp P 147 D79 [true, true, true, false, false, true, true, true, true, false, true] b79_0 [([true, true, true, false, false, true, true, true, true, true], fun e w => E1 e (.tmp 1) fun x1 => E1 e (.tmp 3) fun x3 => E1 e (.tmp 42) fun x42 => Z8 x1 x3 x42 w)] (Q79_0 R) [(1, some x1), (3, some x3), (42, some x42)] w := by kernel_rfl
theorem q79_9 (x1 x3 x42 : Value) (w : World) (R : Value → World → Prop) (h : S79_9 x1 x3 x42 w R) : Runs P 147 (subC [true, true, true, false, false, true, true, true, true, false, true] b79_0) (postC P 147 [true, true, true, false, false, true, true, true, true, false, true] b79_0 (Q79_0 R)) [(1, some x1), (3, some x3), (42, some x42)] w :=
  Wp_use mixed (e79_9 (fun x1 x3 x42 w => S79_8 x1 x3 x42 w R) x1 x3 x42 w R) h (fun _ _ _ h => h) ⟨(fun e w h => let ⟨y1, h1, h⟩ := E1.elim h; let ⟨y3, h3, h⟩ := E1.elim h; let ⟨y42, h42, h⟩ := E1.elim h; (q79_8 y1 y3 y42 w R h).more (sub_cons h1 (sub_cons h3 (sub_cons h42 (sub_nil))))), trivial⟩
theorem e79_10 (Z9 : Value → Value → Value → World → Prop) (x1 x3 x33 : Value) (w : World) (R : Value → World → Prop) : B79_10 Z9 x1 x3 x33 w R = Wp P 147 D79 [true, true, true, false, false, true, true, true] b79_0 [([true, true, true, false, false, true, true, true, true, false, true], fun e w => E1 e (.tmp 1) fun x1 => E1 e (.tmp 3) fun x3 => E1 e (.tmp 42) fun x42 => Z9 x1 x3 x42 w)] (Q79_0 R) [(1, some x1), (3, some x3), (33, some x33)] w := by kernel_rfl
theorem q79_10 (x1 x3 x33 : Value) (w : World) (R : Value → World → Prop) (h : S79_10 x1 x3 x33 w R) : Runs P 147 (subC [true, true, true, false, false, true, true, true] b79_0) (postC P 147 [true, true, true, false, false, true, true, true] b79_0 (Q79_0 R)) [(1, some x1), (3, some x3), (33, some x33)] w :=
  Wp_use mixed (e79_10 (fun x1 x3 x42 w => S79_9 x1 x3 x42 w R) x1 x3 x33 w R) h (fun _ _ _ h => h) ⟨(fun e w h => let ⟨y1, h1, h⟩ := E1.elim h; let ⟨y3, h3, h⟩ := E1.elim h; let ⟨y42, h42, h⟩ := E1.elim h; (q79_9 y1 y3 y42 w R h).more (sub_cons h1 (sub_cons h3 (sub_cons h42 (sub_nil))))), trivial⟩
theorem e79_11 (Z10 : Value → Value → Value → World → Prop) (x1 x3 x12 : Value) (w : World) (R : Value → World → Prop) : B79_11 Z10 x1 x3 x12 w R = Wp P 147 D79 [true, true, true, false, false, true] b79_0 [([true, true, true, false, false, true, true, true], fun e w => E1 e (.tmp 1) fun x1 => E1 e (.tmp 3) fun x3 => E1 e (.tmp 33) fun x33 => Z10 x1 x3 x33 w)] (Q79_0 R) [(1, some x1), (3, some x3), (12, some x12)] w := by kernel_rfl
theorem q79_11 (x1 x3 x12 : Value) (w : World) (R : Value → World → Prop) (h : S79_11 x1 x3 x12 w R) : Runs P 147 (subC [true, true, true, false, false, true] b79_0) (postC P 147 [true, true, true, false, false, true] b79_0 (Q79_0 R)) [(1, some x1), (3, some x3), (12, some x12)] w :=
  Wp_use mixed (e79_11 (fun x1 x3 x33 w => S79_10 x1 x3 x33 w R) x1 x3 x12 w R) h (fun _ _ _ h => h) ⟨(fun e w h => let ⟨y1, h1, h⟩ := E1.elim h; let ⟨y3, h3, h⟩ := E1.elim h; let ⟨y33, h33, h⟩ := E1.elim h; (q79_10 y1 y3 y33 w R h).more (sub_cons h1 (sub_cons h3 (sub_cons h33 (sub_nil))))), trivial⟩
theorem e79_0 (Z11 : Value → Value → Value → World → Prop) (x0 : Value) (w : World) (R : Value → World → Prop) : B79_0 Z11 x0 w R = Wp P 147 D79 [] b79_0 [([true, true, true, false, false, true], fun e w => E1 e (.tmp 1) fun x1 => E1 e (.tmp 3) fun x3 => E1 e (.tmp 12) fun x12 => Z11 x1 x3 x12 w)] (Q79_0 R) [(0, some x0)] w := by kernel_rfl
theorem q79_0 (x0 : Value) (w : World) (R : Value → World → Prop) (h : S79_0 x0 w R) : Runs P 147 (subC [] b79_0) (postC P 147 [] b79_0 (Q79_0 R)) [(0, some x0)] w :=
  Wp_use mixed (e79_0 (fun x1 x3 x12 w => S79_11 x1 x3 x12 w R) x0 w R) h (fun _ _ _ h => h) ⟨(fun e w h => let ⟨y1, h1, h⟩ := E1.elim h; let ⟨y3, h3, h⟩ := E1.elim h; let ⟨y12, h12, h⟩ := E1.elim h; (q79_11 y1 y3 y12 w R h).more (sub_cons h1 (sub_cons h3 (sub_cons h12 (sub_nil))))), trivial⟩
theorem c79 (x0 : Value) (w : World) (R : Value → World → Prop) (h : S79_0 x0 w R) : CallF P 79 #[x0] w R :=
  call_of_runs (args := [x0]) (c := b79_0) (by kernel_rfl) func79 rfl (by kernel_rfl) (q79_0 x0 w R h)

/-! ### 85 "crier/packet.CheckMessage" -/
noncomputable abbrev b85_0 : Code := (f85.body).getD .skip
abbrev D85 : Plans := []
abbrev Q85_0 (R : Value → World → Prop) : Post := retQ P f85.results.toList R
def S85_0 (x0 : Value) (w : World) (R : Value → World → Prop) : Prop :=
 XV P (Instr.box 24 x0) w fun v1 w1 =>
 LB P 24 9 0 v1 w1 fun v5 w3 =>
 CallF P 122 #[v5] w3 fun v6 w4 =>
 XV P (binS .neq 85 true v6 (.int .i64 0)) w4 fun v7 w5 =>
 condW v7 (
  R (.int .i64 23) w5) (
  LB P 24 3 2 v1 w5 fun v10 w7 =>
  CallF P 135 #[v10] w7 fun v11 w8 =>
  XV P (Op.unary .not v11) w8 fun v12 w9 =>
  condW v12 (
   R (.int .i64 25) w9) (
   R (.int .i64 0) w9))
theorem e85_0 (x0 : Value) (w : World) (R : Value → World → Prop) : S85_0 x0 w R = Wp P 13 D85 [] b85_0 [] (Q85_0 R) [(0, some x0)] w := by kernel_rfl
theorem q85_0 (x0 : Value) (w : World) (R : Value → World → Prop) (h : S85_0 x0 w R) : Runs P 13 (subC [] b85_0) (postC P 13 [] b85_0 (Q85_0 R)) [(0, some x0)] w :=
  Wp_use mixed (e85_0 x0 w R) h (fun _ _ _ h => h) trivial
theorem c85 (x0 : Value) (w : World) (R : Value → World → Prop) (h : S85_0 x0 w R) : CallF P 85 #[x0] w R :=
  call_of_runs (args := [x0]) (c := b85_0) (by kernel_rfl) func85 rfl (by kernel_rfl) (q85_0 x0 w R h)

/-! ### 81 "crier/packet.Flags" -/
noncomputable abbrev b81_0 : Code := (f81.body).getD .skip
abbrev D81 : Plans := []
abbrev Q81_0 (R : Value → World → Prop) : Post := retQ P f81.results.toList R
def S81_1 (x1 x3 : Value) (w : World) (R : Value → World → Prop) : Prop :=
 XV P (Instr.fieldAt 29 x1 14) w fun v22 w1 =>
 LB P 24 4 3 v22 w1 fun v24 w3 =>
 condW v24 (
  XV P (binS .or 3 true x3 (.int .i64 1)) w3 fun v26 w4 =>
  R v26 w4) (
  R x3 w3)
def B81_0 (Z1 : Value → Value → World → Prop) (x0 : Value) (w : World) (R : Value → World → Prop) : Prop :=
 XV P (Instr.box 29 x0) w fun v1 w1 =>
 XV P (Instr.loadAt 29 v1) w1 fun v4 w2 =>
 CallF P 79 #[v4] w2 fun v5 w3 =>
 XV P (binS .neq 85 true v5 (.int .i64 0)) w3 fun v6 w4 =>
 condW v6 (
  R (.int .i64 0) w4) (
  LB P 29 3 0 v1 w4 fun v8 w6 =>
  XV P (binS .neq 3 true v8 (.int .i64 3)) w6 fun v9 w7 =>
  condW v9 (
   LB P 29 3 0 v1 w7 fun v11 w9 =>
   LI P 159 3 (.pointer (some ⟨1, 0, none⟩)) v11 w9 fun v13 w11 =>
   R v13 w11) (
   XV P (Instr.fieldAt 29 v1 14) w7 fun v14 w12 =>
   LB P 24 3 2 v14 w12 fun v16 w14 =>
   XV P (binS .mul 3 true (.int .i64 2) v16) w14 fun v17 w15 =>
   LB P 29 4 13 v1 w15 fun v19 w17 =>
   condW v19 (
    XV P (binS .or 3 true v17 (.int .i64 8)) w17 fun v21 w18 =>
    Z1 v1 v21 w18) (
    Z1 v1 v17 w17)))
def S81_0 (x0 : Value) (w : World) (R : Value → World → Prop) : Prop := B81_0 (fun x1 x3 w => S81_1 x1 x3 w R) x0 w R
theorem e81_1 (x1 x3 : Value) (w : World) (R : Value → World → Prop) : S81_1 x1 x3 w R = Wp P 28 D81 [true, true, true, true, true] b81_0 [] (Q81_0 R) [(1, some x1), (3, some x3)] w := by kernel_rfl
theorem q81_1 (x1 x3 : Value) (w : World) (R : Value → World → Prop) (h : S81_1 x1 x3 w R) : Runs P 28 (subC [true, true, true, true, true] b81_0) (postC P 28 [true, true, true, true, true] b81_0 (Q81_0 R)) [(1, some x1), (3, some x3)] w :=
  Wp_use mixed (e81_1 x1 x3 w R) h (fun _ _ _ h => h) trivial
theorem e81_0 (Z1 : Value → Value → World → Prop) (x0 : Value) (w : World) (R : Value → World → Prop) : B81_0 Z1 x0 w R = Wp P 28 D81 [] b81_0 [([true, true, true, true, true], fun e w => E1 e (.tmp 1) fun x1 => E1 e (.tmp 3) fun x3 => Z1 x1 x3 w)] (Q81_0 R) [(0, some x0)] w := by kernel_rfl
theorem q81_0 (x0 : Value) (w : World) (R : Value → World → Prop) (h : S81_0 x0 w R) : Runs P 28 (subC [] b81_0) (postC P 28 [] b81_0 (Q81_0 R)) [(0, some x0)] w :=
  Wp_use mixed (e81_0 (fun x1 x3 w => S81_1 x1 x3 w R) x0 w R) h (fun _ _ _ h => h) ⟨(fun e w h => let ⟨y1, h1, h⟩ := E1.elim h; let ⟨y3, h3, h⟩ := E1.elim h; (q81_1 y1 y3 w R h).more (sub_cons h1 (sub_cons h3 (sub_nil)))), trivial⟩
theorem c81 (x0 : Value) (w : World) (R : Value → World → Prop) (h : S81_0 x0 w R) : CallF P 81 #[x0] w R :=
  call_of_runs (args := [x0]) (c := b81_0) (by kernel_rfl) func81 rfl (by kernel_rfl) (q81_0 x0 w R h)

/-! ### 83 "crier/packet.Length" -/
noncomputable abbrev b83_0 : Code := (f83.body).getD .skip
abbrev D83 : Plans := []
abbrev Q83_0 (R : Value → World → Prop) : Post := retQ P f83.results.toList R
def S83_0 (x0 : Value) (w : World) (R : Value → World → Prop) : Prop :=
 XV P (Instr.box 29 x0) w fun v1 w1 =>
 XV P (Instr.loadAt 29 v1) w1 fun v3 w2 =>
 CallF P 79 #[v3] w2 fun v4 w3 =>
 XV P (binS .neq 85 true v4 (.int .i64 0)) w3 fun v5 w4 =>
 condW v5 (
  R (.int .i64 0) w4) (
  XV P (Instr.loadAt 29 v1) w4 fun v6 w5 =>
  CallF P 126 #[v6] w5 fun v7 w6 =>
  R v7 w6)
theorem e83_0 (x0 : Value) (w : World) (R : Value → World → Prop) : S83_0 x0 w R = Wp P 8 D83 [] b83_0 [] (Q83_0 R) [(0, some x0)] w := by kernel_rfl
theorem q83_0 (x0 : Value) (w : World) (R : Value → World → Prop) (h : S83_0 x0 w R) : Runs P 8 (subC [] b83_0) (postC P 8 [] b83_0 (Q83_0 R)) [(0, some x0)] w :=
  Wp_use mixed (e83_0 x0 w R) h (fun _ _ _ h => h) trivial
theorem c83 (x0 : Value) (w : World) (R : Value → World → Prop) (h : S83_0 x0 w R) : CallF P 83 #[x0] w R :=
  call_of_runs (args := [x0]) (c := b83_0) (by kernel_rfl) func83 rfl (by kernel_rfl) (q83_0 x0 w R h)

/-! ### 126 "crier/packet.length" -/
noncomputable abbrev b126_0 : Code := (f126.body).getD .skip
abbrev D126 : Plans := []
abbrev Q126_0 (R : Value → World → Prop) : Post := retQ P f126.results.toList R
def S126_7 (x1 x3 x4 x88 x89 x90 : Value) (w : World) (K2 : Value → Value → Value → Value → Value → Value → World → Prop) (R : Value → World → Prop) : Prop :=
 XV P (binS .lss 3 false x90 x89) w fun v91 w1 =>
 condW v91 (
  LI P 27 9 x88 x90 w1 fun v93 w3 =>
  XV P (Builtin.len_ #[9] 3 #[v93]) w3 fun v96 w4 =>
  XN P (callF x4 #[(.bool true), v96]) w4 fun v97 w5 =>
  XV P (binS .add 3 true x90 (.int .i64 1)) w5 fun v98 w6 =>
  K2 x1 x3 x4 x88 x89 v98 w6) (
  XV P (Instr.loadAt 3 x3) w1 fun v99 w7 =>
  LB P 29 26 17 x1 w7 fun v101 w9 =>
  XV P (Builtin.len_ #[26] 3 #[v101]) w9 fun v102 w10 =>
  XV P (binS .add 3 false v99 v102) w10 fun v103 w11 =>
  R v103 w11)
def S126_6 (x1 x3 x4 x88 x89 x90 : Value) (w : World) (R : Value → World → Prop) : Prop :=
 LoopP (fun (s : Value × Value × Value × Value × Value × Value) w K => S126_7 s.1 s.2.1 s.2.2.1 s.2.2.2.1 s.2.2.2.2.1 s.2.2.2.2.2 w (fun x1 x3 x4 x88 x89 x90 w => K (x1, x3, x4, x88, x89, x90) w) R) (x1, x3, x4, x88, x89, x90) w
def B126_5 (Z6 : Value → Value → Value → Value → Value → Value → World → Prop) (x1 x3 x4 x74 x75 x76 : Value) (w : World) (K1 : Value → Value → Value → Value → Value → Value → World → Prop) (R : Value → World → Prop) : Prop :=
 XV P (binS .lss 3 false x76 x75) w fun v77 w1 =>
 condW v77 (
  LI P 25 73 x74 x76 w1 fun v79 w3 =>
  XV P (Instr.alloc 73 true (.tuple #[])) w3 fun v7 w4 =>
  XU P (Instr.storeAt 73 v7 v79) w4 fun w5 =>
  LB P 73 9 0 v7 w5 fun v82 w7 =>
  XV P (Builtin.len_ #[9] 3 #[v82]) w7 fun v83 w8 =>
  XV P (binS .add 3 true v83 (.int .i64 1)) w8 fun v84 w9 =>
  XN P (callF x4 #[(.bool true), v84]) w9 fun v85 w10 =>
  XV P (binS .add 3 true x76 (.int .i64 1)) w10 fun v86 w11 =>
  K1 x1 x3 x4 x74 x75 v86 w11) (
  LB P 29 27 18 x1 w1 fun v88 w13 =>
  XV P (Builtin.len_ #[27] 3 #[v88]) w13 fun v89 w14 =>
  Z6 x1 x3 x4 v88 v89 (.int .i64 0) w14)
def S126_5 (x1 x3 x4 x74 x75 x76 : Value) (w : World) (K1 : Value → Value → Value → Value → Value → Value → World → Prop) (R : Value → World → Prop) : Prop := B126_5 (fun x1 x3 x4 x88 x89 x90 w => S126_6 x1 x3 x4 x88 x89 x90 w R) x1 x3 x4 x74 x75 x76 w K1 R
def S126_1 (x1 x3 x4 x74 x75 x76 : Value) (w : World) (R : Value → World → Prop) : Prop :=
 LoopP (fun (s : Value × Value × Value × Value × Value × Value) w K => S126_5 s.1 s.2.1 s.2.2.1 s.2.2.2.1 s.2.2.2.2.1 s.2.2.2.2.2 w (fun x1 x3 x4 x74 x75 x76 w => K (x1, x3, x4, x74, x75, x76) w) R) (x1, x3, x4, x74, x75, x76) w
def B126_2 (Z1 : Value → Value → Value → Value → Value → Value → World → Prop) (x1 x3 x4 : Value) (w : World) (R : Value → World → Prop) : Prop :=
 XV P (Instr.loadAt 29 x1) w fun v70 w1 =>
 CallF P 125 #[v70] w1 fun v71 w2 =>
 XN P (callF x4 #[v71, (.int .i64 0)]) w2 fun v72 w3 =>
 LB P 29 25 16 x1 w3 fun v74 w5 =>
 XV P (Builtin.len_ #[25] 3 #[v74]) w5 fun v75 w6 =>
 Z1 x1 x3 x4 v74 v75 (.int .i64 0) w6
def S126_2 (x1 x3 x4 : Value) (w : World) (R : Value → World → Prop) : Prop := B126_2 (fun x1 x3 x4 x74 x75 x76 w => S126_1 x1 x3 x4 x74 x75 x76 w R) x1 x3 x4 w R
def B126_3 (Z2 : Value → Value → Value → World → Prop) (x1 x3 x4 x5 : Value) (w : World) (R : Value → World → Prop) : Prop :=
 XV P (binS .and 3 true x5 (.int .i64 4)) w fun v57 w1 =>
 XV P (binS .gtr 3 true v57 (.int .i64 0)) w1 fun v58 w2 =>
 condW v58 (
  XV P (Instr.fieldAt 29 x1 14) w2 fun v59 w3 =>
  LB P 24 22 1 v59 w3 fun v61 w5 =>
  XV P (Builtin.len_ #[22] 3 #[v61]) w5 fun v62 w6 =>
  XU P (Instr.storeAt 3 x3 v62) w6 fun w7 =>
  XV P (Instr.fieldAt 29 x1 14) w7 fun v64 w8 =>
  LB P 24 9 0 v64 w8 fun v66 w10 =>
  XV P (Builtin.len_ #[9] 3 #[v66]) w10 fun v67 w11 =>
  XN P (callF x4 #[(.bool true), v67]) w11 fun v68 w12 =>
  Z2 x1 x3 x4 w12) (
  Z2 x1 x3 x4 w2)
def S126_3 (x1 x3 x4 x5 : Value) (w : World) (R : Value → World → Prop) : Prop := B126_3 (fun x1 x3 x4 w => S126_2 x1 x3 x4 w R) x1 x3 x4 x5 w R
def B126_4 (Z3 : Value → Value → Value → Value → World → Prop) (x1 x3 x4 x5 : Value) (w : World) (R : Value → World → Prop) : Prop :=
 XV P (binS .and 3 true x5 (.int .i64 2)) w fun v54 w1 =>
 XV P (binS .gtr 3 true v54 (.int .i64 0)) w1 fun v55 w2 =>
 condW v55 (
  XU P (Instr.storeAt 3 x3 (.int .i64 2)) w2 fun w3 =>
  Z3 x1 x3 x4 x5 w3) (
  Z3 x1 x3 x4 x5 w2)
def S126_4 (x1 x3 x4 x5 : Value) (w : World) (R : Value → World → Prop) : Prop := B126_4 (fun x1 x3 x4 x5 w => S126_3 x1 x3 x4 x5 w R) x1 x3 x4 x5 w R
def B126_0 (Z4 : Value → Value → Value → Value → World → Prop) (x0 : Value) (w : World) (R : Value → World → Prop) : Prop :=
 XV P (Instr.box 29 x0) w fun v1 w1 =>
 XV P (Instr.alloc 3 true (.tuple #[])) w1 fun v3 w2 =>
 XU P (Instr.storeAt 3 v3 (.int .i64 0)) w2 fun w3 =>
 XV P (Instr.makeFunc (.func 198) #[] #[v3]) w3 fun v10 w4 =>
 LB P 29 3 0 v1 w4 fun v12 w6 =>
 LI P 159 3 (.pointer (some ⟨0, 0, none⟩)) v12 w6 fun v14 w8 =>
 XV P (binS .and 3 true v14 (.int .i64 1)) w8 fun v16 w9 =>
 XV P (binS .gtr 3 true v16 (.int .i64 0)) w9 fun v17 w10 =>
 condW v17 (
  XU P (Instr.storeAt 3 v3 (.int .i64 10)) w10 fun w11 =>
  LB P 29 9 4 v1 w11 fun v20 w13 =>
  XV P (Builtin.len_ #[9] 3 #[v20]) w13 fun v21 w14 =>
  XN P (callF v10 #[(.bool true), v21]) w14 fun v22 w15 =>
  LB P 29 4 5 v1 w15 fun v25 w17 =>
  XV P (Instr.fieldAt 29 v1 6) w17 fun v26 w18 =>
  LB P 24 9 0 v26 w18 fun v28 w20 =>
  XV P (Builtin.len_ #[9] 3 #[v28]) w20 fun v29 w21 =>
  XN P (callF v10 #[v25, v29]) w21 fun v30 w22 =>
  LB P 29 4 5 v1 w22 fun v33 w24 =>
  XV P (Instr.fieldAt 29 v1 6) w24 fun v34 w25 =>
  LB P 24 22 1 v34 w25 fun v36 w27 =>
  XV P (Builtin.len_ #[22] 3 #[v36]) w27 fun v37 w28 =>
  XN P (callF v10 #[v33, v37]) w28 fun v38 w29 =>
  LB P 29 4 7 v1 w29 fun v41 w31 =>
  LB P 29 9 8 v1 w31 fun v43 w33 =>
  XV P (Builtin.len_ #[9] 3 #[v43]) w33 fun v44 w34 =>
  XN P (callF v10 #[v41, v44]) w34 fun v45 w35 =>
  LB P 29 4 9 v1 w35 fun v48 w37 =>
  LB P 29 22 10 v1 w37 fun v50 w39 =>
  XV P (Builtin.len_ #[22] 3 #[v50]) w39 fun v51 w40 =>
  XN P (callF v10 #[v48, v51]) w40 fun v52 w41 =>
  Z4 v1 v3 v10 v14 w41) (
  Z4 v1 v3 v10 v14 w10)
def S126_0 (x0 : Value) (w : World) (R : Value → World → Prop) : Prop := B126_0 (fun x1 x3 x4 x5 w => S126_4 x1 x3 x4 x5 w R) x0 w R
noncomputable abbrev b126_1 : Code := match subC [true, true, true, true, true, true, true, true, false, true, false] b126_0 with | .loop x => x | _ => .skip
abbrev V126_1 (K : Value → Value → Value → Value → Value → Value → World → Prop) (e : Env) (w : World) : Prop := E1 e (.tmp 1) fun x1 => E1 e (.tmp 3) fun x3 => E1 e (.tmp 4) fun x4 => E1 e (.tmp 74) fun x74 => E1 e (.tmp 75) fun x75 => E1 e (.tmp 76) fun x76 => K x1 x3 x4 x74 x75 x76 w
abbrev Q126_1 (K1 : Value → Value → Value → Value → Value → Value → World → Prop) (R : Value → World → Prop) : Post := thenQ (V126_1 K1) (postC P 104 [true, true, true, true, true, true, true, true, false, true, false] b126_0 (Q126_0 R))
noncomputable abbrev b126_2 : Code := match subC [true, true, true, true, true, true, true, true, true, false, true, false] b126_0 with | .loop x => x | _ => .skip
abbrev V126_2 (K : Value → Value → Value → Value → Value → Value → World → Prop) (e : Env) (w : World) : Prop := E1 e (.tmp 1) fun x1 => E1 e (.tmp 3) fun x3 => E1 e (.tmp 4) fun x4 => E1 e (.tmp 88) fun x88 => E1 e (.tmp 89) fun x89 => E1 e (.tmp 90) fun x90 => K x1 x3 x4 x88 x89 x90 w
abbrev Q126_2 (K2 : Value → Value → Value → Value → Value → Value → World → Prop) (R : Value → World → Prop) : Post := thenQ (V126_2 K2) (postC P 104 [true, true, true, true, true, true, true, true, true, false, true, false] b126_0 (Q126_0 R))
theorem e126_7 (x1 x3 x4 x88 x89 x90 : Value) (w : World) (K2 : Value → Value → Value → Value → Value → Value → World → Prop) (R : Value → World → Prop) : S126_7 x1 x3 x4 x88 x89 x90 w K2 R = Wp P 104 D126 [] b126_2 [] (thenQ (V126_2 K2) (postW P 104 D126 [true, true, true, true, true, true, true, true, true, false, true, false] b126_0 [] (Q126_0 R))) [(1, some x1), (3, some x3), (4, some x4), (88, some x88), (89, some x89), (90, some x90)] w := by kernel_rfl
theorem q126_7 (x1 x3 x4 x88 x89 x90 : Value) (w : World) (K2 : Value → Value → Value → Value → Value → Value → World → Prop) (R : Value → World → Prop) (h : S126_7 x1 x3 x4 x88 x89 x90 w K2 R) : Runs P 104 (subC [] b126_2) (postC P 104 [] b126_2 (Q126_2 K2 R)) [(1, some x1), (3, some x3), (4, some x4), (88, some x88), (89, some x89), (90, some x90)] w :=
  Wp_use mixed (e126_7 x1 x3 x4 x88 x89 x90 w K2 R) h (thenQ_le (postW_le mixed _ _ _ _ _ (fun _ _ _ h => h) trivial)) trivial
theorem q126_6 (x1 x3 x4 x88 x89 x90 : Value) (w : World) (R : Value → World → Prop) (h : S126_6 x1 x3 x4 x88 x89 x90 w R) : Runs P 104 (subC [true, true, true, true, true, true, true, true, true, false, true, false] b126_0) (postC P 104 [true, true, true, true, true, true, true, true, true, false, true, false] b126_0 (Q126_0 R)) [(1, some x1), (3, some x3), (4, some x4), (88, some x88), (89, some x89), (90, some x90)] w :=
  Runs.loop (σ := Value × Value × Value × Value × Value × Value) (fun s => [(1, some s.1), (3, some s.2.1), (4, some s.2.2.1), (88, some s.2.2.2.1), (89, some s.2.2.2.2.1), (90, some s.2.2.2.2.2)]) (fun e k => E1 e (.tmp 1) fun x1 => E1 e (.tmp 3) fun x3 => E1 e (.tmp 4) fun x4 => E1 e (.tmp 88) fun x88 => E1 e (.tmp 89) fun x89 => E1 e (.tmp 90) fun x90 => k (x1, x3, x4, x88, x89, x90)) (fun e k h => let ⟨y1, h1, h⟩ := E1.elim h; let ⟨y3, h3, h⟩ := E1.elim h; let ⟨y4, h4, h⟩ := E1.elim h; let ⟨y88, h88, h⟩ := E1.elim h; let ⟨y89, h89, h⟩ := E1.elim h; let ⟨y90, h90, h⟩ := E1.elim h; ⟨(y1, y3, y4, y88, y89, y90), h, (sub_cons h1 (sub_cons h3 (sub_cons h4 (sub_cons h88 (sub_cons h89 (sub_cons h90 (sub_nil)))))))⟩) (fun s w K h => q126_7 s.1 s.2.1 s.2.2.1 s.2.2.2.1 s.2.2.2.2.1 s.2.2.2.2.2 w (fun x1 x3 x4 x88 x89 x90 w => K (x1, x3, x4, x88, x89, x90) w) R h) h
theorem e126_5 (Z6 : Value → Value → Value → Value → Value → Value → World → Prop) (x1 x3 x4 x74 x75 x76 : Value) (w : World) (K1 : Value → Value → Value → Value → Value → Value → World → Prop) (R : Value → World → Prop) : B126_5 Z6 x1 x3 x4 x74 x75 x76 w K1 R = Wp P 104 D126 [] b126_1 [] (thenQ (V126_1 K1) (postW P 104 D126 [true, true, true, true, true, true, true, true, false, true, false] b126_0 [([true, true, true, true, true, true, true, true, true, false, true, false], fun e w => E1 e (.tmp 1) fun x1 => E1 e (.tmp 3) fun x3 => E1 e (.tmp 4) fun x4 => E1 e (.tmp 88) fun x88 => E1 e (.tmp 89) fun x89 => E1 e (.tmp 90) fun x90 => Z6 x1 x3 x4 x88 x89 x90 w)] (Q126_0 R))) [(1, some x1), (3, some x3), (4, some x4), (74, some x74), (75, some x75), (76, some x76)] w := by kernel_rfl
theorem q126_5 (x1 x3 x4 x74 x75 x76 : Value) (w : World) (K1 : Value → Value → Value → Value → Value → Value → World → Prop) (R : Value → World → Prop) (h : S126_5 x1 x3 x4 x74 x75 x76 w K1 R) : Runs P 104 (subC [] b126_1) (postC P 104 [] b126_1 (Q126_1 K1 R)) [(1, some x1), (3, some x3), (4, some x4), (74, some x74), (75, some x75), (76, some x76)] w :=
  Wp_use mixed (e126_5 (fun x1 x3 x4 x88 x89 x90 w => S126_6 x1 x3 x4 x88 x89 x90 w R) x1 x3 x4 x74 x75 x76 w K1 R) h (thenQ_le (postW_le mixed _ _ _ _ _ (fun _ _ _ h => h) ⟨(fun e w h => let ⟨y1, h1, h⟩ := E1.elim h; let ⟨y3, h3, h⟩ := E1.elim h; let ⟨y4, h4, h⟩ := E1.elim h; let ⟨y88, h88, h⟩ := E1.elim h; let ⟨y89, h89, h⟩ := E1.elim h; let ⟨y90, h90, h⟩ := E1.elim h; (q126_6 y1 y3 y4 y88 y89 y90 w R h).more (sub_cons h1 (sub_cons h3 (sub_cons h4 (sub_cons h88 (sub_cons h89 (sub_cons h90 (sub_nil)))))))), trivial⟩)) trivial
theorem q126_1 (x1 x3 x4 x74 x75 x76 : Value) (w : World) (R : Value → World → Prop) (h : S126_1 x1 x3 x4 x74 x75 x76 w R) : Runs P 104 (subC [true, true, true, true, true, true, true, true, false, true, false] b126_0) (postC P 104 [true, true, true, true, true, true, true, true, false, true, false] b126_0 (Q126_0 R)) [(1, some x1), (3, some x3), (4, some x4), (74, some x74), (75, some x75), (76, some x76)] w :=
  Runs.loop (σ := Value × Value × Value × Value × Value × Value) (fun s => [(1, some s.1), (3, some s.2.1), (4, some s.2.2.1), (74, some s.2.2.2.1), (75, some s.2.2.2.2.1), (76, some s.2.2.2.2.2)]) (fun e k => E1 e (.tmp 1) fun x1 => E1 e (.tmp 3) fun x3 => E1 e (.tmp 4) fun x4 => E1 e (.tmp 74) fun x74 => E1 e (.tmp 75) fun x75 => E1 e (.tmp 76) fun x76 => k (x1, x3, x4, x74, x75, x76)) (fun e k h => let ⟨y1, h1, h⟩ := E1.elim h; let ⟨y3, h3, h⟩ := E1.elim h; let ⟨y4, h4, h⟩ := E1.elim h; let ⟨y74, h74, h⟩ := E1.elim h; let ⟨y75, h75, h⟩ := E1.elim h; let ⟨y76, h76, h⟩ := E1.elim h; ⟨(y1, y3, y4, y74, y75, y76), h, (sub_cons h1 (sub_cons h3 (sub_cons h4 (sub_cons h74 (sub_cons h75 (sub_cons h76 (sub_nil)))))))⟩) (fun s w K h => q126_5 s.1 s.2.1 s.2.2.1 s.2.2.2.1 s.2.2.2.2.1 s.2.2.2.2.2 w (fun x1 x3 x4 x74 x75 x76 w => K (x1, x3, x4, x74, x75, x76) w) R h) h
theorem e126_2 (Z1 : Value → Value → Value → Value → Value → Value → World → Prop) (x1 x3 x4 : Value) (w : World) (R : Value → World → Prop) : B126_2 Z1 x1 x3 x4 w R = Wp P 104 D126 [true, true, true, true, true, true, true] b126_0 [([true, true, true, true, true, true, true, true, false, true, false], fun e w => E1 e (.tmp 1) fun x1 => E1 e (.tmp 3) fun x3 => E1 e (.tmp 4) fun x4 => E1 e (.tmp 74) fun x74 => E1 e (.tmp 75) fun x75 => E1 e (.tmp 76) fun x76 => Z1 x1 x3 x4 x74 x75 x76 w)] (Q126_0 R) [(1, some x1), (3, some x3), (4, some x4)] w := by kernel_rfl
theorem q126_2 (x1 x3 x4 : Value) (w : World) (R : Value → World → Prop) (h : S126_2 x1 x3 x4 w R) : Runs P 104 (subC [true, true, true, true, true, true, true] b126_0) (postC P 104 [true, true, true, true, true, true, true] b126_0 (Q126_0 R)) [(1, some x1), (3, some x3), (4, some x4)] w :=
  Wp_use mixed (e126_2 (fun x1 x3 x4 x74 x75 x76 w => S126_1 x1 x3 x4 x74 x75 x76 w R) x1 x3 x4 w R) h (fun _ _ _ h => h) ⟨(fun e w h => let ⟨y1, h1, h⟩ := E1.elim h; let ⟨y3, h3, h⟩ := E1.elim h; let ⟨y4, h4, h⟩ := E1.elim h; let ⟨y74, h74, h⟩ := E1.elim h; let ⟨y75, h75, h⟩ := E1.elim h; let ⟨y76, h76, h⟩ := E1.elim h; (q126_1 y1 y3 y4 y74 y75 y76 w R h).more (sub_cons h1 (sub_cons h3 (sub_cons h4 (sub_cons h74 (sub_cons h75 (sub_cons h76 (sub_nil)))))))), trivial⟩
theorem e126_3 (Z2 : Value → Value → Value → World → Prop) (x1 x3 x4 x5 : Value) (w : World) (R : Value → World → Prop) : B126_3 Z2 x1 x3 x4 x5 w R = Wp P 104 D126 [true, true, true, true, true, true] b126_0 [([true, true, true, true, true, true, true], fun e w => E1 e (.tmp 1) fun x1 => E1 e (.tmp 3) fun x3 => E1 e (.tmp 4) fun x4 => Z2 x1 x3 x4 w)] (Q126_0 R) [(1, some x1), (3, some x3), (4, some x4), (5, some x5)] w := by kernel_rfl
theorem q126_3 (x1 x3 x4 x5 : Value) (w : World) (R : Value → World → Prop) (h : S126_3 x1 x3 x4 x5 w R) : Runs P 104 (subC [true, true, true, true, true, true] b126_0) (postC P 104 [true, true, true, true, true, true] b126_0 (Q126_0 R)) [(1, some x1), (3, some x3), (4, some x4), (5, some x5)] w :=
  Wp_use mixed (e126_3 (fun x1 x3 x4 w => S126_2 x1 x3 x4 w R) x1 x3 x4 x5 w R) h (fun _ _ _ h => h) ⟨(fun e w h => let ⟨y1, h1, h⟩ := E1.elim h; let ⟨y3, h3, h⟩ := E1.elim h; let ⟨y4, h4, h⟩ := E1.elim h; (q126_2 y1 y3 y4 w R h).more (sub_cons h1 (sub_cons h3 (sub_cons h4 (sub_nil))))), trivial⟩
theorem e126_4 (Z3 : Value → Value → Value → Value → World → Prop) (x1 x3 x4 x5 : Value) (w : World) (R : Value → World → Prop) : B126_4 Z3 x1 x3 x4 x5 w R = Wp P 104 D126 [true, true, true, true, true] b126_0 [([true, true, true, true, true, true], fun e w => E1 e (.tmp 1) fun x1 => E1 e (.tmp 3) fun x3 => E1 e (.tmp 4) fun x4 => E1 e (.tmp 5) fun x5 => Z3 x1 x3 x4 x5 w)] (Q126_0 R) [(1, some x1), (3, some x3), (4, some x4), (5, some x5)] w := by kernel_rfl
theorem q126_4 (x1 x3 x4 x5 : Value) (w : World) (R : Value → World → Prop) (h : S126_4 x1 x3 x4 x5 w R) : Runs P 104 (subC [true, true, true, true, true] b126_0) (postC P 104 [true, true, true, true, true] b126_0 (Q126_0 R)) [(1, some x1), (3, some x3), (4, some x4), (5, some x5)] w :=
  Wp_use mixed (e126_4 (fun x1 x3 x4 x5 w => S126_3 x1 x3 x4 x5 w R) x1 x3 x4 x5 w R) h (fun _ _ _ h => h) ⟨(fun e w h => let ⟨y1, h1, h⟩ := E1.elim h; let ⟨y3, h3, h⟩ := E1.elim h; let ⟨y4, h4, h⟩ := E1.elim h; let ⟨y5, h5, h⟩ := E1.elim h; (q126_3 y1 y3 y4 y5 w R h).more (sub_cons h1 (sub_cons h3 (sub_cons h4 (sub_cons h5 (sub_nil)))))), trivial⟩
theorem e126_0 (Z4 : Value → Value → Value → Value → World → Prop) (x0 : Value) (w : World) (R : Value → World → Prop) : B126_0 Z4 x0 w R = Wp P 104 D126 [] b126_0 [([true, true, true, true, true], fun e w => E1 e (.tmp 1) fun x1 => E1 e (.tmp 3) fun x3 => E1 e (.tmp 4) fun x4 => E1 e (.tmp 5) fun x5 => Z4 x1 x3 x4 x5 w)] (Q126_0 R) [(0, some x0)] w := by kernel_rfl
theorem q126_0 (x0 : Value) (w : World) (R : Value → World → Prop) (h : S126_0 x0 w R) : Runs P 104 (subC [] b126_0) (postC P 104 [] b126_0 (Q126_0 R)) [(0, some x0)] w :=
  Wp_use mixed (e126_0 (fun x1 x3 x4 x5 w => S126_4 x1 x3 x4 x5 w R) x0 w R) h (fun _ _ _ h => h) ⟨(fun e w h => let ⟨y1, h1, h⟩ := E1.elim h; let ⟨y3, h3, h⟩ := E1.elim h; let ⟨y4, h4, h⟩ := E1.elim h; let ⟨y5, h5, h⟩ := E1.elim h; (q126_4 y1 y3 y4 y5 w R h).more (sub_cons h1 (sub_cons h3 (sub_cons h4 (sub_cons h5 (sub_nil)))))), trivial⟩
theorem c126 (x0 : Value) (w : World) (R : Value → World → Prop) (h : S126_0 x0 w R) : CallF P 126 #[x0] w R :=
  call_of_runs (args := [x0]) (c := b126_0) (by kernel_rfl) func126 rfl (by kernel_rfl) (q126_0 x0 w R h)

/-! ### 198 "crier/packet.length$1" -/
noncomputable abbrev b198_0 : Code := (f198.body).getD .skip
abbrev D198 : Plans := []
abbrev Q198_0 (R : Value → World → Prop) : Post := retQ P f198.results.toList R
def S198_0 (x0 x1 x2 : Value) (w : World) (R : Value → World → Prop) : Prop :=
 condW x0 (
  XV P (Instr.loadAt 3 x2) w fun v6 w1 =>
  XV P (binS .add 3 true (.int .i64 2) x1) w1 fun v8 w2 =>
  XV P (binS .add 3 false v6 v8) w2 fun v9 w3 =>
  XU P (Instr.storeAt 3 x2 v9) w3 fun w4 =>
  R (.tuple #[]) w4) (
  R (.tuple #[]) w)
theorem e198_0 (x0 x1 x2 : Value) (w : World) (R : Value → World → Prop) : S198_0 x0 x1 x2 w R = Wp P 10 D198 [] b198_0 [] (Q198_0 R) [(0, some x0), (1, some x1), (2, some x2)] w := by kernel_rfl
theorem q198_0 (x0 x1 x2 : Value) (w : World) (R : Value → World → Prop) (h : S198_0 x0 x1 x2 w R) : Runs P 10 (subC [] b198_0) (postC P 10 [] b198_0 (Q198_0 R)) [(0, some x0), (1, some x1), (2, some x2)] w :=
  Wp_use mixed (e198_0 x0 x1 x2 w R) h (fun _ _ _ h => h) trivial
theorem c198 (x0 x1 x2 : Value) (w : World) (R : Value → World → Prop) (h : S198_0 x0 x1 x2 w R) : CallF P 198 #[x0, x1, x2] w R :=
  call_of_runs (args := [x0, x1, x2]) (c := b198_0) (by kernel_rfl) func198 rfl (by kernel_rfl) (q198_0 x0 x1 x2 w R h)

/-! ### 195 "slices.ContainsFunc[[]string,string]" -/
noncomputable abbrev b195_0 : Code := (f195.body).getD .skip
abbrev D195 : Plans := []
abbrev Q195_0 (R : Value → World → Prop) : Post := retQ P f195.results.toList R
def S195_0 (x0 x1 : Value) (w : World) (R : Value → World → Prop) : Prop :=
 CallF P 207 #[x0, x1] w fun v7 w1 =>
 XV P (binS .geq 3 true v7 (.int .i64 0)) w1 fun v8 w2 =>
 R v8 w2
theorem e195_0 (x0 x1 : Value) (w : World) (R : Value → World → Prop) : S195_0 x0 x1 w R = Wp P 9 D195 [] b195_0 [] (Q195_0 R) [(0, some x0), (1, some x1)] w := by kernel_rfl
theorem q195_0 (x0 x1 : Value) (w : World) (R : Value → World → Prop) (h : S195_0 x0 x1 w R) : Runs P 9 (subC [] b195_0) (postC P 9 [] b195_0 (Q195_0 R)) [(0, some x0), (1, some x1)] w :=
  Wp_use mixed (e195_0 x0 x1 w R) h (fun _ _ _ h => h) trivial
theorem c195 (x0 x1 : Value) (w : World) (R : Value → World → Prop) (h : S195_0 x0 x1 w R) : CallF P 195 #[x0, x1] w R :=
  call_of_runs (args := [x0, x1]) (c := b195_0) (by kernel_rfl) func195 rfl (by kernel_rfl) (q195_0 x0 x1 w R h)

/-! ### 196 "slices.ContainsFunc[[]crier/api.Ask,crier/api.Ask]" -/
noncomputable abbrev b196_0 : Code := (f196.body).getD .skip
abbrev D196 : Plans := []
abbrev Q196_0 (R : Value → World → Prop) : Post := retQ P f196.results.toList R
def S196_0 (x0 x1 : Value) (w : World) (R : Value → World → Prop) : Prop :=
 CallF P 208 #[x0, x1] w fun v7 w1 =>
 XV P (binS .geq 3 true v7 (.int .i64 0)) w1 fun v8 w2 =>
 R v8 w2
theorem e196_0 (x0 x1 : Value) (w : World) (R : Value → World → Prop) : S196_0 x0 x1 w R = Wp P 9 D196 [] b196_0 [] (Q196_0 R) [(0, some x0), (1, some x1)] w := by kernel_rfl
theorem q196_0 (x0 x1 : Value) (w : World) (R : Value → World → Prop) (h : S196_0 x0 x1 w R) : Runs P 9 (subC [] b196_0) (postC P 9 [] b196_0 (Q196_0 R)) [(0, some x0), (1, some x1)] w :=
  Wp_use mixed (e196_0 x0 x1 w R) h (fun _ _ _ h => h) trivial
theorem c196 (x0 x1 : Value) (w : World) (R : Value → World → Prop) (h : S196_0 x0 x1 w R) : CallF P 196 #[x0, x1] w R :=
  call_of_runs (args := [x0, x1]) (c := b196_0) (by kernel_rfl) func196 rfl (by kernel_rfl) (q196_0 x0 x1 w R h)

/-! ### 207 "slices.IndexFunc[[]string,string]" -/
noncomputable abbrev b207_0 : Code := (f207.body).getD .skip
abbrev D207 : Plans := []
abbrev Q207_0 (R : Value → World → Prop) : Post := retQ P f207.results.toList R
def S207_2 (x0 x1 x7 x8 : Value) (w : World) (K1 : Value → Value → Value → Value → World → Prop) (R : Value → World → Prop) : Prop :=
 XV P (binS .lss 3 false x8 x7) w fun v9 w1 =>
 condW v9 (
  LI P 27 9 x0 x8 w1 fun v15 w3 =>
  XN P (callF x1 #[v15]) w3 fun v16 w4 =>
  condW v16 (
   R x8 w4) (
   XV P (binS .add 3 true x8 (.int .i64 1)) w4 fun v18 w5 =>
   K1 x0 x1 x7 v18 w5)) (
  R (.int .i64 (-1)) w1)
def S207_1 (x0 x1 x7 x8 : Value) (w : World) (R : Value → World → Prop) : Prop :=
 LoopP (fun (s : Value × Value × Value × Value) w K => S207_2 s.1 s.2.1 s.2.2.1 s.2.2.2 w (fun x0 x1 x7 x8 w => K (x0, x1, x7, x8) w) R) (x0, x1, x7, x8) w
def B207_0 (Z1 : Value → Value → Value → Value → World → Prop) (x0 x1 : Value) (w : World) (R : Value → World → Prop) : Prop :=
 XV P (Builtin.len_ #[27] 3 #[x0]) w fun v7 w1 =>
 Z1 x0 x1 v7 (.int .i64 0) w1
def S207_0 (x0 x1 : Value) (w : World) (R : Value → World → Prop) : Prop := B207_0 (fun x0 x1 x7 x8 w => S207_1 x0 x1 x7 x8 w R) x0 x1 w R
noncomputable abbrev b207_1 : Code := match subC [true, false, true, false] b207_0 with | .loop x => x | _ => .skip
abbrev V207_1 (K : Value → Value → Value → Value → World → Prop) (e : Env) (w : World) : Prop := E1 e (.tmp 0) fun x0 => E1 e (.tmp 1) fun x1 => E1 e (.tmp 7) fun x7 => E1 e (.tmp 8) fun x8 => K x0 x1 x7 x8 w
abbrev Q207_1 (K1 : Value → Value → Value → Value → World → Prop) (R : Value → World → Prop) : Post := thenQ (V207_1 K1) (postC P 19 [true, false, true, false] b207_0 (Q207_0 R))
theorem e207_2 (x0 x1 x7 x8 : Value) (w : World) (K1 : Value → Value → Value → Value → World → Prop) (R : Value → World → Prop) : S207_2 x0 x1 x7 x8 w K1 R = Wp P 19 D207 [] b207_1 [] (thenQ (V207_1 K1) (postW P 19 D207 [true, false, true, false] b207_0 [] (Q207_0 R))) [(0, some x0), (1, some x1), (7, some x7), (8, some x8)] w := by kernel_rfl
theorem q207_2 (x0 x1 x7 x8 : Value) (w : World) (K1 : Value → Value → Value → Value → World → Prop) (R : Value → World → Prop) (h : S207_2 x0 x1 x7 x8 w K1 R) : Runs P 19 (subC [] b207_1) (postC P 19 [] b207_1 (Q207_1 K1 R)) [(0, some x0), (1, some x1), (7, some x7), (8, some x8)] w :=
  Wp_use mixed (e207_2 x0 x1 x7 x8 w K1 R) h (thenQ_le (postW_le mixed _ _ _ _ _ (fun _ _ _ h => h) trivial)) trivial
theorem q207_1 (x0 x1 x7 x8 : Value) (w : World) (R : Value → World → Prop) (h : S207_1 x0 x1 x7 x8 w R) : Runs P 19 (subC [true, false, true, false] b207_0) (postC P 19 [true, false, true, false] b207_0 (Q207_0 R)) [(0, some x0), (1, some x1), (7, some x7), (8, some x8)] w :=
  Runs.loop (σ := Value × Value × Value × Value) (fun s => [(0, some s.1), (1, some s.2.1), (7, some s.2.2.1), (8, some s.2.2.2)]) (fun e k => E1 e (.tmp 0) fun x0 => E1 e (.tmp 1) fun x1 => E1 e (.tmp 7) fun x7 => E1 e (.tmp 8) fun x8 => k (x0, x1, x7, x8)) (fun e k h => let ⟨y0, h0, h⟩ := E1.elim h; let ⟨y1, h1, h⟩ := E1.elim h; let ⟨y7, h7, h⟩ := E1.elim h; let ⟨y8, h8, h⟩ := E1.elim h; ⟨(y0, y1, y7, y8), h, (sub_cons h0 (sub_cons h1 (sub_cons h7 (sub_cons h8 (sub_nil)))))⟩) (fun s w K h => q207_2 s.1 s.2.1 s.2.2.1 s.2.2.2 w (fun x0 x1 x7 x8 w => K (x0, x1, x7, x8) w) R h) h
theorem e207_0 (Z1 : Value → Value → Value → Value → World → Prop) (x0 x1 : Value) (w : World) (R : Value → World → Prop) : B207_0 Z1 x0 x1 w R = Wp P 19 D207 [] b207_0 [([true, false, true, false], fun e w => E1 e (.tmp 0) fun x0 => E1 e (.tmp 1) fun x1 => E1 e (.tmp 7) fun x7 => E1 e (.tmp 8) fun x8 => Z1 x0 x1 x7 x8 w)] (Q207_0 R) [(0, some x0), (1, some x1)] w := by kernel_rfl
theorem q207_0 (x0 x1 : Value) (w : World) (R : Value → World → Prop) (h : S207_0 x0 x1 w R) : Runs P 19 (subC [] b207_0) (postC P 19 [] b207_0 (Q207_0 R)) [(0, some x0), (1, some x1)] w :=
  Wp_use mixed (e207_0 (fun x0 x1 x7 x8 w => S207_1 x0 x1 x7 x8 w R) x0 x1 w R) h (fun _ _ _ h => h) ⟨(fun e w h => let ⟨y0, h0, h⟩ := E1.elim h; let ⟨y1, h1, h⟩ := E1.elim h; let ⟨y7, h7, h⟩ := E1.elim h; let ⟨y8, h8, h⟩ := E1.elim h; (q207_1 y0 y1 y7 y8 w R h).more (sub_cons h0 (sub_cons h1 (sub_cons h7 (sub_cons h8 (sub_nil)))))), trivial⟩
theorem c207 (x0 x1 : Value) (w : World) (R : Value → World → Prop) (h : S207_0 x0 x1 w R) : CallF P 207 #[x0, x1] w R :=
  call_of_runs (args := [x0, x1]) (c := b207_0) (by kernel_rfl) func207 rfl (by kernel_rfl) (q207_0 x0 x1 w R h)

/-! ### 208 "slices.IndexFunc[[]crier/api.Ask,crier/api.Ask]" -/
noncomputable abbrev b208_0 : Code := (f208.body).getD .skip
abbrev D208 : Plans := []
abbrev Q208_0 (R : Value → World → Prop) : Post := retQ P f208.results.toList R
def S208_2 (x0 x1 x7 x8 : Value) (w : World) (K1 : Value → Value → Value → Value → World → Prop) (R : Value → World → Prop) : Prop :=
 XV P (binS .lss 3 false x8 x7) w fun v9 w1 =>
 condW v9 (
  LI P 25 73 x0 x8 w1 fun v15 w3 =>
  XN P (callF x1 #[v15]) w3 fun v16 w4 =>
  condW v16 (
   R x8 w4) (
   XV P (binS .add 3 true x8 (.int .i64 1)) w4 fun v18 w5 =>
   K1 x0 x1 x7 v18 w5)) (
  R (.int .i64 (-1)) w1)
def S208_1 (x0 x1 x7 x8 : Value) (w : World) (R : Value → World → Prop) : Prop :=
 LoopP (fun (s : Value × Value × Value × Value) w K => S208_2 s.1 s.2.1 s.2.2.1 s.2.2.2 w (fun x0 x1 x7 x8 w => K (x0, x1, x7, x8) w) R) (x0, x1, x7, x8) w
def B208_0 (Z1 : Value → Value → Value → Value → World → Prop) (x0 x1 : Value) (w : World) (R : Value → World → Prop) : Prop :=
 XV P (Builtin.len_ #[25] 3 #[x0]) w fun v7 w1 =>
 Z1 x0 x1 v7 (.int .i64 0) w1
def S208_0 (x0 x1 : Value) (w : World) (R : Value → World → Prop) : Prop := B208_0 (fun x0 x1 x7 x8 w => S208_1 x0 x1 x7 x8 w R) x0 x1 w R
noncomputable abbrev b208_1 : Code := match subC [true, false, true, false] b208_0 with | .loop x => x | _ => .skip
abbrev V208_1 (K : Value → Value → Value → Value → World → Prop) (e : Env) (w : World) : Prop := E1 e (.tmp 0) fun x0 => E1 e (.tmp 1) fun x1 => E1 e (.tmp 7) fun x7 => E1 e (.tmp 8) fun x8 => K x0 x1 x7 x8 w
abbrev Q208_1 (K1 : Value → Value → Value → Value → World → Prop) (R : Value → World → Prop) : Post := thenQ (V208_1 K1) (postC P 19 [true, false, true, false] b208_0 (Q208_0 R))
theorem e208_2 (x0 x1 x7 x8 : Value) (w : World) (K1 : Value → Value → Value → Value → World → Prop) (R : Value → World → Prop) : S208_2 x0 x1 x7 x8 w K1 R = Wp P 19 D208 [] b208_1 [] (thenQ (V208_1 K1) (postW P 19 D208 [true, false, true, false] b208_0 [] (Q208_0 R))) [(0, some x0), (1, some x1), (7, some x7), (8, some x8)] w := by kernel_rfl
theorem q208_2 (x0 x1 x7 x8 : Value) (w : World) (K1 : Value → Value → Value → Value → World → Prop) (R : Value → World → Prop) (h : S208_2 x0 x1 x7 x8 w K1 R) : Runs P 19 (subC [] b208_1) (postC P 19 [] b208_1 (Q208_1 K1 R)) [(0, some x0), (1, some x1), (7, some x7), (8, some x8)] w :=
  Wp_use mixed (e208_2 x0 x1 x7 x8 w K1 R) h (thenQ_le (postW_le mixed _ _ _ _ _ (fun _ _ _ h => h) trivial)) trivial
theorem q208_1 (x0 x1 x7 x8 : Value) (w : World) (R : Value → World → Prop) (h : S208_1 x0 x1 x7 x8 w R) : Runs P 19 (subC [true, false, true, false] b208_0) (postC P 19 [true, false, true, false] b208_0 (Q208_0 R)) [(0, some x0), (1, some x1), (7, some x7), (8, some x8)] w :=
  Runs.loop (σ := Value × Value × Value × Value) (fun s => [(0, some s.1), (1, some s.2.1), (7, some s.2.2.1), (8, some s.2.2.2)]) (fun e k => E1 e (.tmp 0) fun x0 => E1 e (.tmp 1) fun x1 => E1 e (.tmp 7) fun x7 => E1 e (.tmp 8) fun x8 => k (x0, x1, x7, x8)) (fun e k h => let ⟨y0, h0, h⟩ := E1.elim h; let ⟨y1, h1, h⟩ := E1.elim h; let ⟨y7, h7, h⟩ := E1.elim h; let ⟨y8, h8, h⟩ := E1.elim h; ⟨(y0, y1, y7, y8), h, (sub_cons h0 (sub_cons h1 (sub_cons h7 (sub_cons h8 (sub_nil)))))⟩) (fun s w K h => q208_2 s.1 s.2.1 s.2.2.1 s.2.2.2 w (fun x0 x1 x7 x8 w => K (x0, x1, x7, x8) w) R h) h
theorem e208_0 (Z1 : Value → Value → Value → Value → World → Prop) (x0 x1 : Value) (w : World) (R : Value → World → Prop) : B208_0 Z1 x0 x1 w R = Wp P 19 D208 [] b208_0 [([true, false, true, false], fun e w => E1 e (.tmp 0) fun x0 => E1 e (.tmp 1) fun x1 => E1 e (.tmp 7) fun x7 => E1 e (.tmp 8) fun x8 => Z1 x0 x1 x7 x8 w)] (Q208_0 R) [(0, some x0), (1, some x1)] w := by kernel_rfl
theorem q208_0 (x0 x1 : Value) (w : World) (R : Value → World → Prop) (h : S208_0 x0 x1 w R) : Runs P 19 (subC [] b208_0) (postC P 19 [] b208_0 (Q208_0 R)) [(0, some x0), (1, some x1)] w :=
  Wp_use mixed (e208_0 (fun x0 x1 x7 x8 w => S208_1 x0 x1 x7 x8 w R) x0 x1 w R) h (fun _ _ _ h => h) ⟨(fun e w h => let ⟨y0, h0, h⟩ := E1.elim h; let ⟨y1, h1, h⟩ := E1.elim h; let ⟨y7, h7, h⟩ := E1.elim h; let ⟨y8, h8, h⟩ := E1.elim h; (q208_1 y0 y1 y7 y8 w R h).more (sub_cons h0 (sub_cons h1 (sub_cons h7 (sub_cons h8 (sub_nil)))))), trivial⟩
theorem c208 (x0 x1 : Value) (w : World) (R : Value → World → Prop) (h : S208_0 x0 x1 w R) : CallF P 208 #[x0, x1] w R :=
  call_of_runs (args := [x0, x1]) (c := b208_0) (by kernel_rfl) func208 rfl (by kernel_rfl) (q208_0 x0 x1 w R h)

end Go.Proofs.YtdgffjkcpbolmaaGreatDoor.X
