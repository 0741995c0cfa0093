/- Shallow forms of Go functions, written by the tool fx.py of this session, each with the proof that the call does what its form says. No condition. -/
import Derived.Test.YtdgffjkcpbolmaaGreatDoorFxP
namespace Go.Proofs.YtdgffjkcpbolmaaGreatDoor.X
open Go Go.RowKit Go.Proofs.Tryz Go.Proofs.YtdgffjkcpbolmaaGreatDoor.Fx
set_option linter.unusedVariables false
set_option linter.constructorNameAsVariable false
set_option maxRecDepth 100000
/-! ### 133 "crier/crierref2.numbered" -/
noncomputable abbrev b133_0 : Code := (f133.body).getD .skip
abbrev D133 : Plans := []
abbrev Q133_0 (R : Value → World → Prop) : Post := retQ P f133.results.toList R
def S133_0 (x0 : Value) (w : World) (R : Value → World → Prop) : Prop :=
 XV P (Instr.box 29 x0) w fun v1 w1 =>
 LB P 29 3 0 v1 w1 fun v4 w3 =>
 XV P (binS .eql 3 true v4 (.int .i64 3)) w3 fun v6 w4 =>
 condW v6 (
  XV P (Instr.fieldAt 29 v1 14) w4 fun v7 w5 =>
  LB P 24 3 2 v7 w5 fun v9 w7 =>
  XV P (binS .neq 3 true v9 (.int .i64 0)) w7 fun v10 w8 =>
  R v10 w8) (
  XV P (binS .eql 3 true v4 (.int .i64 4)) w4 fun v12 w9 =>
  condW v12 (
   condW v12 (
    R (.bool true) w9) (
    R (.bool false) w9)) (
   XV P (binS .eql 3 true v4 (.int .i64 5)) w9 fun v13 w10 =>
   condW v13 (
    condW v13 (
     R (.bool true) w10) (
     R (.bool false) w10)) (
    XV P (binS .eql 3 true v4 (.int .i64 6)) w10 fun v14 w11 =>
    condW v14 (
     condW v14 (
      R (.bool true) w11) (
      R (.bool false) w11)) (
     XV P (binS .eql 3 true v4 (.int .i64 7)) w11 fun v15 w12 =>
     condW v15 (
      condW v15 (
       R (.bool true) w12) (
       R (.bool false) w12)) (
      XV P (binS .eql 3 true v4 (.int .i64 8)) w12 fun v16 w13 =>
      condW v16 (
       condW v16 (
        R (.bool true) w13) (
        R (.bool false) w13)) (
       XV P (binS .eql 3 true v4 (.int .i64 9)) w13 fun v17 w14 =>
       condW v17 (
        condW v17 (
         R (.bool true) w14) (
         R (.bool false) w14)) (
        XV P (binS .eql 3 true v4 (.int .i64 10)) w14 fun v18 w15 =>
        condW v18 (
         condW v18 (
          R (.bool true) w15) (
          R (.bool false) w15)) (
         XV P (binS .eql 3 true v4 (.int .i64 11)) w15 fun v19 w16 =>
         condW v19 (
          R (.bool true) w16) (
          R (.bool false) w16)))))))))
theorem e133_0 (x0 : Value) (w : World) (R : Value → World → Prop) : S133_0 x0 w R = Wp P 20 D133 [] b133_0 [] (Q133_0 R) [(0, some x0)] w := by kernel_rfl
theorem q133_0 (x0 : Value) (w : World) (R : Value → World → Prop) (h : S133_0 x0 w R) : Runs P 20 (subC [] b133_0) (postC P 20 [] b133_0 (Q133_0 R)) [(0, some x0)] w :=
  Wp_use mixed (e133_0 x0 w R) h (fun _ _ _ h => h) trivial
theorem c133 (x0 : Value) (w : World) (R : Value → World → Prop) (h : S133_0 x0 w R) : CallF P 133 #[x0] w R :=
  call_of_runs (args := [x0]) (c := b133_0) (by kernel_rfl) func133 rfl (by kernel_rfl) (q133_0 x0 w R h)

/-! ### 199 "crier/crierref2.zeroMessage" -/
noncomputable abbrev b199_0 : Code := (f199.body).getD .skip
abbrev D199 : Plans := []
abbrev Q199_0 (R : Value → World → Prop) : Post := retQ P f199.results.toList R
def S199_0 (x0 : Value) (w : World) (R : Value → World → Prop) : Prop :=
 XV P (Instr.box 24 x0) w fun v1 w1 =>
 LB P 24 9 0 v1 w1 fun v4 w3 =>
 XV P (binS .eql 9 true v4 (.string { data := #[] })) w3 fun v5 w4 =>
 gd v5 true (
  LB P 24 22 1 v1 w4 fun v8 w6 =>
  XV P (Builtin.len_ #[22] 3 #[v8]) w6 fun v9 w7 =>
  XV P (binS .eql 3 true v9 (.int .i64 0)) w7 fun v10 w8 =>
  gd v10 true (
   LB P 24 3 2 v1 w8 fun v14 w10 =>
   XV P (binS .eql 3 true v14 (.int .i64 0)) w10 fun v15 w11 =>
   gd v15 true (
    LB P 24 4 3 v1 w11 fun v19 w13 =>
    XV P (Op.unary .not v19) w13 fun v20 w14 =>
    R v20 w14) (
    R (.bool false) w11)) (
   R (.bool false) w8)) (
  R (.bool false) w4)
theorem e199_0 (x0 : Value) (w : World) (R : Value → World → Prop) : S199_0 x0 w R = Wp P 22 D199 [] b199_0 [] (Q199_0 R) [(0, some x0)] w := by kernel_rfl
theorem q199_0 (x0 : Value) (w : World) (R : Value → World → Prop) (h : S199_0 x0 w R) : Runs P 22 (subC [] b199_0) (postC P 22 [] b199_0 (Q199_0 R)) [(0, some x0)] w :=
  Wp_use mixed (e199_0 x0 w R) h (fun _ _ _ h => h) trivial
theorem c199 (x0 : Value) (w : World) (R : Value → World → Prop) (h : S199_0 x0 w R) : CallF P 199 #[x0] w R :=
  call_of_runs (args := [x0]) (c := b199_0) (by kernel_rfl) func199 rfl (by kernel_rfl) (q199_0 x0 w R h)

/-! ### 127 "crier/crierref2.foreign" -/
noncomputable abbrev b127_0 : Code := (f127.body).getD .skip
abbrev D127 : Plans := []
abbrev Q127_0 (R : Value → World → Prop) : Post := retQ P f127.results.toList R
def S127_1 (x1 : Value) (w : World) (R : Value → World → Prop) : Prop :=
 XV P (Instr.loadAt 29 x1) w fun v104 w1 =>
 CallF P 133 #[v104] w1 fun v105 w2 =>
 XV P (Op.unary .not v105) w2 fun v106 w3 =>
 gd v106 true (
  LB P 29 3 15 x1 w3 fun v109 w5 =>
  XV P (binS .neq 3 true v109 (.int .i64 0)) w5 fun v110 w6 =>
  gd v110 false (
   LB P 29 3 0 x1 w6 fun v114 w8 =>
   XV P (binS .neq 3 true v114 (.int .i64 8)) w8 fun v115 w9 =>
   gd v115 true (
    LB P 29 25 16 x1 w9 fun v118 w11 =>
    XV P (Builtin.len_ #[25] 3 #[v118]) w11 fun v119 w12 =>
    XV P (binS .gtr 3 true v119 (.int .i64 0)) w12 fun v120 w13 =>
    gd v120 false (
     LB P 29 3 0 x1 w13 fun v125 w15 =>
     XV P (binS .neq 3 true v125 (.int .i64 9)) w15 fun v126 w16 =>
     gd v126 true (
      LB P 29 26 17 x1 w16 fun v129 w18 =>
      XV P (Builtin.len_ #[26] 3 #[v129]) w18 fun v130 w19 =>
      XV P (binS .gtr 3 true v130 (.int .i64 0)) w19 fun v131 w20 =>
      gd v131 false (
       LB P 29 3 0 x1 w20 fun v136 w22 =>
       XV P (binS .neq 3 true v136 (.int .i64 10)) w22 fun v137 w23 =>
       gd v137 true (
        LB P 29 27 18 x1 w23 fun v140 w25 =>
        XV P (Builtin.len_ #[27] 3 #[v140]) w25 fun v141 w26 =>
        XV P (binS .gtr 3 true v141 (.int .i64 0)) w26 fun v142 w27 =>
        R v142 w27) (
        R (.bool false) w23)) (
       R (.bool true) w20)) (
      LB P 29 3 0 x1 w16 fun v136_1 w29 =>
      XV P (binS .neq 3 true v136_1 (.int .i64 10)) w29 fun v137_1 w30 =>
      gd v137_1 true (
       LB P 29 27 18 x1 w30 fun v140_1 w32 =>
       XV P (Builtin.len_ #[27] 3 #[v140_1]) w32 fun v141_1 w33 =>
       XV P (binS .gtr 3 true v141_1 (.int .i64 0)) w33 fun v142_1 w34 =>
       R v142_1 w34) (
       R (.bool false) w30))) (
     R (.bool true) w13)) (
    LB P 29 3 0 x1 w9 fun v125_1 w36 =>
    XV P (binS .neq 3 true v125_1 (.int .i64 9)) w36 fun v126_1 w37 =>
    gd v126_1 true (
     LB P 29 26 17 x1 w37 fun v129_1 w39 =>
     XV P (Builtin.len_ #[26] 3 #[v129_1]) w39 fun v130_1 w40 =>
     XV P (binS .gtr 3 true v130_1 (.int .i64 0)) w40 fun v131_1 w41 =>
     gd v131_1 false (
      LB P 29 3 0 x1 w41 fun v136_2 w43 =>
      XV P (binS .neq 3 true v136_2 (.int .i64 10)) w43 fun v137_2 w44 =>
      gd v137_2 true (
       LB P 29 27 18 x1 w44 fun v140_2 w46 =>
       XV P (Builtin.len_ #[27] 3 #[v140_2]) w46 fun v141_2 w47 =>
       XV P (binS .gtr 3 true v141_2 (.int .i64 0)) w47 fun v142_2 w48 =>
       R v142_2 w48) (
       R (.bool false) w44)) (
      R (.bool true) w41)) (
     LB P 29 3 0 x1 w37 fun v136_3 w50 =>
     XV P (binS .neq 3 true v136_3 (.int .i64 10)) w50 fun v137_3 w51 =>
     gd v137_3 true (
      LB P 29 27 18 x1 w51 fun v140_3 w53 =>
      XV P (Builtin.len_ #[27] 3 #[v140_3]) w53 fun v141_3 w54 =>
      XV P (binS .gtr 3 true v141_3 (.int .i64 0)) w54 fun v142_3 w55 =>
      R v142_3 w55) (
      R (.bool false) w51)))) (
   R (.bool true) w6)) (
  LB P 29 3 0 x1 w3 fun v114_1 w57 =>
  XV P (binS .neq 3 true v114_1 (.int .i64 8)) w57 fun v115_1 w58 =>
  gd v115_1 true (
   LB P 29 25 16 x1 w58 fun v118_1 w60 =>
   XV P (Builtin.len_ #[25] 3 #[v118_1]) w60 fun v119_1 w61 =>
   XV P (binS .gtr 3 true v119_1 (.int .i64 0)) w61 fun v120_1 w62 =>
   gd v120_1 false (
    LB P 29 3 0 x1 w62 fun v125_2 w64 =>
    XV P (binS .neq 3 true v125_2 (.int .i64 9)) w64 fun v126_2 w65 =>
    gd v126_2 true (
     LB P 29 26 17 x1 w65 fun v129_2 w67 =>
     XV P (Builtin.len_ #[26] 3 #[v129_2]) w67 fun v130_2 w68 =>
     XV P (binS .gtr 3 true v130_2 (.int .i64 0)) w68 fun v131_2 w69 =>
     gd v131_2 false (
      LB P 29 3 0 x1 w69 fun v136_4 w71 =>
      XV P (binS .neq 3 true v136_4 (.int .i64 10)) w71 fun v137_4 w72 =>
      gd v137_4 true (
       LB P 29 27 18 x1 w72 fun v140_4 w74 =>
       XV P (Builtin.len_ #[27] 3 #[v140_4]) w74 fun v141_4 w75 =>
       XV P (binS .gtr 3 true v141_4 (.int .i64 0)) w75 fun v142_4 w76 =>
       R v142_4 w76) (
       R (.bool false) w72)) (
      R (.bool true) w69)) (
     LB P 29 3 0 x1 w65 fun v136_5 w78 =>
     XV P (binS .neq 3 true v136_5 (.int .i64 10)) w78 fun v137_5 w79 =>
     gd v137_5 true (
      LB P 29 27 18 x1 w79 fun v140_5 w81 =>
      XV P (Builtin.len_ #[27] 3 #[v140_5]) w81 fun v141_5 w82 =>
      XV P (binS .gtr 3 true v141_5 (.int .i64 0)) w82 fun v142_5 w83 =>
      R v142_5 w83) (
      R (.bool false) w79))) (
    R (.bool true) w62)) (
   LB P 29 3 0 x1 w58 fun v125_3 w85 =>
   XV P (binS .neq 3 true v125_3 (.int .i64 9)) w85 fun v126_3 w86 =>
   gd v126_3 true (
    LB P 29 26 17 x1 w86 fun v129_3 w88 =>
    XV P (Builtin.len_ #[26] 3 #[v129_3]) w88 fun v130_3 w89 =>
    XV P (binS .gtr 3 true v130_3 (.int .i64 0)) w89 fun v131_3 w90 =>
    gd v131_3 false (
     LB P 29 3 0 x1 w90 fun v136_6 w92 =>
     XV P (binS .neq 3 true v136_6 (.int .i64 10)) w92 fun v137_6 w93 =>
     gd v137_6 true (
      LB P 29 27 18 x1 w93 fun v140_6 w95 =>
      XV P (Builtin.len_ #[27] 3 #[v140_6]) w95 fun v141_6 w96 =>
      XV P (binS .gtr 3 true v141_6 (.int .i64 0)) w96 fun v142_6 w97 =>
      R v142_6 w97) (
      R (.bool false) w93)) (
     R (.bool true) w90)) (
    LB P 29 3 0 x1 w86 fun v136_7 w99 =>
    XV P (binS .neq 3 true v136_7 (.int .i64 10)) w99 fun v137_7 w100 =>
    gd v137_7 true (
     LB P 29 27 18 x1 w100 fun v140_7 w102 =>
     XV P (Builtin.len_ #[27] 3 #[v140_7]) w102 fun v141_7 w103 =>
     XV P (binS .gtr 3 true v141_7 (.int .i64 0)) w103 fun v142_7 w104 =>
     R v142_7 w104) (
     R (.bool false) w100))))
def B127_2 (Z1 : Value → World → Prop) (x1 : Value) (w : World) (R : Value → World → Prop) : Prop :=
 LB P 29 3 0 x1 w fun v92 w2 =>
 XV P (binS .neq 3 true v92 (.int .i64 3)) w2 fun v93 w3 =>
 gd v93 true (
  LB P 29 4 13 x1 w3 fun v96 w5 =>
  gd v96 false (
   LB P 29 24 14 x1 w5 fun v99 w7 =>
   CallF P 199 #[v99] w7 fun v100 w8 =>
   XV P (Op.unary .not v100) w8 fun v101 w9 =>
   condW v101 (
    R (.bool true) w9) (
    Z1 x1 w9)) (
   R (.bool true) w5)) (
  Z1 x1 w3)
def S127_2 (x1 : Value) (w : World) (R : Value → World → Prop) : Prop := B127_2 (fun x1 w => S127_1 x1 w R) x1 w R
def B127_3 (Z2 : Value → World → Prop) (x1 : Value) (w : World) (R : Value → World → Prop) : Prop :=
 LB P 29 3 0 x1 w fun v80 w2 =>
 XV P (binS .neq 3 true v80 (.int .i64 2)) w2 fun v81 w3 =>
 gd v81 true (
  LB P 29 4 11 x1 w3 fun v84 w5 =>
  gd v84 false (
   LB P 29 3 12 x1 w5 fun v87 w7 =>
   XV P (binS .neq 3 true v87 (.int .i64 0)) w7 fun v88 w8 =>
   condW v88 (
    R (.bool true) w8) (
    Z2 x1 w8)) (
   R (.bool true) w5)) (
  Z2 x1 w3)
def S127_3 (x1 : Value) (w : World) (R : Value → World → Prop) : Prop := B127_3 (fun x1 w => S127_2 x1 w R) x1 w R
def B127_4 (Z3 : Value → World → Prop) (x1 x3 : Value) (w : World) (R : Value → World → Prop) : Prop :=
 gd x3 true (
  LB P 29 4 5 x1 w fun v43 w2 =>
  XV P (Op.unary .not v43) w2 fun v45 w3 =>
  gd v45 true (
   LB P 29 24 6 x1 w3 fun v48 w5 =>
   CallF P 199 #[v48] w5 fun v49 w6 =>
   XV P (Op.unary .not v49) w6 fun v50 w7 =>
   gd v50 false (
    gd x3 true (
     LB P 29 4 7 x1 w7 fun v56 w9 =>
     XV P (Op.unary .not v56) w9 fun v58 w10 =>
     gd v58 true (
      LB P 29 9 8 x1 w10 fun v61 w12 =>
      XV P (binS .neq 9 true v61 (.string { data := #[] })) w12 fun v62 w13 =>
      gd v62 false (
       gd x3 true (
        LB P 29 4 9 x1 w13 fun v69 w15 =>
        XV P (Op.unary .not v69) w15 fun v71 w16 =>
        gd v71 true (
         LB P 29 22 10 x1 w16 fun v74 w18 =>
         XV P (Builtin.len_ #[22] 3 #[v74]) w18 fun v75 w19 =>
         XV P (binS .gtr 3 true v75 (.int .i64 0)) w19 fun v76 w20 =>
         condW v76 (
          R (.bool true) w20) (
          Z3 x1 w20)) (
         Z3 x1 w16)) (
        XV P (Op.unary .not (.bool false)) w13 fun v71_1 w21 =>
        gd v71_1 true (
         LB P 29 22 10 x1 w21 fun v74_1 w23 =>
         XV P (Builtin.len_ #[22] 3 #[v74_1]) w23 fun v75_1 w24 =>
         XV P (binS .gtr 3 true v75_1 (.int .i64 0)) w24 fun v76_1 w25 =>
         condW v76_1 (
          R (.bool true) w25) (
          Z3 x1 w25)) (
         Z3 x1 w21))) (
       R (.bool true) w13)) (
      gd x3 true (
       LB P 29 4 9 x1 w10 fun v69_1 w27 =>
       XV P (Op.unary .not v69_1) w27 fun v71_2 w28 =>
       gd v71_2 true (
        LB P 29 22 10 x1 w28 fun v74_2 w30 =>
        XV P (Builtin.len_ #[22] 3 #[v74_2]) w30 fun v75_2 w31 =>
        XV P (binS .gtr 3 true v75_2 (.int .i64 0)) w31 fun v76_2 w32 =>
        condW v76_2 (
         R (.bool true) w32) (
         Z3 x1 w32)) (
        Z3 x1 w28)) (
       XV P (Op.unary .not (.bool false)) w10 fun v71_3 w33 =>
       gd v71_3 true (
        LB P 29 22 10 x1 w33 fun v74_3 w35 =>
        XV P (Builtin.len_ #[22] 3 #[v74_3]) w35 fun v75_3 w36 =>
        XV P (binS .gtr 3 true v75_3 (.int .i64 0)) w36 fun v76_3 w37 =>
        condW v76_3 (
         R (.bool true) w37) (
         Z3 x1 w37)) (
        Z3 x1 w33)))) (
     XV P (Op.unary .not (.bool false)) w7 fun v58_1 w38 =>
     gd v58_1 true (
      LB P 29 9 8 x1 w38 fun v61_1 w40 =>
      XV P (binS .neq 9 true v61_1 (.string { data := #[] })) w40 fun v62_1 w41 =>
      gd v62_1 false (
       gd x3 true (
        LB P 29 4 9 x1 w41 fun v69_2 w43 =>
        XV P (Op.unary .not v69_2) w43 fun v71_4 w44 =>
        gd v71_4 true (
         LB P 29 22 10 x1 w44 fun v74_4 w46 =>
         XV P (Builtin.len_ #[22] 3 #[v74_4]) w46 fun v75_4 w47 =>
         XV P (binS .gtr 3 true v75_4 (.int .i64 0)) w47 fun v76_4 w48 =>
         condW v76_4 (
          R (.bool true) w48) (
          Z3 x1 w48)) (
         Z3 x1 w44)) (
        XV P (Op.unary .not (.bool false)) w41 fun v71_5 w49 =>
        gd v71_5 true (
         LB P 29 22 10 x1 w49 fun v74_5 w51 =>
         XV P (Builtin.len_ #[22] 3 #[v74_5]) w51 fun v75_5 w52 =>
         XV P (binS .gtr 3 true v75_5 (.int .i64 0)) w52 fun v76_5 w53 =>
         condW v76_5 (
          R (.bool true) w53) (
          Z3 x1 w53)) (
         Z3 x1 w49))) (
       R (.bool true) w41)) (
      gd x3 true (
       LB P 29 4 9 x1 w38 fun v69_3 w55 =>
       XV P (Op.unary .not v69_3) w55 fun v71_6 w56 =>
       gd v71_6 true (
        LB P 29 22 10 x1 w56 fun v74_6 w58 =>
        XV P (Builtin.len_ #[22] 3 #[v74_6]) w58 fun v75_6 w59 =>
        XV P (binS .gtr 3 true v75_6 (.int .i64 0)) w59 fun v76_6 w60 =>
        condW v76_6 (
         R (.bool true) w60) (
         Z3 x1 w60)) (
        Z3 x1 w56)) (
       XV P (Op.unary .not (.bool false)) w38 fun v71_7 w61 =>
       gd v71_7 true (
        LB P 29 22 10 x1 w61 fun v74_7 w63 =>
        XV P (Builtin.len_ #[22] 3 #[v74_7]) w63 fun v75_7 w64 =>
        XV P (binS .gtr 3 true v75_7 (.int .i64 0)) w64 fun v76_7 w65 =>
        condW v76_7 (
         R (.bool true) w65) (
         Z3 x1 w65)) (
        Z3 x1 w61))))) (
    R (.bool true) w7)) (
   gd x3 true (
    LB P 29 4 7 x1 w3 fun v56_1 w67 =>
    XV P (Op.unary .not v56_1) w67 fun v58_2 w68 =>
    gd v58_2 true (
     LB P 29 9 8 x1 w68 fun v61_2 w70 =>
     XV P (binS .neq 9 true v61_2 (.string { data := #[] })) w70 fun v62_2 w71 =>
     gd v62_2 false (
      gd x3 true (
       LB P 29 4 9 x1 w71 fun v69_4 w73 =>
       XV P (Op.unary .not v69_4) w73 fun v71_8 w74 =>
       gd v71_8 true (
        LB P 29 22 10 x1 w74 fun v74_8 w76 =>
        XV P (Builtin.len_ #[22] 3 #[v74_8]) w76 fun v75_8 w77 =>
        XV P (binS .gtr 3 true v75_8 (.int .i64 0)) w77 fun v76_8 w78 =>
        condW v76_8 (
         R (.bool true) w78) (
         Z3 x1 w78)) (
        Z3 x1 w74)) (
       XV P (Op.unary .not (.bool false)) w71 fun v71_9 w79 =>
       gd v71_9 true (
        LB P 29 22 10 x1 w79 fun v74_9 w81 =>
        XV P (Builtin.len_ #[22] 3 #[v74_9]) w81 fun v75_9 w82 =>
        XV P (binS .gtr 3 true v75_9 (.int .i64 0)) w82 fun v76_9 w83 =>
        condW v76_9 (
         R (.bool true) w83) (
         Z3 x1 w83)) (
        Z3 x1 w79))) (
      R (.bool true) w71)) (
     gd x3 true (
      LB P 29 4 9 x1 w68 fun v69_5 w85 =>
      XV P (Op.unary .not v69_5) w85 fun v71_10 w86 =>
      gd v71_10 true (
       LB P 29 22 10 x1 w86 fun v74_10 w88 =>
       XV P (Builtin.len_ #[22] 3 #[v74_10]) w88 fun v75_10 w89 =>
       XV P (binS .gtr 3 true v75_10 (.int .i64 0)) w89 fun v76_10 w90 =>
       condW v76_10 (
        R (.bool true) w90) (
        Z3 x1 w90)) (
       Z3 x1 w86)) (
      XV P (Op.unary .not (.bool false)) w68 fun v71_11 w91 =>
      gd v71_11 true (
       LB P 29 22 10 x1 w91 fun v74_11 w93 =>
       XV P (Builtin.len_ #[22] 3 #[v74_11]) w93 fun v75_11 w94 =>
       XV P (binS .gtr 3 true v75_11 (.int .i64 0)) w94 fun v76_11 w95 =>
       condW v76_11 (
        R (.bool true) w95) (
        Z3 x1 w95)) (
       Z3 x1 w91)))) (
    XV P (Op.unary .not (.bool false)) w3 fun v58_3 w96 =>
    gd v58_3 true (
     LB P 29 9 8 x1 w96 fun v61_3 w98 =>
     XV P (binS .neq 9 true v61_3 (.string { data := #[] })) w98 fun v62_3 w99 =>
     gd v62_3 false (
      gd x3 true (
       LB P 29 4 9 x1 w99 fun v69_6 w101 =>
       XV P (Op.unary .not v69_6) w101 fun v71_12 w102 =>
       gd v71_12 true (
        LB P 29 22 10 x1 w102 fun v74_12 w104 =>
        XV P (Builtin.len_ #[22] 3 #[v74_12]) w104 fun v75_12 w105 =>
        XV P (binS .gtr 3 true v75_12 (.int .i64 0)) w105 fun v76_12 w106 =>
        condW v76_12 (
         R (.bool true) w106) (
         Z3 x1 w106)) (
        Z3 x1 w102)) (
       XV P (Op.unary .not (.bool false)) w99 fun v71_13 w107 =>
       gd v71_13 true (
        LB P 29 22 10 x1 w107 fun v74_13 w109 =>
        XV P (Builtin.len_ #[22] 3 #[v74_13]) w109 fun v75_13 w110 =>
        XV P (binS .gtr 3 true v75_13 (.int .i64 0)) w110 fun v76_13 w111 =>
        condW v76_13 (
         R (.bool true) w111) (
         Z3 x1 w111)) (
        Z3 x1 w107))) (
      R (.bool true) w99)) (
     gd x3 true (
      LB P 29 4 9 x1 w96 fun v69_7 w113 =>
      XV P (Op.unary .not v69_7) w113 fun v71_14 w114 =>
      gd v71_14 true (
       LB P 29 22 10 x1 w114 fun v74_14 w116 =>
       XV P (Builtin.len_ #[22] 3 #[v74_14]) w116 fun v75_14 w117 =>
       XV P (binS .gtr 3 true v75_14 (.int .i64 0)) w117 fun v76_14 w118 =>
       condW v76_14 (
        R (.bool true) w118) (
        Z3 x1 w118)) (
       Z3 x1 w114)) (
      XV P (Op.unary .not (.bool false)) w96 fun v71_15 w119 =>
      gd v71_15 true (
       LB P 29 22 10 x1 w119 fun v74_15 w121 =>
       XV P (Builtin.len_ #[22] 3 #[v74_15]) w121 fun v75_15 w122 =>
       XV P (binS .gtr 3 true v75_15 (.int .i64 0)) w122 fun v76_15 w123 =>
       condW v76_15 (
        R (.bool true) w123) (
        Z3 x1 w123)) (
       Z3 x1 w119)))))) (
  XV P (Op.unary .not (.bool false)) w fun v45_1 w124 =>
  gd v45_1 true (
   LB P 29 24 6 x1 w124 fun v48_1 w126 =>
   CallF P 199 #[v48_1] w126 fun v49_1 w127 =>
   XV P (Op.unary .not v49_1) w127 fun v50_1 w128 =>
   gd v50_1 false (
    gd x3 true (
     LB P 29 4 7 x1 w128 fun v56_2 w130 =>
     XV P (Op.unary .not v56_2) w130 fun v58_4 w131 =>
     gd v58_4 true (
      LB P 29 9 8 x1 w131 fun v61_4 w133 =>
      XV P (binS .neq 9 true v61_4 (.string { data := #[] })) w133 fun v62_4 w134 =>
      gd v62_4 false (
       gd x3 true (
        LB P 29 4 9 x1 w134 fun v69_8 w136 =>
        XV P (Op.unary .not v69_8) w136 fun v71_16 w137 =>
        gd v71_16 true (
         LB P 29 22 10 x1 w137 fun v74_16 w139 =>
         XV P (Builtin.len_ #[22] 3 #[v74_16]) w139 fun v75_16 w140 =>
         XV P (binS .gtr 3 true v75_16 (.int .i64 0)) w140 fun v76_16 w141 =>
         condW v76_16 (
          R (.bool true) w141) (
          Z3 x1 w141)) (
         Z3 x1 w137)) (
        XV P (Op.unary .not (.bool false)) w134 fun v71_17 w142 =>
        gd v71_17 true (
         LB P 29 22 10 x1 w142 fun v74_17 w144 =>
         XV P (Builtin.len_ #[22] 3 #[v74_17]) w144 fun v75_17 w145 =>
         XV P (binS .gtr 3 true v75_17 (.int .i64 0)) w145 fun v76_17 w146 =>
         condW v76_17 (
          R (.bool true) w146) (
          Z3 x1 w146)) (
         Z3 x1 w142))) (
       R (.bool true) w134)) (
      gd x3 true (
       LB P 29 4 9 x1 w131 fun v69_9 w148 =>
       XV P (Op.unary .not v69_9) w148 fun v71_18 w149 =>
       gd v71_18 true (
        LB P 29 22 10 x1 w149 fun v74_18 w151 =>
        XV P (Builtin.len_ #[22] 3 #[v74_18]) w151 fun v75_18 w152 =>
        XV P (binS .gtr 3 true v75_18 (.int .i64 0)) w152 fun v76_18 w153 =>
        condW v76_18 (
         R (.bool true) w153) (
         Z3 x1 w153)) (
        Z3 x1 w149)) (
       XV P (Op.unary .not (.bool false)) w131 fun v71_19 w154 =>
       gd v71_19 true (
        LB P 29 22 10 x1 w154 fun v74_19 w156 =>
        XV P (Builtin.len_ #[22] 3 #[v74_19]) w156 fun v75_19 w157 =>
        XV P (binS .gtr 3 true v75_19 (.int .i64 0)) w157 fun v76_19 w158 =>
        condW v76_19 (
         R (.bool true) w158) (
         Z3 x1 w158)) (
        Z3 x1 w154)))) (
     XV P (Op.unary .not (.bool false)) w128 fun v58_5 w159 =>
     gd v58_5 true (
      LB P 29 9 8 x1 w159 fun v61_5 w161 =>
      XV P (binS .neq 9 true v61_5 (.string { data := #[] })) w161 fun v62_5 w162 =>
      gd v62_5 false (
       gd x3 true (
        LB P 29 4 9 x1 w162 fun v69_10 w164 =>
        XV P (Op.unary .not v69_10) w164 fun v71_20 w165 =>
        gd v71_20 true (
         LB P 29 22 10 x1 w165 fun v74_20 w167 =>
         XV P (Builtin.len_ #[22] 3 #[v74_20]) w167 fun v75_20 w168 =>
         XV P (binS .gtr 3 true v75_20 (.int .i64 0)) w168 fun v76_20 w169 =>
         condW v76_20 (
          R (.bool true) w169) (
          Z3 x1 w169)) (
         Z3 x1 w165)) (
        XV P (Op.unary .not (.bool false)) w162 fun v71_21 w170 =>
        gd v71_21 true (
         LB P 29 22 10 x1 w170 fun v74_21 w172 =>
         XV P (Builtin.len_ #[22] 3 #[v74_21]) w172 fun v75_21 w173 =>
         XV P (binS .gtr 3 true v75_21 (.int .i64 0)) w173 fun v76_21 w174 =>
         condW v76_21 (
          R (.bool true) w174) (
          Z3 x1 w174)) (
         Z3 x1 w170))) (
       R (.bool true) w162)) (
      gd x3 true (
       LB P 29 4 9 x1 w159 fun v69_11 w176 =>
       XV P (Op.unary .not v69_11) w176 fun v71_22 w177 =>
       gd v71_22 true (
        LB P 29 22 10 x1 w177 fun v74_22 w179 =>
        XV P (Builtin.len_ #[22] 3 #[v74_22]) w179 fun v75_22 w180 =>
        XV P (binS .gtr 3 true v75_22 (.int .i64 0)) w180 fun v76_22 w181 =>
        condW v76_22 (
         R (.bool true) w181) (
         Z3 x1 w181)) (
        Z3 x1 w177)) (
       XV P (Op.unary .not (.bool false)) w159 fun v71_23 w182 =>
       gd v71_23 true (
        LB P 29 22 10 x1 w182 fun v74_23 w184 =>
        XV P (Builtin.len_ #[22] 3 #[v74_23]) w184 fun v75_23 w185 =>
        XV P (binS .gtr 3 true v75_23 (.int .i64 0)) w185 fun v76_23 w186 =>
        condW v76_23 (
         R (.bool true) w186) (
         Z3 x1 w186)) (
        Z3 x1 w182))))) (
    R (.bool true) w128)) (
   gd x3 true (
    LB P 29 4 7 x1 w124 fun v56_3 w188 =>
    XV P (Op.unary .not v56_3) w188 fun v58_6 w189 =>
    gd v58_6 true (
     LB P 29 9 8 x1 w189 fun v61_6 w191 =>
     XV P (binS .neq 9 true v61_6 (.string { data := #[] })) w191 fun v62_6 w192 =>
     gd v62_6 false (
      gd x3 true (
       LB P 29 4 9 x1 w192 fun v69_12 w194 =>
       XV P (Op.unary .not v69_12) w194 fun v71_24 w195 =>
       gd v71_24 true (
        LB P 29 22 10 x1 w195 fun v74_24 w197 =>
        XV P (Builtin.len_ #[22] 3 #[v74_24]) w197 fun v75_24 w198 =>
        XV P (binS .gtr 3 true v75_24 (.int .i64 0)) w198 fun v76_24 w199 =>
        condW v76_24 (
         R (.bool true) w199) (
         Z3 x1 w199)) (
        Z3 x1 w195)) (
       XV P (Op.unary .not (.bool false)) w192 fun v71_25 w200 =>
       gd v71_25 true (
        LB P 29 22 10 x1 w200 fun v74_25 w202 =>
        XV P (Builtin.len_ #[22] 3 #[v74_25]) w202 fun v75_25 w203 =>
        XV P (binS .gtr 3 true v75_25 (.int .i64 0)) w203 fun v76_25 w204 =>
        condW v76_25 (
         R (.bool true) w204) (
         Z3 x1 w204)) (
        Z3 x1 w200))) (
      R (.bool true) w192)) (
     gd x3 true (
      LB P 29 4 9 x1 w189 fun v69_13 w206 =>
      XV P (Op.unary .not v69_13) w206 fun v71_26 w207 =>
      gd v71_26 true (
       LB P 29 22 10 x1 w207 fun v74_26 w209 =>
       XV P (Builtin.len_ #[22] 3 #[v74_26]) w209 fun v75_26 w210 =>
       XV P (binS .gtr 3 true v75_26 (.int .i64 0)) w210 fun v76_26 w211 =>
       condW v76_26 (
        R (.bool true) w211) (
        Z3 x1 w211)) (
       Z3 x1 w207)) (
      XV P (Op.unary .not (.bool false)) w189 fun v71_27 w212 =>
      gd v71_27 true (
       LB P 29 22 10 x1 w212 fun v74_27 w214 =>
       XV P (Builtin.len_ #[22] 3 #[v74_27]) w214 fun v75_27 w215 =>
       XV P (binS .gtr 3 true v75_27 (.int .i64 0)) w215 fun v76_27 w216 =>
       condW v76_27 (
        R (.bool true) w216) (
        Z3 x1 w216)) (
       Z3 x1 w212)))) (
    XV P (Op.unary .not (.bool false)) w124 fun v58_7 w217 =>
    gd v58_7 true (
     LB P 29 9 8 x1 w217 fun v61_7 w219 =>
     XV P (binS .neq 9 true v61_7 (.string { data := #[] })) w219 fun v62_7 w220 =>
     gd v62_7 false (
      gd x3 true (
       LB P 29 4 9 x1 w220 fun v69_14 w222 =>
       XV P (Op.unary .not v69_14) w222 fun v71_28 w223 =>
       gd v71_28 true (
        LB P 29 22 10 x1 w223 fun v74_28 w225 =>
        XV P (Builtin.len_ #[22] 3 #[v74_28]) w225 fun v75_28 w226 =>
        XV P (binS .gtr 3 true v75_28 (.int .i64 0)) w226 fun v76_28 w227 =>
        condW v76_28 (
         R (.bool true) w227) (
         Z3 x1 w227)) (
        Z3 x1 w223)) (
       XV P (Op.unary .not (.bool false)) w220 fun v71_29 w228 =>
       gd v71_29 true (
        LB P 29 22 10 x1 w228 fun v74_29 w230 =>
        XV P (Builtin.len_ #[22] 3 #[v74_29]) w230 fun v75_29 w231 =>
        XV P (binS .gtr 3 true v75_29 (.int .i64 0)) w231 fun v76_29 w232 =>
        condW v76_29 (
         R (.bool true) w232) (
         Z3 x1 w232)) (
        Z3 x1 w228))) (
      R (.bool true) w220)) (
     gd x3 true (
      LB P 29 4 9 x1 w217 fun v69_15 w234 =>
      XV P (Op.unary .not v69_15) w234 fun v71_30 w235 =>
      gd v71_30 true (
       LB P 29 22 10 x1 w235 fun v74_30 w237 =>
       XV P (Builtin.len_ #[22] 3 #[v74_30]) w237 fun v75_30 w238 =>
       XV P (binS .gtr 3 true v75_30 (.int .i64 0)) w238 fun v76_30 w239 =>
       condW v76_30 (
        R (.bool true) w239) (
        Z3 x1 w239)) (
       Z3 x1 w235)) (
      XV P (Op.unary .not (.bool false)) w217 fun v71_31 w240 =>
      gd v71_31 true (
       LB P 29 22 10 x1 w240 fun v74_31 w242 =>
       XV P (Builtin.len_ #[22] 3 #[v74_31]) w242 fun v75_31 w243 =>
       XV P (binS .gtr 3 true v75_31 (.int .i64 0)) w243 fun v76_31 w244 =>
       condW v76_31 (
        R (.bool true) w244) (
        Z3 x1 w244)) (
       Z3 x1 w240))))))
def S127_4 (x1 x3 : Value) (w : World) (R : Value → World → Prop) : Prop := B127_4 (fun x1 w => S127_3 x1 w R) x1 x3 w R
def B127_0 (Z4 : Value → Value → World → Prop) (x0 : Value) (w : World) (R : Value → World → Prop) : Prop :=
 XV P (Instr.box 29 x0) w fun v1 w1 =>
 LB P 29 3 0 v1 w1 fun v5 w3 =>
 XV P (binS .eql 3 true v5 (.int .i64 1)) w3 fun v6 w4 =>
 XV P (Op.unary .not v6) w4 fun v8 w5 =>
 gd v8 true (
  LB P 29 3 1 v1 w5 fun v11 w7 =>
  XV P (binS .neq 3 true v11 (.int .i64 0)) w7 fun v12 w8 =>
  gd v12 false (
   LB P 29 4 2 v1 w8 fun v15 w10 =>
   gd v15 false (
    LB P 29 3 3 v1 w10 fun v19 w12 =>
    XV P (binS .neq 3 true v19 (.int .i64 0)) w12 fun v20 w13 =>
    gd v20 false (
     LB P 29 9 4 v1 w13 fun v24 w15 =>
     XV P (binS .neq 9 true v24 (.string { data := #[] })) w15 fun v25 w16 =>
     gd v25 false (
      LB P 29 4 5 v1 w16 fun v29 w18 =>
      gd v29 false (
       LB P 29 4 7 v1 w18 fun v33 w20 =>
       gd v33 false (
        LB P 29 4 9 v1 w20 fun v37 w22 =>
        condW v37 (
         R (.bool true) w22) (
         Z4 v1 v6 w22)) (
        R (.bool true) w20)) (
       R (.bool true) w18)) (
      R (.bool true) w16)) (
     R (.bool true) w13)) (
    R (.bool true) w10)) (
   R (.bool true) w8)) (
  Z4 v1 v6 w5)
def S127_0 (x0 : Value) (w : World) (R : Value → World → Prop) : Prop := B127_0 (fun x1 x3 w => S127_4 x1 x3 w R) x0 w R
theorem e127_1 (x1 : Value) (w : World) (R : Value → World → Prop) : S127_1 x1 w R = Wp P 145 D127 [true, true, true, true, true, true] b127_0 [] (Q127_0 R) [(1, some x1)] w := by kernel_rfl
theorem q127_1 (x1 : Value) (w : World) (R : Value → World → Prop) (h : S127_1 x1 w R) : Runs P 145 (subC [true, true, true, true, true, true] b127_0) (postC P 145 [true, true, true, true, true, true] b127_0 (Q127_0 R)) [(1, some x1)] w :=
  Wp_use mixed (e127_1 x1 w R) h (fun _ _ _ h => h) trivial
theorem e127_2 (Z1 : Value → World → Prop) (x1 : Value) (w : World) (R : Value → World → Prop) : B127_2 Z1 x1 w R = Wp P 145 D127 [true, true, true, true, true] b127_0 [([true, true, true, true, true, true], fun e w => E1 e (.tmp 1) fun x1 => Z1 x1 w)] (Q127_0 R) [(1, some x1)] w := by kernel_rfl
theorem q127_2 (x1 : Value) (w : World) (R : Value → World → Prop) (h : S127_2 x1 w R) : Runs P 145 (subC [true, true, true, true, true] b127_0) (postC P 145 [true, true, true, true, true] b127_0 (Q127_0 R)) [(1, some x1)] w :=
  Wp_use mixed (e127_2 (fun x1 w => S127_1 x1 w R) x1 w R) h (fun _ _ _ h => h) ⟨(fun e w h => let ⟨y1, h1, h⟩ := E1.elim h; (q127_1 y1 w R h).more (sub_cons h1 (sub_nil))), trivial⟩
theorem e127_3 (Z2 : Value → World → Prop) (x1 : Value) (w : World) (R : Value → World → Prop) : B127_3 Z2 x1 w R = Wp P 145 D127 [true, true, true, true] b127_0 [([true, true, true, true, true], fun e w => E1 e (.tmp 1) fun x1 => Z2 x1 w)] (Q127_0 R) [(1, some x1)] w := by kernel_rfl
theorem q127_3 (x1 : Value) (w : World) (R : Value → World → Prop) (h : S127_3 x1 w R) : Runs P 145 (subC [true, true, true, true] b127_0) (postC P 145 [true, true, true, true] b127_0 (Q127_0 R)) [(1, some x1)] w :=
  Wp_use mixed (e127_3 (fun x1 w => S127_2 x1 w R) x1 w R) h (fun _ _ _ h => h) ⟨(fun e w h => let ⟨y1, h1, h⟩ := E1.elim h; (q127_2 y1 w R h).more (sub_cons h1 (sub_nil))), trivial⟩
theorem e127_4 (Z3 : Value → World → Prop) (x1 x3 : Value) (w : World) (R : Value → World → Prop) : B127_4 Z3 x1 x3 w R = Wp P 145 D127 [true, true, true] b127_0 [([true, true, true, true], fun e w => E1 e (.tmp 1) fun x1 => Z3 x1 w)] (Q127_0 R) [(1, some x1), (3, some x3)] w := by kernel_rfl
theorem q127_4 (x1 x3 : Value) (w : World) (R : Value → World → Prop) (h : S127_4 x1 x3 w R) : Runs P 145 (subC [true, true, true] b127_0) (postC P 145 [true, true, true] b127_0 (Q127_0 R)) [(1, some x1), (3, some x3)] w :=
  Wp_use mixed (e127_4 (fun x1 w => S127_3 x1 w R) x1 x3 w R) h (fun _ _ _ h => h) ⟨(fun e w h => let ⟨y1, h1, h⟩ := E1.elim h; (q127_3 y1 w R h).more (sub_cons h1 (sub_nil))), trivial⟩
theorem e127_0 (Z4 : Value → Value → World → Prop) (x0 : Value) (w : World) (R : Value → World → Prop) : B127_0 Z4 x0 w R = Wp P 145 D127 [] b127_0 [([true, true, true], fun e w => E1 e (.tmp 1) fun x1 => E1 e (.tmp 3) fun x3 => Z4 x1 x3 w)] (Q127_0 R) [(0, some x0)] w := by kernel_rfl
theorem q127_0 (x0 : Value) (w : World) (R : Value → World → Prop) (h : S127_0 x0 w R) : Runs P 145 (subC [] b127_0) (postC P 145 [] b127_0 (Q127_0 R)) [(0, some x0)] w :=
  Wp_use mixed (e127_0 (fun x1 x3 w => S127_4 x1 x3 w R) x0 w R) h (fun _ _ _ h => h) ⟨(fun e w h => let ⟨y1, h1, h⟩ := E1.elim h; let ⟨y3, h3, h⟩ := E1.elim h; (q127_4 y1 y3 w R h).more (sub_cons h1 (sub_cons h3 (sub_nil)))), trivial⟩
theorem c127 (x0 : Value) (w : World) (R : Value → World → Prop) (h : S127_0 x0 w R) : CallF P 127 #[x0] w R :=
  call_of_runs (args := [x0]) (c := b127_0) (by kernel_rfl) func127 rfl (by kernel_rfl) (q127_0 x0 w R h)

/-! ### 128 "crier/crierref2.within" -/
noncomputable abbrev b128_0 : Code := (f128.body).getD .skip
abbrev D128 : Plans := []
abbrev Q128_0 (R : Value → World → Prop) : Post := retQ P f128.results.toList R
def S128_0 (x0 x1 : Value) (w : World) (R : Value → World → Prop) : Prop :=
 XV P (binS .geq 3 true x0 (.int .i64 0)) w fun v6 w1 =>
 gd v6 true (
  XV P (binS .leq 3 false x0 x1) w1 fun v10 w2 =>
  R v10 w2) (
  R (.bool false) w1)
theorem e128_0 (x0 x1 : Value) (w : World) (R : Value → World → Prop) : S128_0 x0 x1 w R = Wp P 12 D128 [] b128_0 [] (Q128_0 R) [(0, some x0), (1, some x1)] w := by kernel_rfl
theorem q128_0 (x0 x1 : Value) (w : World) (R : Value → World → Prop) (h : S128_0 x0 x1 w R) : Runs P 12 (subC [] b128_0) (postC P 12 [] b128_0 (Q128_0 R)) [(0, some x0), (1, some x1)] w :=
  Wp_use mixed (e128_0 x0 x1 w R) h (fun _ _ _ h => h) trivial
theorem c128 (x0 x1 : Value) (w : World) (R : Value → World → Prop) (h : S128_0 x0 x1 w R) : CallF P 128 #[x0, x1] w R :=
  call_of_runs (args := [x0, x1]) (c := b128_0) (by kernel_rfl) func128 rfl (by kernel_rfl) (q128_0 x0 x1 w R h)

/-! ### 130 "crier/crierref2.topics" -/
noncomputable abbrev b130_0 : Code := (f130.body).getD .skip
abbrev D130 : Plans := []
abbrev Q130_0 (R : Value → World → Prop) : Post := retQ P f130.results.toList R
def S130_0 (x0 : Value) (w : World) (R : Value → World → Prop) : Prop :=
 XV P (Instr.box 29 x0) w fun v1 w1 =>
 LB P 29 3 0 v1 w1 fun v4 w3 =>
 XV P (binS .eql 3 true v4 (.int .i64 1)) w3 fun v5 w4 =>
 gd v5 true (
  LB P 29 4 5 v1 w4 fun v8 w6 =>
  gd v8 true (
   XV P (Instr.fieldAt 29 v1 6) w6 fun v11 w7 =>
   LB P 24 9 0 v11 w7 fun v13 w9 =>
   CallF P 136 #[v13] w9 fun v14 w10 =>
   XV P (binS .neq 3 true v14 (.int .i64 0)) w10 fun v15 w11 =>
   XV P (Op.unary .not v15) w11 fun v17 w12 =>
   gd v17 true (
    LB P 29 3 0 v1 w12 fun v20 w14 =>
    XV P (binS .eql 3 true v20 (.int .i64 3)) w14 fun v21 w15 =>
    gd v21 true (
     XV P (Instr.fieldAt 29 v1 14) w15 fun v23 w16 =>
     LB P 24 9 0 v23 w16 fun v25 w18 =>
     CallF P 136 #[v25] w18 fun v26 w19 =>
     XV P (binS .neq 3 true v26 (.int .i64 0)) w19 fun v27 w20 =>
     XV P (Op.unary .not v27) w20 fun v29 w21 =>
     R v29 w21) (
     XV P (Op.unary .not (.bool false)) w15 fun v29_1 w22 =>
     R v29_1 w22)) (
    R (.bool false) w12)) (
   XV P (Op.unary .not (.bool false)) w6 fun v17_1 w23 =>
   gd v17_1 true (
    LB P 29 3 0 v1 w23 fun v20_1 w25 =>
    XV P (binS .eql 3 true v20_1 (.int .i64 3)) w25 fun v21_1 w26 =>
    gd v21_1 true (
     XV P (Instr.fieldAt 29 v1 14) w26 fun v23_1 w27 =>
     LB P 24 9 0 v23_1 w27 fun v25_1 w29 =>
     CallF P 136 #[v25_1] w29 fun v26_1 w30 =>
     XV P (binS .neq 3 true v26_1 (.int .i64 0)) w30 fun v27_1 w31 =>
     XV P (Op.unary .not v27_1) w31 fun v29_2 w32 =>
     R v29_2 w32) (
     XV P (Op.unary .not (.bool false)) w26 fun v29_3 w33 =>
     R v29_3 w33)) (
    R (.bool false) w23))) (
  XV P (Op.unary .not (.bool false)) w4 fun v17_2 w34 =>
  gd v17_2 true (
   LB P 29 3 0 v1 w34 fun v20_2 w36 =>
   XV P (binS .eql 3 true v20_2 (.int .i64 3)) w36 fun v21_2 w37 =>
   gd v21_2 true (
    XV P (Instr.fieldAt 29 v1 14) w37 fun v23_2 w38 =>
    LB P 24 9 0 v23_2 w38 fun v25_2 w40 =>
    CallF P 136 #[v25_2] w40 fun v26_2 w41 =>
    XV P (binS .neq 3 true v26_2 (.int .i64 0)) w41 fun v27_2 w42 =>
    XV P (Op.unary .not v27_2) w42 fun v29_4 w43 =>
    R v29_4 w43) (
    XV P (Op.unary .not (.bool false)) w37 fun v29_5 w44 =>
    R v29_5 w44)) (
   R (.bool false) w34))
theorem e130_0 (x0 : Value) (w : World) (R : Value → World → Prop) : S130_0 x0 w R = Wp P 31 D130 [] b130_0 [] (Q130_0 R) [(0, some x0)] w := by kernel_rfl
theorem q130_0 (x0 : Value) (w : World) (R : Value → World → Prop) (h : S130_0 x0 w R) : Runs P 31 (subC [] b130_0) (postC P 31 [] b130_0 (Q130_0 R)) [(0, some x0)] w :=
  Wp_use mixed (e130_0 x0 w R) h (fun _ _ _ h => h) trivial
theorem c130 (x0 : Value) (w : World) (R : Value → World → Prop) (h : S130_0 x0 w R) : CallF P 130 #[x0] w R :=
  call_of_runs (args := [x0]) (c := b130_0) (by kernel_rfl) func130 rfl (by kernel_rfl) (q130_0 x0 w R h)

/-! ### 131 "crier/crierref2.filters" -/
noncomputable abbrev b131_0 : Code := (f131.body).getD .skip
abbrev D131 : Plans := []
abbrev Q131_0 (R : Value → World → Prop) : Post := retQ P f131.results.toList R
def S131_4 (x1 x4 : Value) (w : World) (K2 : Value → Value → World → Prop) (R : Value → World → Prop) : Prop :=
 LB P 29 27 18 x1 w fun v22 w2 =>
 XV P (Builtin.len_ #[27] 3 #[v22]) w2 fun v23 w3 =>
 XV P (binS .lss 3 false x4 v23) w3 fun v24 w4 =>
 condW v24 (
  LB P 29 27 18 x1 w4 fun v28 w6 =>
  LI P 27 9 v28 x4 w6 fun v31 w8 =>
  CallF P 201 #[v31] w8 fun v32 w9 =>
  XV P (binS .neq 3 true v32 (.int .i64 0)) w9 fun v33 w10 =>
  condW v33 (
   R (.bool false) w10) (
   XV P (binS .add 3 true x4 (.int .i64 1)) w10 fun v26 w11 =>
   K2 x1 v26 w11)) (
  R (.bool true) w4)
def S131_3 (x1 x4 : Value) (w : World) (R : Value → World → Prop) : Prop :=
 LoopP (fun (s : Value × Value) w K => S131_4 s.1 s.2 w (fun x1 x4 w => K (x1, x4) w) R) (x1, x4) w
def B131_2 (Z3 : Value → Value → World → Prop) (x1 x3 : Value) (w : World) (K1 : Value → Value → World → Prop) (R : Value → World → Prop) : Prop :=
 LB P 29 25 16 x1 w fun v7 w2 =>
 XV P (Builtin.len_ #[25] 3 #[v7]) w2 fun v8 w3 =>
 XV P (binS .lss 3 false x3 v8) w3 fun v9 w4 =>
 condW v9 (
  LB P 29 25 16 x1 w4 fun v13 w6 =>
  XV P (Instr.indexAt 25 v13 x3) w6 fun v15 w7 =>
  LB P 73 9 0 v15 w7 fun v17 w9 =>
  CallF P 201 #[v17] w9 fun v18 w10 =>
  XV P (binS .neq 3 true v18 (.int .i64 0)) w10 fun v19 w11 =>
  condW v19 (
   R (.bool false) w11) (
   XV P (binS .add 3 true x3 (.int .i64 1)) w11 fun v11 w12 =>
   K1 x1 v11 w12)) (
  Z3 x1 (.int .i64 0) w4)
def S131_2 (x1 x3 : Value) (w : World) (K1 : Value → Value → World → Prop) (R : Value → World → Prop) : Prop := B131_2 (fun x1 x4 w => S131_3 x1 x4 w R) x1 x3 w K1 R
def S131_1 (x1 x3 : Value) (w : World) (R : Value → World → Prop) : Prop :=
 LoopP (fun (s : Value × Value) w K => S131_2 s.1 s.2 w (fun x1 x3 w => K (x1, x3) w) R) (x1, x3) w
def B131_0 (Z1 : Value → Value → World → Prop) (x0 : Value) (w : World) (R : Value → World → Prop) : Prop :=
 XV P (Instr.box 29 x0) w fun v1 w1 =>
 Z1 v1 (.int .i64 0) w1
def S131_0 (x0 : Value) (w : World) (R : Value → World → Prop) : Prop := B131_0 (fun x1 x3 w => S131_1 x1 x3 w R) x0 w R
noncomputable abbrev b131_1 : Code := match subC [true, false, true, false] b131_0 with | .loop x => x | _ => .skip
abbrev V131_1 (K : Value → Value → World → Prop) (e : Env) (w : World) : Prop := E1 e (.tmp 1) fun x1 => E1 e (.tmp 3) fun x3 => K x1 x3 w
abbrev Q131_1 (K1 : Value → Value → World → Prop) (R : Value → World → Prop) : Post := thenQ (V131_1 K1) (postC P 34 [true, false, true, false] b131_0 (Q131_0 R))
noncomputable abbrev b131_2 : Code := match subC [true, true, false, true, false] b131_0 with | .loop x => x | _ => .skip
abbrev V131_2 (K : Value → Value → World → Prop) (e : Env) (w : World) : Prop := E1 e (.tmp 1) fun x1 => E1 e (.tmp 4) fun x4 => K x1 x4 w
abbrev Q131_2 (K2 : Value → Value → World → Prop) (R : Value → World → Prop) : Post := thenQ (V131_2 K2) (postC P 34 [true, true, false, true, false] b131_0 (Q131_0 R))
theorem e131_4 (x1 x4 : Value) (w : World) (K2 : Value → Value → World → Prop) (R : Value → World → Prop) : S131_4 x1 x4 w K2 R = Wp P 34 D131 [] b131_2 [] (thenQ (V131_2 K2) (postW P 34 D131 [true, true, false, true, false] b131_0 [] (Q131_0 R))) [(1, some x1), (4, some x4)] w := by kernel_rfl
theorem q131_4 (x1 x4 : Value) (w : World) (K2 : Value → Value → World → Prop) (R : Value → World → Prop) (h : S131_4 x1 x4 w K2 R) : Runs P 34 (subC [] b131_2) (postC P 34 [] b131_2 (Q131_2 K2 R)) [(1, some x1), (4, some x4)] w :=
  Wp_use mixed (e131_4 x1 x4 w K2 R) h (thenQ_le (postW_le mixed _ _ _ _ _ (fun _ _ _ h => h) trivial)) trivial
theorem q131_3 (x1 x4 : Value) (w : World) (R : Value → World → Prop) (h : S131_3 x1 x4 w R) : Runs P 34 (subC [true, true, false, true, false] b131_0) (postC P 34 [true, true, false, true, false] b131_0 (Q131_0 R)) [(1, some x1), (4, some x4)] w :=
  Runs.loop (σ := Value × Value) (fun s => [(1, some s.1), (4, some s.2)]) (fun e k => E1 e (.tmp 1) fun x1 => E1 e (.tmp 4) fun x4 => k (x1, x4)) (fun e k h => let ⟨y1, h1, h⟩ := E1.elim h; let ⟨y4, h4, h⟩ := E1.elim h; ⟨(y1, y4), h, (sub_cons h1 (sub_cons h4 (sub_nil)))⟩) (fun s w K h => q131_4 s.1 s.2 w (fun x1 x4 w => K (x1, x4) w) R h) h
theorem e131_2 (Z3 : Value → Value → World → Prop) (x1 x3 : Value) (w : World) (K1 : Value → Value → World → Prop) (R : Value → World → Prop) : B131_2 Z3 x1 x3 w K1 R = Wp P 34 D131 [] b131_1 [] (thenQ (V131_1 K1) (postW P 34 D131 [true, false, true, false] b131_0 [([true, true, false, true, false], fun e w => E1 e (.tmp 1) fun x1 => E1 e (.tmp 4) fun x4 => Z3 x1 x4 w)] (Q131_0 R))) [(1, some x1), (3, some x3)] w := by kernel_rfl
theorem q131_2 (x1 x3 : Value) (w : World) (K1 : Value → Value → World → Prop) (R : Value → World → Prop) (h : S131_2 x1 x3 w K1 R) : Runs P 34 (subC [] b131_1) (postC P 34 [] b131_1 (Q131_1 K1 R)) [(1, some x1), (3, some x3)] w :=
  Wp_use mixed (e131_2 (fun x1 x4 w => S131_3 x1 x4 w R) x1 x3 w K1 R) h (thenQ_le (postW_le mixed _ _ _ _ _ (fun _ _ _ h => h) ⟨(fun e w h => let ⟨y1, h1, h⟩ := E1.elim h; let ⟨y4, h4, h⟩ := E1.elim h; (q131_3 y1 y4 w R h).more (sub_cons h1 (sub_cons h4 (sub_nil)))), trivial⟩)) trivial
theorem q131_1 (x1 x3 : Value) (w : World) (R : Value → World → Prop) (h : S131_1 x1 x3 w R) : Runs P 34 (subC [true, false, true, false] b131_0) (postC P 34 [true, false, true, false] b131_0 (Q131_0 R)) [(1, some x1), (3, some x3)] w :=
  Runs.loop (σ := Value × Value) (fun s => [(1, some s.1), (3, some s.2)]) (fun e k => E1 e (.tmp 1) fun x1 => E1 e (.tmp 3) fun x3 => k (x1, x3)) (fun e k h => let ⟨y1, h1, h⟩ := E1.elim h; let ⟨y3, h3, h⟩ := E1.elim h; ⟨(y1, y3), h, (sub_cons h1 (sub_cons h3 (sub_nil)))⟩) (fun s w K h => q131_2 s.1 s.2 w (fun x1 x3 w => K (x1, x3) w) R h) h
theorem e131_0 (Z1 : Value → Value → World → Prop) (x0 : Value) (w : World) (R : Value → World → Prop) : B131_0 Z1 x0 w R = Wp P 34 D131 [] b131_0 [([true, false, true, false], fun e w => E1 e (.tmp 1) fun x1 => E1 e (.tmp 3) fun x3 => Z1 x1 x3 w)] (Q131_0 R) [(0, some x0)] w := by kernel_rfl
theorem q131_0 (x0 : Value) (w : World) (R : Value → World → Prop) (h : S131_0 x0 w R) : Runs P 34 (subC [] b131_0) (postC P 34 [] b131_0 (Q131_0 R)) [(0, some x0)] w :=
  Wp_use mixed (e131_0 (fun x1 x3 w => S131_1 x1 x3 w R) x0 w R) h (fun _ _ _ h => h) ⟨(fun e w h => let ⟨y1, h1, h⟩ := E1.elim h; let ⟨y3, h3, h⟩ := E1.elim h; (q131_1 y1 y3 w R h).more (sub_cons h1 (sub_cons h3 (sub_nil)))), trivial⟩
theorem c131 (x0 : Value) (w : World) (R : Value → World → Prop) (h : S131_0 x0 w R) : CallF P 131 #[x0] w R :=
  call_of_runs (args := [x0]) (c := b131_0) (by kernel_rfl) func131 rfl (by kernel_rfl) (q131_0 x0 w R h)

/-! ### 132 "crier/crierref2.qualities" -/
noncomputable abbrev b132_0 : Code := (f132.body).getD .skip
abbrev D132 : Plans := []
abbrev Q132_0 (R : Value → World → Prop) : Post := retQ P f132.results.toList R
def S132_5 (x1 x4 : Value) (w : World) (K2 : Value → Value → World → Prop) (R : Value → World → Prop) : Prop :=
 LB P 29 26 17 x1 w fun v48 w2 =>
 XV P (Builtin.len_ #[26] 3 #[v48]) w2 fun v49 w3 =>
 XV P (binS .lss 3 false x4 v49) w3 fun v50 w4 =>
 condW v50 (
  LB P 29 26 17 x1 w4 fun v54 w6 =>
  LI P 26 3 v54 x4 w6 fun v57 w8 =>
  CallF P 128 #[v57, (.int .i64 2)] w8 fun v58 w9 =>
  XV P (Op.unary .not v58) w9 fun v59 w10 =>
  gd v59 true (
   LB P 29 26 17 x1 w10 fun v62 w12 =>
   LI P 26 3 v62 x4 w12 fun v65 w14 =>
   XV P (binS .neq 3 true v65 (.int .i64 128)) w14 fun v66 w15 =>
   condW v66 (
    R (.bool false) w15) (
    XV P (binS .add 3 true x4 (.int .i64 1)) w15 fun v52 w16 =>
    K2 x1 v52 w16)) (
   XV P (binS .add 3 true x4 (.int .i64 1)) w10 fun v52_1 w17 =>
   K2 x1 v52_1 w17)) (
  R (.bool true) w4)
def S132_4 (x1 x4 : Value) (w : World) (R : Value → World → Prop) : Prop :=
 LoopP (fun (s : Value × Value) w K => S132_5 s.1 s.2 w (fun x1 x4 w => K (x1, x4) w) R) (x1, x4) w
def B132_3 (Z4 : Value → Value → World → Prop) (x1 x3 : Value) (w : World) (K1 : Value → Value → World → Prop) (R : Value → World → Prop) : Prop :=
 LB P 29 25 16 x1 w fun v33 w2 =>
 XV P (Builtin.len_ #[25] 3 #[v33]) w2 fun v34 w3 =>
 XV P (binS .lss 3 false x3 v34) w3 fun v35 w4 =>
 condW v35 (
  LB P 29 25 16 x1 w4 fun v39 w6 =>
  XV P (Instr.indexAt 25 v39 x3) w6 fun v41 w7 =>
  LB P 73 3 1 v41 w7 fun v43 w9 =>
  CallF P 128 #[v43, (.int .i64 2)] w9 fun v44 w10 =>
  XV P (Op.unary .not v44) w10 fun v45 w11 =>
  condW v45 (
   R (.bool false) w11) (
   XV P (binS .add 3 true x3 (.int .i64 1)) w11 fun v37 w12 =>
   K1 x1 v37 w12)) (
  Z4 x1 (.int .i64 0) w4)
def S132_3 (x1 x3 : Value) (w : World) (K1 : Value → Value → World → Prop) (R : Value → World → Prop) : Prop := B132_3 (fun x1 x4 w => S132_4 x1 x4 w R) x1 x3 w K1 R
def S132_1 (x1 x3 : Value) (w : World) (R : Value → World → Prop) : Prop :=
 LoopP (fun (s : Value × Value) w K => S132_3 s.1 s.2 w (fun x1 x3 w => K (x1, x3) w) R) (x1, x3) w
def B132_2 (Z1 : Value → Value → World → Prop) (x1 : Value) (w : World) (R : Value → World → Prop) : Prop :=
 Z1 x1 (.int .i64 0) w
def S132_2 (x1 : Value) (w : World) (R : Value → World → Prop) : Prop := B132_2 (fun x1 x3 w => S132_1 x1 x3 w R) x1 w R
def B132_0 (Z2 : Value → World → Prop) (x0 : Value) (w : World) (R : Value → World → Prop) : Prop :=
 XV P (Instr.box 29 x0) w fun v1 w1 =>
 LB P 29 3 0 v1 w1 fun v6 w3 =>
 XV P (binS .eql 3 true v6 (.int .i64 1)) w3 fun v7 w4 =>
 gd v7 true (
  LB P 29 4 5 v1 w4 fun v10 w6 =>
  gd v10 true (
   XV P (Instr.fieldAt 29 v1 6) w6 fun v13 w7 =>
   LB P 24 3 2 v13 w7 fun v15 w9 =>
   CallF P 128 #[v15, (.int .i64 2)] w9 fun v16 w10 =>
   XV P (Op.unary .not v16) w10 fun v17 w11 =>
   gd v17 false (
    LB P 29 3 0 v1 w11 fun v21 w13 =>
    XV P (binS .eql 3 true v21 (.int .i64 3)) w13 fun v22 w14 =>
    gd v22 true (
     XV P (Instr.fieldAt 29 v1 14) w14 fun v24 w15 =>
     LB P 24 3 2 v24 w15 fun v26 w17 =>
     CallF P 128 #[v26, (.int .i64 2)] w17 fun v27 w18 =>
     XV P (Op.unary .not v27) w18 fun v28 w19 =>
     condW v28 (
      R (.bool false) w19) (
      Z2 v1 w19)) (
     Z2 v1 w14)) (
    R (.bool false) w11)) (
   LB P 29 3 0 v1 w6 fun v21_1 w21 =>
   XV P (binS .eql 3 true v21_1 (.int .i64 3)) w21 fun v22_1 w22 =>
   gd v22_1 true (
    XV P (Instr.fieldAt 29 v1 14) w22 fun v24_1 w23 =>
    LB P 24 3 2 v24_1 w23 fun v26_1 w25 =>
    CallF P 128 #[v26_1, (.int .i64 2)] w25 fun v27_1 w26 =>
    XV P (Op.unary .not v27_1) w26 fun v28_1 w27 =>
    condW v28_1 (
     R (.bool false) w27) (
     Z2 v1 w27)) (
    Z2 v1 w22))) (
  LB P 29 3 0 v1 w4 fun v21_2 w29 =>
  XV P (binS .eql 3 true v21_2 (.int .i64 3)) w29 fun v22_2 w30 =>
  gd v22_2 true (
   XV P (Instr.fieldAt 29 v1 14) w30 fun v24_2 w31 =>
   LB P 24 3 2 v24_2 w31 fun v26_2 w33 =>
   CallF P 128 #[v26_2, (.int .i64 2)] w33 fun v27_2 w34 =>
   XV P (Op.unary .not v27_2) w34 fun v28_2 w35 =>
   condW v28_2 (
    R (.bool false) w35) (
    Z2 v1 w35)) (
   Z2 v1 w30))
def S132_0 (x0 : Value) (w : World) (R : Value → World → Prop) : Prop := B132_0 (fun x1 w => S132_2 x1 w R) x0 w R
noncomputable abbrev b132_1 : Code := match subC [true, true, false, true, false] b132_0 with | .loop x => x | _ => .skip
abbrev V132_1 (K : Value → Value → World → Prop) (e : Env) (w : World) : Prop := E1 e (.tmp 1) fun x1 => E1 e (.tmp 3) fun x3 => K x1 x3 w
abbrev Q132_1 (K1 : Value → Value → World → Prop) (R : Value → World → Prop) : Post := thenQ (V132_1 K1) (postC P 68 [true, true, false, true, false] b132_0 (Q132_0 R))
noncomputable abbrev b132_2 : Code := match subC [true, true, true, false, true, false] b132_0 with | .loop x => x | _ => .skip
abbrev V132_2 (K : Value → Value → World → Prop) (e : Env) (w : World) : Prop := E1 e (.tmp 1) fun x1 => E1 e (.tmp 4) fun x4 => K x1 x4 w
abbrev Q132_2 (K2 : Value → Value → World → Prop) (R : Value → World → Prop) : Post := thenQ (V132_2 K2) (postC P 68 [true, true, true, false, true, false] b132_0 (Q132_0 R))
theorem e132_5 (x1 x4 : Value) (w : World) (K2 : Value → Value → World → Prop) (R : Value → World → Prop) : S132_5 x1 x4 w K2 R = Wp P 68 D132 [] b132_2 [] (thenQ (V132_2 K2) (postW P 68 D132 [true, true, true, false, true, false] b132_0 [] (Q132_0 R))) [(1, some x1), (4, some x4)] w := by kernel_rfl
theorem q132_5 (x1 x4 : Value) (w : World) (K2 : Value → Value → World → Prop) (R : Value → World → Prop) (h : S132_5 x1 x4 w K2 R) : Runs P 68 (subC [] b132_2) (postC P 68 [] b132_2 (Q132_2 K2 R)) [(1, some x1), (4, some x4)] w :=
  Wp_use mixed (e132_5 x1 x4 w K2 R) h (thenQ_le (postW_le mixed _ _ _ _ _ (fun _ _ _ h => h) trivial)) trivial
theorem q132_4 (x1 x4 : Value) (w : World) (R : Value → World → Prop) (h : S132_4 x1 x4 w R) : Runs P 68 (subC [true, true, true, false, true, false] b132_0) (postC P 68 [true, true, true, false, true, false] b132_0 (Q132_0 R)) [(1, some x1), (4, some x4)] w :=
  Runs.loop (σ := Value × Value) (fun s => [(1, some s.1), (4, some s.2)]) (fun e k => E1 e (.tmp 1) fun x1 => E1 e (.tmp 4) fun x4 => k (x1, x4)) (fun e k h => let ⟨y1, h1, h⟩ := E1.elim h; let ⟨y4, h4, h⟩ := E1.elim h; ⟨(y1, y4), h, (sub_cons h1 (sub_cons h4 (sub_nil)))⟩) (fun s w K h => q132_5 s.1 s.2 w (fun x1 x4 w => K (x1, x4) w) R h) h
theorem e132_3 (Z4 : Value → Value → World → Prop) (x1 x3 : Value) (w : World) (K1 : Value → Value → World → Prop) (R : Value → World → Prop) : B132_3 Z4 x1 x3 w K1 R = Wp P 68 D132 [] b132_1 [] (thenQ (V132_1 K1) (postW P 68 D132 [true, true, false, true, false] b132_0 [([true, true, true, false, true, false], fun e w => E1 e (.tmp 1) fun x1 => E1 e (.tmp 4) fun x4 => Z4 x1 x4 w)] (Q132_0 R))) [(1, some x1), (3, some x3)] w := by kernel_rfl
theorem q132_3 (x1 x3 : Value) (w : World) (K1 : Value → Value → World → Prop) (R : Value → World → Prop) (h : S132_3 x1 x3 w K1 R) : Runs P 68 (subC [] b132_1) (postC P 68 [] b132_1 (Q132_1 K1 R)) [(1, some x1), (3, some x3)] w :=
  Wp_use mixed (e132_3 (fun x1 x4 w => S132_4 x1 x4 w R) x1 x3 w K1 R) h (thenQ_le (postW_le mixed _ _ _ _ _ (fun _ _ _ h => h) ⟨(fun e w h => let ⟨y1, h1, h⟩ := E1.elim h; let ⟨y4, h4, h⟩ := E1.elim h; (q132_4 y1 y4 w R h).more (sub_cons h1 (sub_cons h4 (sub_nil)))), trivial⟩)) trivial
theorem q132_1 (x1 x3 : Value) (w : World) (R : Value → World → Prop) (h : S132_1 x1 x3 w R) : Runs P 68 (subC [true, true, false, true, false] b132_0) (postC P 68 [true, true, false, true, false] b132_0 (Q132_0 R)) [(1, some x1), (3, some x3)] w :=
  Runs.loop (σ := Value × Value) (fun s => [(1, some s.1), (3, some s.2)]) (fun e k => E1 e (.tmp 1) fun x1 => E1 e (.tmp 3) fun x3 => k (x1, x3)) (fun e k h => let ⟨y1, h1, h⟩ := E1.elim h; let ⟨y3, h3, h⟩ := E1.elim h; ⟨(y1, y3), h, (sub_cons h1 (sub_cons h3 (sub_nil)))⟩) (fun s w K h => q132_3 s.1 s.2 w (fun x1 x3 w => K (x1, x3) w) R h) h
theorem e132_2 (Z1 : Value → Value → World → Prop) (x1 : Value) (w : World) (R : Value → World → Prop) : B132_2 Z1 x1 w R = Wp P 68 D132 [true, true] b132_0 [([true, true, false, true, false], fun e w => E1 e (.tmp 1) fun x1 => E1 e (.tmp 3) fun x3 => Z1 x1 x3 w)] (Q132_0 R) [(1, some x1)] w := by kernel_rfl
theorem q132_2 (x1 : Value) (w : World) (R : Value → World → Prop) (h : S132_2 x1 w R) : Runs P 68 (subC [true, true] b132_0) (postC P 68 [true, true] b132_0 (Q132_0 R)) [(1, some x1)] w :=
  Wp_use mixed (e132_2 (fun x1 x3 w => S132_1 x1 x3 w R) x1 w R) h (fun _ _ _ h => h) ⟨(fun e w h => let ⟨y1, h1, h⟩ := E1.elim h; let ⟨y3, h3, h⟩ := E1.elim h; (q132_1 y1 y3 w R h).more (sub_cons h1 (sub_cons h3 (sub_nil)))), trivial⟩
theorem e132_0 (Z2 : Value → World → Prop) (x0 : Value) (w : World) (R : Value → World → Prop) : B132_0 Z2 x0 w R = Wp P 68 D132 [] b132_0 [([true, true], fun e w => E1 e (.tmp 1) fun x1 => Z2 x1 w)] (Q132_0 R) [(0, some x0)] w := by kernel_rfl
theorem q132_0 (x0 : Value) (w : World) (R : Value → World → Prop) (h : S132_0 x0 w R) : Runs P 68 (subC [] b132_0) (postC P 68 [] b132_0 (Q132_0 R)) [(0, some x0)] w :=
  Wp_use mixed (e132_0 (fun x1 w => S132_2 x1 w R) x0 w R) h (fun _ _ _ h => h) ⟨(fun e w h => let ⟨y1, h1, h⟩ := E1.elim h; (q132_2 y1 w R h).more (sub_cons h1 (sub_nil))), trivial⟩
theorem c132 (x0 : Value) (w : World) (R : Value → World → Prop) (h : S132_0 x0 w R) : CallF P 132 #[x0] w R :=
  call_of_runs (args := [x0]) (c := b132_0) (by kernel_rfl) func132 rfl (by kernel_rfl) (q132_0 x0 w R h)

/-! ### 134 "crier/crierref2.bytes" -/
noncomputable abbrev b134_0 : Code := (f134.body).getD .skip
abbrev D134 : Plans := []
abbrev Q134_0 (R : Value → World → Prop) : Post := retQ P f134.results.toList R
def S134_1 (x1 x3 : Value) (w : World) (R : Value → World → Prop) : Prop :=
 XV P (Instr.loadAt 29 x1) w fun v101 w1 =>
 CallF P 133 #[v101] w1 fun v102 w2 =>
 condW v102 (
  XV P (binS .add 3 true x3 (.int .i64 2)) w2 fun v104 w3 =>
  R v104 w3) (
  R x3 w2)
def B134_2 (Z1 : Value → Value → World → Prop) (x1 x3 : Value) (w : World) (R : Value → World → Prop) : Prop :=
 LB P 29 4 9 x1 w fun v38 w2 =>
 condW v38 (
  XV P (binS .add 3 true x3 (.int .i64 2)) w2 fun v40 w3 =>
  LB P 29 22 10 x1 w3 fun v42 w5 =>
  XV P (Builtin.len_ #[22] 3 #[v42]) w5 fun v43 w6 =>
  XV P (binS .add 3 false v40 v43) w6 fun v44 w7 =>
  Z1 x1 v44 w7) (
  Z1 x1 x3 w2)
def S134_2 (x1 x3 : Value) (w : World) (R : Value → World → Prop) : Prop := B134_2 (fun x1 x3 w => S134_1 x1 x3 w R) x1 x3 w R
def B134_3 (Z2 : Value → Value → World → Prop) (x1 x3 : Value) (w : World) (R : Value → World → Prop) : Prop :=
 LB P 29 4 7 x1 w fun v30 w2 =>
 condW v30 (
  XV P (binS .add 3 true x3 (.int .i64 2)) w2 fun v32 w3 =>
  LB P 29 9 8 x1 w3 fun v34 w5 =>
  XV P (Builtin.len_ #[9] 3 #[v34]) w5 fun v35 w6 =>
  XV P (binS .add 3 false v32 v35) w6 fun v36 w7 =>
  Z2 x1 v36 w7) (
  Z2 x1 x3 w2)
def S134_3 (x1 x3 : Value) (w : World) (R : Value → World → Prop) : Prop := B134_3 (fun x1 x3 w => S134_2 x1 x3 w R) x1 x3 w R
def B134_6 (Z1 : Value → Value → World → Prop) (x1 x3 x4 : Value) (w : World) (K1 : Value → Value → Value → World → Prop) (R : Value → World → Prop) : Prop :=
 LB P 29 25 16 x1 w fun v63 w2 =>
 XV P (Builtin.len_ #[25] 3 #[v63]) w2 fun v64 w3 =>
 XV P (binS .lss 3 false x4 v64) w3 fun v65 w4 =>
 condW v65 (
  XV P (binS .add 3 true x3 (.int .i64 3)) w4 fun v69 w5 =>
  LB P 29 25 16 x1 w5 fun v71 w7 =>
  XV P (Instr.indexAt 25 v71 x4) w7 fun v73 w8 =>
  LB P 73 9 0 v73 w8 fun v75 w10 =>
  XV P (Builtin.len_ #[9] 3 #[v75]) w10 fun v76 w11 =>
  XV P (binS .add 3 false v69 v76) w11 fun v77 w12 =>
  XV P (binS .add 3 true x4 (.int .i64 1)) w12 fun v67 w13 =>
  K1 x1 v77 v67 w13) (
  Z1 x1 x3 w4)
def S134_6 (x1 x3 x4 : Value) (w : World) (K1 : Value → Value → Value → World → Prop) (R : Value → World → Prop) : Prop := B134_6 (fun x1 x3 w => S134_1 x1 x3 w R) x1 x3 x4 w K1 R
def S134_4 (x1 x3 x4 : Value) (w : World) (R : Value → World → Prop) : Prop :=
 LoopP (fun (s : Value × Value × Value) w K => S134_6 s.1 s.2.1 s.2.2 w (fun x1 x3 x4 w => K (x1, x3, x4) w) R) (x1, x3, x4) w
def B134_7 (Z1 : Value → Value → World → Prop) (x1 x3 x5 : Value) (w : World) (K2 : Value → Value → Value → World → Prop) (R : Value → World → Prop) : Prop :=
 LB P 29 27 18 x1 w fun v87 w2 =>
 XV P (Builtin.len_ #[27] 3 #[v87]) w2 fun v88 w3 =>
 XV P (binS .lss 3 false x5 v88) w3 fun v89 w4 =>
 condW v89 (
  XV P (binS .add 3 true x3 (.int .i64 2)) w4 fun v93 w5 =>
  LB P 29 27 18 x1 w5 fun v95 w7 =>
  LI P 27 9 v95 x5 w7 fun v98 w9 =>
  XV P (Builtin.len_ #[9] 3 #[v98]) w9 fun v99 w10 =>
  XV P (binS .add 3 false v93 v99) w10 fun v100 w11 =>
  XV P (binS .add 3 true x5 (.int .i64 1)) w11 fun v91 w12 =>
  K2 x1 v100 v91 w12) (
  Z1 x1 x3 w4)
def S134_7 (x1 x3 x5 : Value) (w : World) (K2 : Value → Value → Value → World → Prop) (R : Value → World → Prop) : Prop := B134_7 (fun x1 x3 w => S134_1 x1 x3 w R) x1 x3 x5 w K2 R
def S134_5 (x1 x3 x5 : Value) (w : World) (R : Value → World → Prop) : Prop :=
 LoopP (fun (s : Value × Value × Value) w K => S134_7 s.1 s.2.1 s.2.2 w (fun x1 x3 x5 w => K (x1, x3, x5) w) R) (x1, x3, x5) w
def B134_0 (Z3 : Value → Value → World → Prop) (Z1 : Value → Value → World → Prop) (Z4 : Value → Value → Value → World → Prop) (Z5 : Value → Value → Value → World → Prop) (x0 : Value) (w : World) (R : Value → World → Prop) : Prop :=
 XV P (Instr.box 29 x0) w fun v1 w1 =>
 LB P 29 3 0 v1 w1 fun v7 w3 =>
 XV P (binS .eql 3 true v7 (.int .i64 1)) w3 fun v9 w4 =>
 condW v9 (
  LB P 29 9 4 v1 w4 fun v11 w6 =>
  XV P (Builtin.len_ #[9] 3 #[v11]) w6 fun v12 w7 =>
  XV P (binS .add 3 true (.int .i64 12) v12) w7 fun v13 w8 =>
  LB P 29 4 5 v1 w8 fun v15 w10 =>
  condW v15 (
   XV P (binS .add 3 true v13 (.int .i64 2)) w10 fun v17 w11 =>
   XV P (Instr.fieldAt 29 v1 6) w11 fun v18 w12 =>
   LB P 24 9 0 v18 w12 fun v20 w14 =>
   XV P (Builtin.len_ #[9] 3 #[v20]) w14 fun v21 w15 =>
   XV P (binS .add 3 false v17 v21) w15 fun v22 w16 =>
   XV P (binS .add 3 true v22 (.int .i64 2)) w16 fun v23 w17 =>
   XV P (Instr.fieldAt 29 v1 6) w17 fun v24 w18 =>
   LB P 24 22 1 v24 w18 fun v26 w20 =>
   XV P (Builtin.len_ #[22] 3 #[v26]) w20 fun v27 w21 =>
   XV P (binS .add 3 false v23 v27) w21 fun v28 w22 =>
   Z3 v1 v28 w22) (
   Z3 v1 v13 w10)) (
  XV P (binS .eql 3 true v7 (.int .i64 2)) w4 fun v46 w23 =>
  condW v46 (
   Z1 v1 (.int .i64 2) w23) (
   XV P (binS .eql 3 true v7 (.int .i64 3)) w23 fun v48 w24 =>
   condW v48 (
    XV P (Instr.fieldAt 29 v1 14) w24 fun v49 w25 =>
    LB P 24 9 0 v49 w25 fun v51 w27 =>
    XV P (Builtin.len_ #[9] 3 #[v51]) w27 fun v52 w28 =>
    XV P (binS .add 3 true (.int .i64 2) v52) w28 fun v53 w29 =>
    XV P (Instr.fieldAt 29 v1 14) w29 fun v54 w30 =>
    LB P 24 22 1 v54 w30 fun v56 w32 =>
    XV P (Builtin.len_ #[22] 3 #[v56]) w32 fun v57 w33 =>
    XV P (binS .add 3 false v53 v57) w33 fun v58 w34 =>
    Z1 v1 v58 w34) (
    XV P (binS .eql 3 true v7 (.int .i64 8)) w24 fun v60 w35 =>
    condW v60 (
     Z4 v1 (.int .i64 0) (.int .i64 0) w35) (
     XV P (binS .eql 3 true v7 (.int .i64 9)) w35 fun v79 w36 =>
     condW v79 (
      LB P 29 26 17 v1 w36 fun v81 w38 =>
      XV P (Builtin.len_ #[26] 3 #[v81]) w38 fun v82 w39 =>
      Z1 v1 v82 w39) (
      XV P (binS .eql 3 true v7 (.int .i64 10)) w36 fun v84 w40 =>
      condW v84 (
       Z5 v1 (.int .i64 0) (.int .i64 0) w40) (
       Z1 v1 (.int .i64 0) w40))))))
def S134_0 (x0 : Value) (w : World) (R : Value → World → Prop) : Prop := B134_0 (fun x1 x3 w => S134_3 x1 x3 w R) (fun x1 x3 w => S134_1 x1 x3 w R) (fun x1 x3 x4 w => S134_4 x1 x3 x4 w R) (fun x1 x3 x5 w => S134_5 x1 x3 x5 w R) x0 w R
noncomputable abbrev b134_1 : Code := match subC [true, true, false, true, false, true, true, true, true, true, true, true, false, true, false] b134_0 with | .loop x => x | _ => .skip
abbrev V134_1 (K : Value → Value → Value → World → Prop) (e : Env) (w : World) : Prop := E1 e (.tmp 1) fun x1 => E1 e (.tmp 3) fun x3 => E1 e (.tmp 4) fun x4 => K x1 x3 x4 w
abbrev Q134_1 (K1 : Value → Value → Value → World → Prop) (R : Value → World → Prop) : Post := thenQ (V134_1 K1) (postC P 106 [true, true, false, true, false, true, true, true, true, true, true, true, false, true, false] b134_0 (Q134_0 R))
noncomputable abbrev b134_2 : Code := match subC [true, true, false, true, false, true, true, true, true, true, true, true, true, true, true, true, false, true, false] b134_0 with | .loop x => x | _ => .skip
abbrev V134_2 (K : Value → Value → Value → World → Prop) (e : Env) (w : World) : Prop := E1 e (.tmp 1) fun x1 => E1 e (.tmp 3) fun x3 => E1 e (.tmp 5) fun x5 => K x1 x3 x5 w
abbrev Q134_2 (K2 : Value → Value → Value → World → Prop) (R : Value → World → Prop) : Post := thenQ (V134_2 K2) (postC P 106 [true, true, false, true, false, true, true, true, true, true, true, true, true, true, true, true, false, true, false] b134_0 (Q134_0 R))
theorem e134_1 (x1 x3 : Value) (w : World) (R : Value → World → Prop) : S134_1 x1 x3 w R = Wp P 106 D134 [true, true, true] b134_0 [] (Q134_0 R) [(1, some x1), (3, some x3)] w := by kernel_rfl
theorem q134_1 (x1 x3 : Value) (w : World) (R : Value → World → Prop) (h : S134_1 x1 x3 w R) : Runs P 106 (subC [true, true, true] b134_0) (postC P 106 [true, true, true] b134_0 (Q134_0 R)) [(1, some x1), (3, some x3)] w :=
  Wp_use mixed (e134_1 x1 x3 w R) h (fun _ _ _ h => h) trivial
theorem e134_2 (Z1 : Value → Value → World → Prop) (x1 x3 : Value) (w : World) (R : Value → World → Prop) : B134_2 Z1 x1 x3 w R = Wp P 106 D134 [true, true, false, true, false, true, false, true, true, true] b134_0 [([true, true, true], fun e w => E1 e (.tmp 1) fun x1 => E1 e (.tmp 3) fun x3 => Z1 x1 x3 w)] (Q134_0 R) [(1, some x1), (3, some x3)] w := by kernel_rfl
theorem q134_2 (x1 x3 : Value) (w : World) (R : Value → World → Prop) (h : S134_2 x1 x3 w R) : Runs P 106 (subC [true, true, false, true, false, true, false, true, true, true] b134_0) (postC P 106 [true, true, false, true, false, true, false, true, true, true] b134_0 (Q134_0 R)) [(1, some x1), (3, some x3)] w :=
  Wp_use mixed (e134_2 (fun x1 x3 w => S134_1 x1 x3 w R) x1 x3 w R) h (fun _ _ _ h => h) ⟨(fun e w h => let ⟨y1, h1, h⟩ := E1.elim h; let ⟨y3, h3, h⟩ := E1.elim h; (q134_1 y1 y3 w R h).more (sub_cons h1 (sub_cons h3 (sub_nil)))), trivial⟩
theorem e134_3 (Z2 : Value → Value → World → Prop) (x1 x3 : Value) (w : World) (R : Value → World → Prop) : B134_3 Z2 x1 x3 w R = Wp P 106 D134 [true, true, false, true, false, true, false, true, true] b134_0 [([true, true, false, true, false, true, false, true, true, true], fun e w => E1 e (.tmp 1) fun x1 => E1 e (.tmp 3) fun x3 => Z2 x1 x3 w)] (Q134_0 R) [(1, some x1), (3, some x3)] w := by kernel_rfl
theorem q134_3 (x1 x3 : Value) (w : World) (R : Value → World → Prop) (h : S134_3 x1 x3 w R) : Runs P 106 (subC [true, true, false, true, false, true, false, true, true] b134_0) (postC P 106 [true, true, false, true, false, true, false, true, true] b134_0 (Q134_0 R)) [(1, some x1), (3, some x3)] w :=
  Wp_use mixed (e134_3 (fun x1 x3 w => S134_2 x1 x3 w R) x1 x3 w R) h (fun _ _ _ h => h) ⟨(fun e w h => let ⟨y1, h1, h⟩ := E1.elim h; let ⟨y3, h3, h⟩ := E1.elim h; (q134_2 y1 y3 w R h).more (sub_cons h1 (sub_cons h3 (sub_nil)))), trivial⟩
theorem e134_6 (Z1 : Value → Value → World → Prop) (x1 x3 x4 : Value) (w : World) (K1 : Value → Value → Value → World → Prop) (R : Value → World → Prop) : B134_6 Z1 x1 x3 x4 w K1 R = Wp P 106 D134 [] b134_1 [] (thenQ (V134_1 K1) (postW P 106 D134 [true, true, false, true, false, true, true, true, true, true, true, true, false, true, false] b134_0 [([true, true, true], fun e w => E1 e (.tmp 1) fun x1 => E1 e (.tmp 3) fun x3 => Z1 x1 x3 w)] (Q134_0 R))) [(1, some x1), (3, some x3), (4, some x4)] w := by kernel_rfl
theorem q134_6 (x1 x3 x4 : Value) (w : World) (K1 : Value → Value → Value → World → Prop) (R : Value → World → Prop) (h : S134_6 x1 x3 x4 w K1 R) : Runs P 106 (subC [] b134_1) (postC P 106 [] b134_1 (Q134_1 K1 R)) [(1, some x1), (3, some x3), (4, some x4)] w :=
  Wp_use mixed (e134_6 (fun x1 x3 w => S134_1 x1 x3 w R) x1 x3 x4 w K1 R) h (thenQ_le (postW_le mixed _ _ _ _ _ (fun _ _ _ h => h) ⟨(fun e w h => let ⟨y1, h1, h⟩ := E1.elim h; let ⟨y3, h3, h⟩ := E1.elim h; (q134_1 y1 y3 w R h).more (sub_cons h1 (sub_cons h3 (sub_nil)))), trivial⟩)) trivial
theorem q134_4 (x1 x3 x4 : Value) (w : World) (R : Value → World → Prop) (h : S134_4 x1 x3 x4 w R) : Runs P 106 (subC [true, true, false, true, false, true, true, true, true, true, true, true, false, true, false] b134_0) (postC P 106 [true, true, false, true, false, true, true, true, true, true, true, true, false, true, false] b134_0 (Q134_0 R)) [(1, some x1), (3, some x3), (4, some x4)] w :=
  Runs.loop (σ := Value × Value × Value) (fun s => [(1, some s.1), (3, some s.2.1), (4, some s.2.2)]) (fun e k => E1 e (.tmp 1) fun x1 => E1 e (.tmp 3) fun x3 => E1 e (.tmp 4) fun x4 => k (x1, x3, x4)) (fun e k h => let ⟨y1, h1, h⟩ := E1.elim h; let ⟨y3, h3, h⟩ := E1.elim h; let ⟨y4, h4, h⟩ := E1.elim h; ⟨(y1, y3, y4), h, (sub_cons h1 (sub_cons h3 (sub_cons h4 (sub_nil))))⟩) (fun s w K h => q134_6 s.1 s.2.1 s.2.2 w (fun x1 x3 x4 w => K (x1, x3, x4) w) R h) h
theorem e134_7 (Z1 : Value → Value → World → Prop) (x1 x3 x5 : Value) (w : World) (K2 : Value → Value → Value → World → Prop) (R : Value → World → Prop) : B134_7 Z1 x1 x3 x5 w K2 R = Wp P 106 D134 [] b134_2 [] (thenQ (V134_2 K2) (postW P 106 D134 [true, true, false, true, false, true, true, true, true, true, true, true, true, true, true, true, false, true, false] b134_0 [([true, true, true], fun e w => E1 e (.tmp 1) fun x1 => E1 e (.tmp 3) fun x3 => Z1 x1 x3 w)] (Q134_0 R))) [(1, some x1), (3, some x3), (5, some x5)] w := by kernel_rfl
theorem q134_7 (x1 x3 x5 : Value) (w : World) (K2 : Value → Value → Value → World → Prop) (R : Value → World → Prop) (h : S134_7 x1 x3 x5 w K2 R) : Runs P 106 (subC [] b134_2) (postC P 106 [] b134_2 (Q134_2 K2 R)) [(1, some x1), (3, some x3), (5, some x5)] w :=
  Wp_use mixed (e134_7 (fun x1 x3 w => S134_1 x1 x3 w R) x1 x3 x5 w K2 R) h (thenQ_le (postW_le mixed _ _ _ _ _ (fun _ _ _ h => h) ⟨(fun e w h => let ⟨y1, h1, h⟩ := E1.elim h; let ⟨y3, h3, h⟩ := E1.elim h; (q134_1 y1 y3 w R h).more (sub_cons h1 (sub_cons h3 (sub_nil)))), trivial⟩)) trivial
theorem q134_5 (x1 x3 x5 : Value) (w : World) (R : Value → World → Prop) (h : S134_5 x1 x3 x5 w R) : Runs P 106 (subC [true, true, false, true, false, true, true, true, true, true, true, true, true, true, true, true, false, true, false] b134_0) (postC P 106 [true, true, false, true, false, true, true, true, true, true, true, true, true, true, true, true, false, true, false] b134_0 (Q134_0 R)) [(1, some x1), (3, some x3), (5, some x5)] w :=
  Runs.loop (σ := Value × Value × Value) (fun s => [(1, some s.1), (3, some s.2.1), (5, some s.2.2)]) (fun e k => E1 e (.tmp 1) fun x1 => E1 e (.tmp 3) fun x3 => E1 e (.tmp 5) fun x5 => k (x1, x3, x5)) (fun e k h => let ⟨y1, h1, h⟩ := E1.elim h; let ⟨y3, h3, h⟩ := E1.elim h; let ⟨y5, h5, h⟩ := E1.elim h; ⟨(y1, y3, y5), h, (sub_cons h1 (sub_cons h3 (sub_cons h5 (sub_nil))))⟩) (fun s w K h => q134_7 s.1 s.2.1 s.2.2 w (fun x1 x3 x5 w => K (x1, x3, x5) w) R h) h
theorem e134_0 (Z3 : Value → Value → World → Prop) (Z1 : Value → Value → World → Prop) (Z4 : Value → Value → Value → World → Prop) (Z5 : Value → Value → Value → World → Prop) (x0 : Value) (w : World) (R : Value → World → Prop) : B134_0 Z3 Z1 Z4 Z5 x0 w R = Wp P 106 D134 [] b134_0 [([true, true, false, true, false, true, false, true, true], fun e w => E1 e (.tmp 1) fun x1 => E1 e (.tmp 3) fun x3 => Z3 x1 x3 w), ([true, true, true], fun e w => E1 e (.tmp 1) fun x1 => E1 e (.tmp 3) fun x3 => Z1 x1 x3 w), ([true, true, false, true, false, true, true, true, true, true, true, true, false, true, false], fun e w => E1 e (.tmp 1) fun x1 => E1 e (.tmp 3) fun x3 => E1 e (.tmp 4) fun x4 => Z4 x1 x3 x4 w), ([true, true, false, true, false, true, true, true, true, true, true, true, true, true, true, true, false, true, false], fun e w => E1 e (.tmp 1) fun x1 => E1 e (.tmp 3) fun x3 => E1 e (.tmp 5) fun x5 => Z5 x1 x3 x5 w)] (Q134_0 R) [(0, some x0)] w := by kernel_rfl
theorem q134_0 (x0 : Value) (w : World) (R : Value → World → Prop) (h : S134_0 x0 w R) : Runs P 106 (subC [] b134_0) (postC P 106 [] b134_0 (Q134_0 R)) [(0, some x0)] w :=
  Wp_use mixed (e134_0 (fun x1 x3 w => S134_3 x1 x3 w R) (fun x1 x3 w => S134_1 x1 x3 w R) (fun x1 x3 x4 w => S134_4 x1 x3 x4 w R) (fun x1 x3 x5 w => S134_5 x1 x3 x5 w R) x0 w R) h (fun _ _ _ h => h) ⟨(fun e w h => let ⟨y1, h1, h⟩ := E1.elim h; let ⟨y3, h3, h⟩ := E1.elim h; (q134_3 y1 y3 w R h).more (sub_cons h1 (sub_cons h3 (sub_nil)))), (fun e w h => let ⟨y1, h1, h⟩ := E1.elim h; let ⟨y3, h3, h⟩ := E1.elim h; (q134_1 y1 y3 w R h).more (sub_cons h1 (sub_cons h3 (sub_nil)))), (fun e w h => let ⟨y1, h1, h⟩ := E1.elim h; let ⟨y3, h3, h⟩ := E1.elim h; let ⟨y4, h4, h⟩ := E1.elim h; (q134_4 y1 y3 y4 w R h).more (sub_cons h1 (sub_cons h3 (sub_cons h4 (sub_nil))))), (fun e w h => let ⟨y1, h1, h⟩ := E1.elim h; let ⟨y3, h3, h⟩ := E1.elim h; let ⟨y5, h5, h⟩ := E1.elim h; (q134_5 y1 y3 y5 w R h).more (sub_cons h1 (sub_cons h3 (sub_cons h5 (sub_nil))))), trivial⟩
theorem c134 (x0 : Value) (w : World) (R : Value → World → Prop) (h : S134_0 x0 w R) : CallF P 134 #[x0] w R :=
  call_of_runs (args := [x0]) (c := b134_0) (by kernel_rfl) func134 rfl (by kernel_rfl) (q134_0 x0 w R h)

/-! ### 80 "crier/crierref2.Check" -/
noncomputable abbrev b80_0 : Code := (f80.body).getD .skip
abbrev D80 : Plans := []
abbrev Q80_0 (R : Value → World → Prop) : Post := retQ P f80.results.toList R
def S80_1 (x1 x86 : Value) (w : World) (R : Value → World → Prop) : Prop :=
 condW x86 (
  R (.int .i64 28) w) (
  LB P 29 4 9 x1 w fun v120 w2 =>
  gd v120 true (
   LB P 29 4 7 x1 w2 fun v123 w4 =>
   XV P (Op.unary .not v123) w4 fun v124 w5 =>
   gd v124 false (
    LB P 29 4 13 x1 w5 fun v128 w7 =>
    gd v128 true (
     XV P (Instr.fieldAt 29 x1 14) w7 fun v130 w8 =>
     LB P 24 3 2 v130 w8 fun v132 w10 =>
     XV P (binS .eql 3 true v132 (.int .i64 0)) w10 fun v133 w11 =>
     gd v133 false (
      LB P 29 4 11 x1 w11 fun v138 w13 =>
      gd v138 true (
       LB P 29 3 12 x1 w13 fun v141 w15 =>
       XV P (binS .neq 3 true v141 (.int .i64 0)) w15 fun v142 w16 =>
       condW v142 (
        R (.int .i64 29) w16) (
        R (.int .i64 0) w16)) (
       R (.int .i64 0) w13)) (
      R (.int .i64 29) w11)) (
     LB P 29 4 11 x1 w7 fun v138_1 w18 =>
     gd v138_1 true (
      LB P 29 3 12 x1 w18 fun v141_1 w20 =>
      XV P (binS .neq 3 true v141_1 (.int .i64 0)) w20 fun v142_1 w21 =>
      condW v142_1 (
       R (.int .i64 29) w21) (
       R (.int .i64 0) w21)) (
      R (.int .i64 0) w18))) (
    R (.int .i64 29) w5)) (
   LB P 29 4 13 x1 w2 fun v128_1 w23 =>
   gd v128_1 true (
    XV P (Instr.fieldAt 29 x1 14) w23 fun v130_1 w24 =>
    LB P 24 3 2 v130_1 w24 fun v132_1 w26 =>
    XV P (binS .eql 3 true v132_1 (.int .i64 0)) w26 fun v133_1 w27 =>
    gd v133_1 false (
     LB P 29 4 11 x1 w27 fun v138_2 w29 =>
     gd v138_2 true (
      LB P 29 3 12 x1 w29 fun v141_2 w31 =>
      XV P (binS .neq 3 true v141_2 (.int .i64 0)) w31 fun v142_2 w32 =>
      condW v142_2 (
       R (.int .i64 29) w32) (
       R (.int .i64 0) w32)) (
      R (.int .i64 0) w29)) (
     R (.int .i64 29) w27)) (
    LB P 29 4 11 x1 w23 fun v138_3 w34 =>
    gd v138_3 true (
     LB P 29 3 12 x1 w34 fun v141_3 w36 =>
     XV P (binS .neq 3 true v141_3 (.int .i64 0)) w36 fun v142_3 w37 =>
     condW v142_3 (
      R (.int .i64 29) w37) (
      R (.int .i64 0) w37)) (
     R (.int .i64 0) w34))))
def B80_2 (Z1 : Value → Value → World → Prop) (x1 x69 : Value) (w : World) (R : Value → World → Prop) : Prop :=
 condW x69 (
  R (.int .i64 27) w) (
  LB P 29 3 0 x1 w fun v88 w2 =>
  XV P (binS .eql 3 true v88 (.int .i64 8)) w2 fun v89 w3 =>
  gd v89 true (
   LB P 29 25 16 x1 w3 fun v92 w5 =>
   XV P (Builtin.len_ #[25] 3 #[v92]) w5 fun v93 w6 =>
   XV P (binS .eql 3 true v93 (.int .i64 0)) w6 fun v94 w7 =>
   gd v94 false (
    LB P 29 3 0 x1 w7 fun v98 w9 =>
    XV P (binS .eql 3 true v98 (.int .i64 9)) w9 fun v99 w10 =>
    gd v99 true (
     LB P 29 26 17 x1 w10 fun v102 w12 =>
     XV P (Builtin.len_ #[26] 3 #[v102]) w12 fun v103 w13 =>
     XV P (binS .eql 3 true v103 (.int .i64 0)) w13 fun v104 w14 =>
     gd v104 false (
      LB P 29 3 0 x1 w14 fun v109 w16 =>
      XV P (binS .eql 3 true v109 (.int .i64 10)) w16 fun v110 w17 =>
      gd v110 true (
       LB P 29 27 18 x1 w17 fun v113 w19 =>
       XV P (Builtin.len_ #[27] 3 #[v113]) w19 fun v114 w20 =>
       XV P (binS .eql 3 true v114 (.int .i64 0)) w20 fun v115 w21 =>
       Z1 x1 v115 w21) (
       Z1 x1 (.bool false) w17)) (
      Z1 x1 (.bool true) w14)) (
     LB P 29 3 0 x1 w10 fun v109_1 w23 =>
     XV P (binS .eql 3 true v109_1 (.int .i64 10)) w23 fun v110_1 w24 =>
     gd v110_1 true (
      LB P 29 27 18 x1 w24 fun v113_1 w26 =>
      XV P (Builtin.len_ #[27] 3 #[v113_1]) w26 fun v114_1 w27 =>
      XV P (binS .eql 3 true v114_1 (.int .i64 0)) w27 fun v115_1 w28 =>
      Z1 x1 v115_1 w28) (
      Z1 x1 (.bool false) w24))) (
    Z1 x1 (.bool true) w7)) (
   LB P 29 3 0 x1 w3 fun v98_1 w30 =>
   XV P (binS .eql 3 true v98_1 (.int .i64 9)) w30 fun v99_1 w31 =>
   gd v99_1 true (
    LB P 29 26 17 x1 w31 fun v102_1 w33 =>
    XV P (Builtin.len_ #[26] 3 #[v102_1]) w33 fun v103_1 w34 =>
    XV P (binS .eql 3 true v103_1 (.int .i64 0)) w34 fun v104_1 w35 =>
    gd v104_1 false (
     LB P 29 3 0 x1 w35 fun v109_2 w37 =>
     XV P (binS .eql 3 true v109_2 (.int .i64 10)) w37 fun v110_2 w38 =>
     gd v110_2 true (
      LB P 29 27 18 x1 w38 fun v113_2 w40 =>
      XV P (Builtin.len_ #[27] 3 #[v113_2]) w40 fun v114_2 w41 =>
      XV P (binS .eql 3 true v114_2 (.int .i64 0)) w41 fun v115_2 w42 =>
      Z1 x1 v115_2 w42) (
      Z1 x1 (.bool false) w38)) (
     Z1 x1 (.bool true) w35)) (
    LB P 29 3 0 x1 w31 fun v109_3 w44 =>
    XV P (binS .eql 3 true v109_3 (.int .i64 10)) w44 fun v110_3 w45 =>
    gd v110_3 true (
     LB P 29 27 18 x1 w45 fun v113_3 w47 =>
     XV P (Builtin.len_ #[27] 3 #[v113_3]) w47 fun v114_3 w48 =>
     XV P (binS .eql 3 true v114_3 (.int .i64 0)) w48 fun v115_3 w49 =>
     Z1 x1 v115_3 w49) (
     Z1 x1 (.bool false) w45))))
def S80_2 (x1 x69 : Value) (w : World) (R : Value → World → Prop) : Prop := B80_2 (fun x1 x86 w => S80_1 x1 x86 w R) x1 x69 w R
def B80_3 (Z2 : Value → Value → World → Prop) (x1 x56 : Value) (w : World) (R : Value → World → Prop) : Prop :=
 condW x56 (
  R (.int .i64 26) w) (
  XV P (Instr.fieldAt 29 x1 6) w fun v70 w1 =>
  LB P 24 22 1 v70 w1 fun v72 w3 =>
  XV P (Builtin.len_ #[22] 3 #[v72]) w3 fun v73 w4 =>
  XV P (binS .gtr 3 true v73 (.int .i64 65535)) w4 fun v74 w5 =>
  gd v74 false (
   LB P 29 22 10 x1 w5 fun v77 w7 =>
   XV P (Builtin.len_ #[22] 3 #[v77]) w7 fun v78 w8 =>
   XV P (binS .gtr 3 true v78 (.int .i64 65535)) w8 fun v79 w9 =>
   gd v79 false (
    XV P (Instr.loadAt 29 x1) w9 fun v82 w10 =>
    CallF P 134 #[v82] w10 fun v83 w11 =>
    XV P (binS .gtr 3 true v83 (.int .i64 268435455)) w11 fun v84 w12 =>
    Z2 x1 v84 w12) (
    Z2 x1 (.bool true) w9)) (
   Z2 x1 (.bool true) w5))
def S80_3 (x1 x56 : Value) (w : World) (R : Value → World → Prop) : Prop := B80_3 (fun x1 x69 w => S80_2 x1 x69 w R) x1 x56 w R
def B80_4 (Z3 : Value → Value → World → Prop) (x1 x33 : Value) (w : World) (R : Value → World → Prop) : Prop :=
 condW x33 (
  R (.int .i64 22) w) (
  XV P (Instr.loadAt 29 x1) w fun v45 w1 =>
  CallF P 130 #[v45] w1 fun v46 w2 =>
  XV P (Op.unary .not v46) w2 fun v47 w3 =>
  condW v47 (
   R (.int .i64 23) w3) (
   XV P (Instr.loadAt 29 x1) w3 fun v49 w4 =>
   CallF P 131 #[v49] w4 fun v50 w5 =>
   XV P (Op.unary .not v50) w5 fun v51 w6 =>
   condW v51 (
    R (.int .i64 24) w6) (
    XV P (Instr.loadAt 29 x1) w6 fun v53 w7 =>
    CallF P 132 #[v53] w7 fun v54 w8 =>
    XV P (Op.unary .not v54) w8 fun v55 w9 =>
    condW v55 (
     R (.int .i64 25) w9) (
     XV P (Instr.loadAt 29 x1) w9 fun v57 w10 =>
     CallF P 133 #[v57] w10 fun v58 w11 =>
     gd v58 true (
      LB P 29 3 15 x1 w11 fun v61 w13 =>
      XV P (binS .lss 3 true v61 (.int .i64 1)) w13 fun v62 w14 =>
      gd v62 false (
       LB P 29 3 15 x1 w14 fun v65 w16 =>
       XV P (binS .gtr 3 true v65 (.int .i64 65535)) w16 fun v66 w17 =>
       Z3 x1 v66 w17) (
       Z3 x1 (.bool true) w14)) (
      Z3 x1 (.bool false) w11)))))
def S80_4 (x1 x33 : Value) (w : World) (R : Value → World → Prop) : Prop := B80_4 (fun x1 x56 w => S80_3 x1 x56 w R) x1 x33 w R
def B80_5 (Z4 : Value → Value → World → Prop) (x1 x12 : Value) (w : World) (R : Value → World → Prop) : Prop :=
 condW x12 (
  R (.int .i64 21) w) (
  LB P 29 9 4 x1 w fun v35 w2 =>
  CallF P 129 #[v35] w2 fun v36 w3 =>
  XV P (Op.unary .not v36) w3 fun v37 w4 =>
  gd v37 false (
   LB P 29 9 8 x1 w4 fun v40 w6 =>
   CallF P 129 #[v40] w6 fun v41 w7 =>
   XV P (Op.unary .not v41) w7 fun v42 w8 =>
   Z4 x1 v42 w8) (
   Z4 x1 (.bool true) w4))
def S80_5 (x1 x12 : Value) (w : World) (R : Value → World → Prop) : Prop := B80_5 (fun x1 x33 w => S80_4 x1 x33 w R) x1 x12 w R
def B80_6 (Z5 : Value → Value → World → Prop) (x1 x3 : Value) (w : World) (R : Value → World → Prop) : Prop :=
 condW x3 (
  R (.int .i64 20) w) (
  XV P (Instr.loadAt 29 x1) w fun v13 w1 =>
  CallF P 127 #[v13] w1 fun v14 w2 =>
  gd v14 false (
   LB P 29 3 1 x1 w2 fun v17 w4 =>
   CallF P 128 #[v17, (.int .i64 255)] w4 fun v18 w5 =>
   XV P (Op.unary .not v18) w5 fun v19 w6 =>
   gd v19 false (
    LB P 29 3 12 x1 w6 fun v23 w8 =>
    CallF P 128 #[v23, (.int .i64 255)] w8 fun v24 w9 =>
    XV P (Op.unary .not v24) w9 fun v25 w10 =>
    gd v25 false (
     LB P 29 3 3 x1 w10 fun v29 w12 =>
     CallF P 128 #[v29, (.int .i64 65535)] w12 fun v30 w13 =>
     XV P (Op.unary .not v30) w13 fun v31 w14 =>
     Z5 x1 v31 w14) (
     Z5 x1 (.bool true) w10)) (
    Z5 x1 (.bool true) w6)) (
   Z5 x1 (.bool true) w2))
def S80_6 (x1 x3 : Value) (w : World) (R : Value → World → Prop) : Prop := B80_6 (fun x1 x12 w => S80_5 x1 x12 w R) x1 x3 w R
def B80_0 (Z6 : Value → Value → World → Prop) (x0 : Value) (w : World) (R : Value → World → Prop) : Prop :=
 XV P (Instr.box 29 x0) w fun v1 w1 =>
 LB P 29 3 0 v1 w1 fun v5 w3 =>
 XV P (binS .lss 3 true v5 (.int .i64 1)) w3 fun v6 w4 =>
 gd v6 false (
  LB P 29 3 0 v1 w4 fun v9 w6 =>
  XV P (binS .gtr 3 true v9 (.int .i64 14)) w6 fun v10 w7 =>
  Z6 v1 v10 w7) (
  Z6 v1 (.bool true) w4)
def S80_0 (x0 : Value) (w : World) (R : Value → World → Prop) : Prop := B80_0 (fun x1 x3 w => S80_6 x1 x3 w R) x0 w R
theorem e80_1 (x1 x86 : Value) (w : World) (R : Value → World → Prop) : S80_1 x1 x86 w R = Wp P 145 D80 [true, false, false, true, true, true, true, true, true, true, true, true, true, true, true, true, true, true, true, true] b80_0 [] (Q80_0 R) [(1, some x1), (86, some x86)] w := by kernel_rfl
theorem q80_1 (x1 x86 : Value) (w : World) (R : Value → World → Prop) (h : S80_1 x1 x86 w R) : Runs P 145 (subC [true, false, false, true, true, true, true, true, true, true, true, true, true, true, true, true, true, true, true, true] b80_0) (postC P 145 [true, false, false, true, true, true, true, true, true, true, true, true, true, true, true, true, true, true, true, true] b80_0 (Q80_0 R)) [(1, some x1), (86, some x86)] w :=
  Wp_use mixed (e80_1 x1 x86 w R) h (fun _ _ _ h => h) trivial
theorem e80_2 (Z1 : Value → Value → World → Prop) (x1 x69 : Value) (w : World) (R : Value → World → Prop) : B80_2 Z1 x1 x69 w R = Wp P 145 D80 [true, false, false, true, true, true, true, true, true, true, true, true, true, true, true, true, true, true] b80_0 [([true, false, false, true, true, true, true, true, true, true, true, true, true, true, true, true, true, true, true, true], fun e w => E1 e (.tmp 1) fun x1 => E1 e (.tmp 86) fun x86 => Z1 x1 x86 w)] (Q80_0 R) [(1, some x1), (69, some x69)] w := by kernel_rfl
theorem q80_2 (x1 x69 : Value) (w : World) (R : Value → World → Prop) (h : S80_2 x1 x69 w R) : Runs P 145 (subC [true, false, false, true, true, true, true, true, true, true, true, true, true, true, true, true, true, true] b80_0) (postC P 145 [true, false, false, true, true, true, true, true, true, true, true, true, true, true, true, true, true, true] b80_0 (Q80_0 R)) [(1, some x1), (69, some x69)] w :=
  Wp_use mixed (e80_2 (fun x1 x86 w => S80_1 x1 x86 w R) x1 x69 w R) h (fun _ _ _ h => h) ⟨(fun e w h => let ⟨y1, h1, h⟩ := E1.elim h; let ⟨y86, h86, h⟩ := E1.elim h; (q80_1 y1 y86 w R h).more (sub_cons h1 (sub_cons h86 (sub_nil)))), trivial⟩
theorem e80_3 (Z2 : Value → Value → World → Prop) (x1 x56 : Value) (w : World) (R : Value → World → Prop) : B80_3 Z2 x1 x56 w R = Wp P 145 D80 [true, false, false, true, true, true, true, true, true, true, true, true, true, true, true, true] b80_0 [([true, false, false, true, true, true, true, true, true, true, true, true, true, true, true, true, true, true], fun e w => E1 e (.tmp 1) fun x1 => E1 e (.tmp 69) fun x69 => Z2 x1 x69 w)] (Q80_0 R) [(1, some x1), (56, some x56)] w := by kernel_rfl
theorem q80_3 (x1 x56 : Value) (w : World) (R : Value → World → Prop) (h : S80_3 x1 x56 w R) : Runs P 145 (subC [true, false, false, true, true, true, true, true, true, true, true, true, true, true, true, true] b80_0) (postC P 145 [true, false, false, true, true, true, true, true, true, true, true, true, true, true, true, true] b80_0 (Q80_0 R)) [(1, some x1), (56, some x56)] w :=
  Wp_use mixed (e80_3 (fun x1 x69 w => S80_2 x1 x69 w R) x1 x56 w R) h (fun _ _ _ h => h) ⟨(fun e w h => let ⟨y1, h1, h⟩ := E1.elim h; let ⟨y69, h69, h⟩ := E1.elim h; (q80_2 y1 y69 w R h).more (sub_cons h1 (sub_cons h69 (sub_nil)))), trivial⟩
theorem e80_4 (Z3 : Value → Value → World → Prop) (x1 x33 : Value) (w : World) (R : Value → World → Prop) : B80_4 Z3 x1 x33 w R = Wp P 145 D80 [true, false, false, true, true, true, true, true] b80_0 [([true, false, false, true, true, true, true, true, true, true, true, true, true, true, true, true], fun e w => E1 e (.tmp 1) fun x1 => E1 e (.tmp 56) fun x56 => Z3 x1 x56 w)] (Q80_0 R) [(1, some x1), (33, some x33)] w := by kernel_rfl
theorem q80_4 (x1 x33 : Value) (w : World) (R : Value → World → Prop) (h : S80_4 x1 x33 w R) : Runs P 145 (subC [true, false, false, true, true, true, true, true] b80_0) (postC P 145 [true, false, false, true, true, true, true, true] b80_0 (Q80_0 R)) [(1, some x1), (33, some x33)] w :=
  Wp_use mixed (e80_4 (fun x1 x56 w => S80_3 x1 x56 w R) x1 x33 w R) h (fun _ _ _ h => h) ⟨(fun e w h => let ⟨y1, h1, h⟩ := E1.elim h; let ⟨y56, h56, h⟩ := E1.elim h; (q80_3 y1 y56 w R h).more (sub_cons h1 (sub_cons h56 (sub_nil)))), trivial⟩
theorem e80_5 (Z4 : Value → Value → World → Prop) (x1 x12 : Value) (w : World) (R : Value → World → Prop) : B80_5 Z4 x1 x12 w R = Wp P 145 D80 [true, false, false, true, true, true] b80_0 [([true, false, false, true, true, true, true, true], fun e w => E1 e (.tmp 1) fun x1 => E1 e (.tmp 33) fun x33 => Z4 x1 x33 w)] (Q80_0 R) [(1, some x1), (12, some x12)] w := by kernel_rfl
theorem q80_5 (x1 x12 : Value) (w : World) (R : Value → World → Prop) (h : S80_5 x1 x12 w R) : Runs P 145 (subC [true, false, false, true, true, true] b80_0) (postC P 145 [true, false, false, true, true, true] b80_0 (Q80_0 R)) [(1, some x1), (12, some x12)] w :=
  Wp_use mixed (e80_5 (fun x1 x33 w => S80_4 x1 x33 w R) x1 x12 w R) h (fun _ _ _ h => h) ⟨(fun e w h => let ⟨y1, h1, h⟩ := E1.elim h; let ⟨y33, h33, h⟩ := E1.elim h; (q80_4 y1 y33 w R h).more (sub_cons h1 (sub_cons h33 (sub_nil)))), trivial⟩
theorem e80_6 (Z5 : Value → Value → World → Prop) (x1 x3 : Value) (w : World) (R : Value → World → Prop) : B80_6 Z5 x1 x3 w R = Wp P 145 D80 [true, false, false, true] b80_0 [([true, false, false, true, true, true], fun e w => E1 e (.tmp 1) fun x1 => E1 e (.tmp 12) fun x12 => Z5 x1 x12 w)] (Q80_0 R) [(1, some x1), (3, some x3)] w := by kernel_rfl
theorem q80_6 (x1 x3 : Value) (w : World) (R : Value → World → Prop) (h : S80_6 x1 x3 w R) : Runs P 145 (subC [true, false, false, true] b80_0) (postC P 145 [true, false, false, true] b80_0 (Q80_0 R)) [(1, some x1), (3, some x3)] w :=
  Wp_use mixed (e80_6 (fun x1 x12 w => S80_5 x1 x12 w R) x1 x3 w R) h (fun _ _ _ h => h) ⟨(fun e w h => let ⟨y1, h1, h⟩ := E1.elim h; let ⟨y12, h12, h⟩ := E1.elim h; (q80_5 y1 y12 w R h).more (sub_cons h1 (sub_cons h12 (sub_nil)))), trivial⟩
theorem e80_0 (Z6 : Value → Value → World → Prop) (x0 : Value) (w : World) (R : Value → World → Prop) : B80_0 Z6 x0 w R = Wp P 145 D80 [] b80_0 [([true, false, false, true], fun e w => E1 e (.tmp 1) fun x1 => E1 e (.tmp 3) fun x3 => Z6 x1 x3 w)] (Q80_0 R) [(0, some x0)] w := by kernel_rfl
theorem q80_0 (x0 : Value) (w : World) (R : Value → World → Prop) (h : S80_0 x0 w R) : Runs P 145 (subC [] b80_0) (postC P 145 [] b80_0 (Q80_0 R)) [(0, some x0)] w :=
  Wp_use mixed (e80_0 (fun x1 x3 w => S80_6 x1 x3 w R) x0 w R) h (fun _ _ _ h => h) ⟨(fun e w h => let ⟨y1, h1, h⟩ := E1.elim h; let ⟨y3, h3, h⟩ := E1.elim h; (q80_6 y1 y3 w R h).more (sub_cons h1 (sub_cons h3 (sub_nil)))), trivial⟩
theorem c80 (x0 : Value) (w : World) (R : Value → World → Prop) (h : S80_0 x0 w R) : CallF P 80 #[x0] w R :=
  call_of_runs (args := [x0]) (c := b80_0) (by kernel_rfl) func80 rfl (by kernel_rfl) (q80_0 x0 w R h)

/-! ### 82 "crier/crierref2.Flags" -/
noncomputable abbrev b82_0 : Code := (f82.body).getD .skip
abbrev D82 : Plans := []
abbrev Q82_0 (R : Value → World → Prop) : Post := retQ P f82.results.toList R
def S82_1 (x1 x3 : Value) (w : World) (R : Value → World → Prop) : Prop :=
 XV P (Instr.fieldAt 29 x1 14) w fun v19 w1 =>
 LB P 24 4 3 v19 w1 fun v21 w3 =>
 condW v21 (
  XV P (binS .add 3 true x3 (.int .i64 1)) w3 fun v23 w4 =>
  R v23 w4) (
  R x3 w3)
def B82_0 (Z1 : Value → Value → World → Prop) (x0 : Value) (w : World) (R : Value → World → Prop) : Prop :=
 XV P (Instr.box 29 x0) w fun v1 w1 =>
 XV P (Instr.loadAt 29 v1) w1 fun v4 w2 =>
 CallF P 80 #[v4] w2 fun v5 w3 =>
 XV P (binS .neq 3 true v5 (.int .i64 0)) w3 fun v6 w4 =>
 condW v6 (
  R (.int .i64 0) w4) (
  LB P 29 3 0 v1 w4 fun v8 w6 =>
  XV P (binS .eql 3 true v8 (.int .i64 3)) w6 fun v10 w7 =>
  condW v10 (
   XV P (Instr.fieldAt 29 v1 14) w7 fun v11 w8 =>
   LB P 24 3 2 v11 w8 fun v13 w10 =>
   XV P (binS .mul 3 true (.int .i64 2) v13) w10 fun v14 w11 =>
   LB P 29 4 13 v1 w11 fun v16 w13 =>
   condW v16 (
    XV P (binS .add 3 true v14 (.int .i64 8)) w13 fun v18 w14 =>
    Z1 v1 v18 w14) (
    Z1 v1 v14 w13)) (
   XV P (binS .eql 3 true v8 (.int .i64 6)) w7 fun v26 w15 =>
   condW v26 (
    condW v26 (
     R (.int .i64 2) w15) (
     R (.int .i64 0) w15)) (
    XV P (binS .eql 3 true v8 (.int .i64 8)) w15 fun v27 w16 =>
    condW v27 (
     condW v27 (
      R (.int .i64 2) w16) (
      R (.int .i64 0) w16)) (
     XV P (binS .eql 3 true v8 (.int .i64 10)) w16 fun v28 w17 =>
     condW v28 (
      R (.int .i64 2) w17) (
      R (.int .i64 0) w17)))))
def S82_0 (x0 : Value) (w : World) (R : Value → World → Prop) : Prop := B82_0 (fun x1 x3 w => S82_1 x1 x3 w R) x0 w R
theorem e82_1 (x1 x3 : Value) (w : World) (R : Value → World → Prop) : S82_1 x1 x3 w R = Wp P 29 D82 [true, true, false, true, false, true, false, true, true] b82_0 [] (Q82_0 R) [(1, some x1), (3, some x3)] w := by kernel_rfl
theorem q82_1 (x1 x3 : Value) (w : World) (R : Value → World → Prop) (h : S82_1 x1 x3 w R) : Runs P 29 (subC [true, true, false, true, false, true, false, true, true] b82_0) (postC P 29 [true, true, false, true, false, true, false, true, true] b82_0 (Q82_0 R)) [(1, some x1), (3, some x3)] w :=
  Wp_use mixed (e82_1 x1 x3 w R) h (fun _ _ _ h => h) trivial
theorem e82_0 (Z1 : Value → Value → World → Prop) (x0 : Value) (w : World) (R : Value → World → Prop) : B82_0 Z1 x0 w R = Wp P 29 D82 [] b82_0 [([true, true, false, true, false, true, false, true, true], fun e w => E1 e (.tmp 1) fun x1 => E1 e (.tmp 3) fun x3 => Z1 x1 x3 w)] (Q82_0 R) [(0, some x0)] w := by kernel_rfl
theorem q82_0 (x0 : Value) (w : World) (R : Value → World → Prop) (h : S82_0 x0 w R) : Runs P 29 (subC [] b82_0) (postC P 29 [] b82_0 (Q82_0 R)) [(0, some x0)] w :=
  Wp_use mixed (e82_0 (fun x1 x3 w => S82_1 x1 x3 w R) x0 w R) h (fun _ _ _ h => h) ⟨(fun e w h => let ⟨y1, h1, h⟩ := E1.elim h; let ⟨y3, h3, h⟩ := E1.elim h; (q82_1 y1 y3 w R h).more (sub_cons h1 (sub_cons h3 (sub_nil)))), trivial⟩
theorem c82 (x0 : Value) (w : World) (R : Value → World → Prop) (h : S82_0 x0 w R) : CallF P 82 #[x0] w R :=
  call_of_runs (args := [x0]) (c := b82_0) (by kernel_rfl) func82 rfl (by kernel_rfl) (q82_0 x0 w R h)

/-! ### 84 "crier/crierref2.Length" -/
noncomputable abbrev b84_0 : Code := (f84.body).getD .skip
abbrev D84 : Plans := []
abbrev Q84_0 (R : Value → World → Prop) : Post := retQ P f84.results.toList R
def S84_0 (x0 : Value) (w : World) (R : Value → World → Prop) : Prop :=
 XV P (Instr.box 29 x0) w fun v1 w1 =>
 XV P (Instr.loadAt 29 v1) w1 fun v3 w2 =>
 CallF P 80 #[v3] w2 fun v4 w3 =>
 XV P (binS .neq 3 true v4 (.int .i64 0)) w3 fun v5 w4 =>
 condW v5 (
  R (.int .i64 0) w4) (
  XV P (Instr.loadAt 29 v1) w4 fun v6 w5 =>
  CallF P 134 #[v6] w5 fun v7 w6 =>
  R v7 w6)
theorem e84_0 (x0 : Value) (w : World) (R : Value → World → Prop) : S84_0 x0 w R = Wp P 8 D84 [] b84_0 [] (Q84_0 R) [(0, some x0)] w := by kernel_rfl
theorem q84_0 (x0 : Value) (w : World) (R : Value → World → Prop) (h : S84_0 x0 w R) : Runs P 8 (subC [] b84_0) (postC P 8 [] b84_0 (Q84_0 R)) [(0, some x0)] w :=
  Wp_use mixed (e84_0 x0 w R) h (fun _ _ _ h => h) trivial
theorem c84 (x0 : Value) (w : World) (R : Value → World → Prop) (h : S84_0 x0 w R) : CallF P 84 #[x0] w R :=
  call_of_runs (args := [x0]) (c := b84_0) (by kernel_rfl) func84 rfl (by kernel_rfl) (q84_0 x0 w R h)

/-! ### 86 "crier/crierref2.CheckMessage" -/
noncomputable abbrev b86_0 : Code := (f86.body).getD .skip
abbrev D86 : Plans := []
abbrev Q86_0 (R : Value → World → Prop) : Post := retQ P f86.results.toList R
def S86_0 (x0 : Value) (w : World) (R : Value → World → Prop) : Prop :=
 XV P (Instr.box 24 x0) w fun v1 w1 =>
 LB P 24 9 0 v1 w1 fun v4 w3 =>
 CallF P 136 #[v4] w3 fun v5 w4 =>
 XV P (binS .neq 3 true v5 (.int .i64 0)) w4 fun v6 w5 =>
 condW v6 (
  R (.int .i64 23) w5) (
  LB P 24 3 2 v1 w5 fun v8 w7 =>
  CallF P 128 #[v8, (.int .i64 2)] w7 fun v9 w8 =>
  XV P (Op.unary .not v9) w8 fun v10 w9 =>
  condW v10 (
   R (.int .i64 25) w9) (
   R (.int .i64 0) w9))
theorem e86_0 (x0 : Value) (w : World) (R : Value → World → Prop) : S86_0 x0 w R = Wp P 11 D86 [] b86_0 [] (Q86_0 R) [(0, some x0)] w := by kernel_rfl
theorem q86_0 (x0 : Value) (w : World) (R : Value → World → Prop) (h : S86_0 x0 w R) : Runs P 11 (subC [] b86_0) (postC P 11 [] b86_0 (Q86_0 R)) [(0, some x0)] w :=
  Wp_use mixed (e86_0 x0 w R) h (fun _ _ _ h => h) trivial
theorem c86 (x0 : Value) (w : World) (R : Value → World → Prop) (h : S86_0 x0 w R) : CallF P 86 #[x0] w R :=
  call_of_runs (args := [x0]) (c := b86_0) (by kernel_rfl) func86 rfl (by kernel_rfl) (q86_0 x0 w R h)

end Go.Proofs.YtdgffjkcpbolmaaGreatDoor.X
