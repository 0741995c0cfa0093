/- Shallow forms of Go functions, written by the tool fx.py of this session, each with the proof that the call does what its form says. No condition. -/
import Derived.Test.YtdgffjkcpbolmaaGreatDoorFxP
namespace Go.Proofs.YtdgffjkcpbolmaaGreatDoor.X
open Go Go.RowKit Go.Proofs.Tryz Go.Proofs.YtdgffjkcpbolmaaGreatDoor.Fx
set_option linter.unusedVariables false
set_option linter.constructorNameAsVariable false
set_option maxRecDepth 100000
/-! ### 25 "crier/crierref2.sameBytes" -/
noncomputable abbrev b25_0 : Code := (f25.body).getD .skip
abbrev D25 : Plans := [(6, [(0, false), (1, false), (2, false), (3, false), (4, false), (5, false), (6, false), (7, false), (8, false)], 9)]
abbrev Q25_0 (R : Value → World → Prop) : Post := retQ P f25.results.toList R
def S25_2 (x0 x1 x5 : Value) (w : World) (K1 : Value → Value → Value → World → Prop) (R : Value → World → Prop) : Prop :=
 XV P (Builtin.len_ #[22] 3 #[x0]) w fun v13 w1 =>
 XV P (binS .lss 3 false x5 v13) w1 fun v14 w2 =>
 condW v14 (
  LIS P (Ext (World.drew w2)) 22 5 x0 x5 fun v20 =>
  LIS P (Ext (World.drew w2)) 22 5 x1 x5 fun v24 =>
  XS P (Ext (World.drew w2)) (binS .neq 5 false v20 v24) fun v25 =>
  condW v25 (
   R (.bool false) (World.drew w2)) (
   XV P (binS .add 3 true x5 (.int .i64 1)) (World.drew w2) fun v16 w3 =>
   K1 x0 x1 v16 w3)) (
  R (.bool true) w2)
def S25_1 (x0 x1 x5 : Value) (w : World) (R : Value → World → Prop) : Prop :=
 LoopP (fun (s : Value × Value × Value) w K => S25_2 s.1 s.2.1 s.2.2 w (fun x0 x1 x5 w => K (x0, x1, x5) w) R) (x0, x1, x5) w
def B25_0 (Z1 : Value → Value → Value → World → Prop) (x0 x1 : Value) (w : World) (R : Value → World → Prop) : Prop :=
 XV P (Builtin.len_ #[22] 3 #[x0]) w fun v7 w1 =>
 XV P (Builtin.len_ #[22] 3 #[x1]) w1 fun v9 w2 =>
 XV P (binS .neq 3 false v7 v9) w2 fun v10 w3 =>
 condW v10 (
  R (.bool false) w3) (
  Z1 x0 x1 (.int .i64 0) w3)
def S25_0 (x0 x1 : Value) (w : World) (R : Value → World → Prop) : Prop := B25_0 (fun x0 x1 x5 w => S25_1 x0 x1 x5 w R) x0 x1 w R
noncomputable abbrev b25_1 : Code := match subC [true, true, false, true, false] b25_0 with | .loop x => x | _ => .skip
abbrev V25_1 (K : Value → Value → Value → World → Prop) (e : Env) (w : World) : Prop := E1 e (.tmp 0) fun x0 => E1 e (.tmp 1) fun x1 => E1 e (.tmp 5) fun x5 => K x0 x1 x5 w
abbrev Q25_1 (K1 : Value → Value → Value → World → Prop) (R : Value → World → Prop) : Post := thenQ (V25_1 K1) (postC P 26 [true, true, false, true, false] b25_0 (Q25_0 R))
theorem e25_2 (x0 x1 x5 : Value) (w : World) (K1 : Value → Value → Value → World → Prop) (R : Value → World → Prop) : S25_2 x0 x1 x5 w K1 R = Wp P 26 D25 [] b25_1 [] (thenQ (V25_1 K1) (postW P 26 D25 [true, true, false, true, false] b25_0 [] (Q25_0 R))) [(0, some x0), (1, some x1), (5, some x5)] w := by kernel_rfl
theorem q25_2 (x0 x1 x5 : Value) (w : World) (K1 : Value → Value → Value → World → Prop) (R : Value → World → Prop) (h : S25_2 x0 x1 x5 w K1 R) : Runs P 26 (subC [] b25_1) (postC P 26 [] b25_1 (Q25_1 K1 R)) [(0, some x0), (1, some x1), (5, some x5)] w :=
  Wp_use mixed (e25_2 x0 x1 x5 w K1 R) h (thenQ_le (postW_le mixed _ _ _ _ _ (fun _ _ _ h => h) trivial)) trivial
theorem q25_1 (x0 x1 x5 : Value) (w : World) (R : Value → World → Prop) (h : S25_1 x0 x1 x5 w R) : Runs P 26 (subC [true, true, false, true, false] b25_0) (postC P 26 [true, true, false, true, false] b25_0 (Q25_0 R)) [(0, some x0), (1, some x1), (5, some x5)] w :=
  Runs.loop (σ := Value × Value × Value) (fun s => [(0, some s.1), (1, some s.2.1), (5, some s.2.2)]) (fun e k => E1 e (.tmp 0) fun x0 => E1 e (.tmp 1) fun x1 => E1 e (.tmp 5) fun x5 => k (x0, x1, x5)) (fun e k h => let ⟨y0, h0, h⟩ := E1.elim h; let ⟨y1, h1, h⟩ := E1.elim h; let ⟨y5, h5, h⟩ := E1.elim h; ⟨(y0, y1, y5), h, (sub_cons h0 (sub_cons h1 (sub_cons h5 (sub_nil))))⟩) (fun s w K h => q25_2 s.1 s.2.1 s.2.2 w (fun x0 x1 x5 w => K (x0, x1, x5) w) R h) h
theorem e25_0 (Z1 : Value → Value → Value → World → Prop) (x0 x1 : Value) (w : World) (R : Value → World → Prop) : B25_0 Z1 x0 x1 w R = Wp P 26 D25 [] b25_0 [([true, true, false, true, false], fun e w => E1 e (.tmp 0) fun x0 => E1 e (.tmp 1) fun x1 => E1 e (.tmp 5) fun x5 => Z1 x0 x1 x5 w)] (Q25_0 R) [(0, some x0), (1, some x1)] w := by kernel_rfl
theorem q25_0 (x0 x1 : Value) (w : World) (R : Value → World → Prop) (h : S25_0 x0 x1 w R) : Runs P 26 (subC [] b25_0) (postC P 26 [] b25_0 (Q25_0 R)) [(0, some x0), (1, some x1)] w :=
  Wp_use mixed (e25_0 (fun x0 x1 x5 w => S25_1 x0 x1 x5 w R) x0 x1 w R) h (fun _ _ _ h => h) ⟨(fun e w h => let ⟨y0, h0, h⟩ := E1.elim h; let ⟨y1, h1, h⟩ := E1.elim h; let ⟨y5, h5, h⟩ := E1.elim h; (q25_1 y0 y1 y5 w R h).more (sub_cons h0 (sub_cons h1 (sub_cons h5 (sub_nil))))), trivial⟩
theorem c25 (x0 x1 : Value) (w : World) (R : Value → World → Prop) (h : S25_0 x0 x1 w R) : CallF P 25 #[x0, x1] w R :=
  call_of_runs (args := [x0, x1]) (c := b25_0) (by kernel_rfl) func25 rfl (by kernel_rfl) (q25_0 x0 x1 w R h)

/-! ### 24 "crier/crierref2.SameMessage" -/
noncomputable abbrev b24_0 : Code := (f24.body).getD .skip
abbrev D24 : Plans := []
abbrev Q24_0 (R : Value → World → Prop) : Post := retQ P f24.results.toList R
def S24_0 (x0 x1 : Value) (w : World) (R : Value → World → Prop) : Prop :=
 XV P (Instr.box 24 x0) w fun v2 w1 =>
 XV P (Instr.box 24 x1) w1 fun v3 w2 =>
 LB P 24 9 0 v2 w2 fun v6 w4 =>
 LB P 24 9 0 v3 w4 fun v8 w6 =>
 XV P (binS .eql 9 false v6 v8) w6 fun v9 w7 =>
 gd v9 true (
  LB P 24 3 2 v2 w7 fun v12 w9 =>
  LB P 24 3 2 v3 w9 fun v14 w11 =>
  XV P (binS .eql 3 false v12 v14) w11 fun v15 w12 =>
  gd v15 true (
   LB P 24 4 3 v2 w12 fun v19 w14 =>
   LB P 24 4 3 v3 w14 fun v21 w16 =>
   XV P (binS .eql 4 false v19 v21) w16 fun v22 w17 =>
   gd v22 true (
    LB P 24 22 1 v2 w17 fun v26 w19 =>
    LB P 24 22 1 v3 w19 fun v28 w21 =>
    CallF P 25 #[v26, v28] w21 fun v29 w22 =>
    R v29 w22) (
    R (.bool false) w17)) (
   R (.bool false) w12)) (
  R (.bool false) w7)
theorem e24_0 (x0 x1 : Value) (w : World) (R : Value → World → Prop) : S24_0 x0 x1 w R = Wp P 31 D24 [] b24_0 [] (Q24_0 R) [(0, some x0), (1, some x1)] w := by kernel_rfl
theorem q24_0 (x0 x1 : Value) (w : World) (R : Value → World → Prop) (h : S24_0 x0 x1 w R) : Runs P 31 (subC [] b24_0) (postC P 31 [] b24_0 (Q24_0 R)) [(0, some x0), (1, some x1)] w :=
  Wp_use mixed (e24_0 x0 x1 w R) h (fun _ _ _ h => h) trivial
theorem c24 (x0 x1 : Value) (w : World) (R : Value → World → Prop) (h : S24_0 x0 x1 w R) : CallF P 24 #[x0, x1] w R :=
  call_of_runs (args := [x0, x1]) (c := b24_0) (by kernel_rfl) func24 rfl (by kernel_rfl) (q24_0 x0 x1 w R h)

/-! ### 7 "crier/crierref2.Same" -/
noncomputable abbrev b7_0 : Code := (f7.body).getD .skip
abbrev D7 : Plans := [(10, [(0, false), (1, false), (2, false), (3, false), (4, false), (5, false), (6, false), (7, false), (8, false), (9, false), (10, false)], 11), (15, [(0, false), (1, false), (2, false), (3, false), (4, false), (5, false), (6, false), (7, false), (8, false), (9, false), (10, false)], 11), (20, [(0, false), (1, false), (2, false), (3, false), (4, false), (5, false), (6, false), (7, false), (8, false), (9, false), (10, false)], 11)]
abbrev Q7_0 (R : Value → World → Prop) : Post := retQ P f7.results.toList R
def S7_6 (x2 x3 x7 : Value) (w : World) (K3 : Value → Value → Value → World → Prop) (R : Value → World → Prop) : Prop :=
 LB P 29 27 18 x2 w fun v182 w2 =>
 XV P (Builtin.len_ #[27] 3 #[v182]) w2 fun v183 w3 =>
 XV P (binS .lss 3 false x7 v183) w3 fun v184 w4 =>
 condW v184 (
  LBS P (Ext (World.drew w4)) 29 27 18 x2 fun v188 =>
  LIS P (Ext (World.drew w4)) 27 9 v188 x7 fun v191 =>
  LBS P (Ext (World.drew w4)) 29 27 18 x3 fun v193 =>
  LIS P (Ext (World.drew w4)) 27 9 v193 x7 fun v196 =>
  XS P (Ext (World.drew w4)) (binS .neq 9 false v191 v196) fun v197 =>
  condW v197 (
   R (.bool false) (World.drew w4)) (
   XV P (binS .add 3 true x7 (.int .i64 1)) (World.drew w4) fun v186 w5 =>
   K3 x2 x3 v186 w5)) (
  R (.bool true) w4)
def S7_5 (x2 x3 x7 : Value) (w : World) (R : Value → World → Prop) : Prop :=
 LoopP (fun (s : Value × Value × Value) w K => S7_6 s.1 s.2.1 s.2.2 w (fun x2 x3 x7 w => K (x2, x3, x7) w) R) (x2, x3, x7) w
def B7_4 (Z5 : Value → Value → Value → World → Prop) (x2 x3 x6 : Value) (w : World) (K2 : Value → Value → Value → World → Prop) (R : Value → World → Prop) : Prop :=
 LB P 29 26 17 x2 w fun v164 w2 =>
 XV P (Builtin.len_ #[26] 3 #[v164]) w2 fun v165 w3 =>
 XV P (binS .lss 3 false x6 v165) w3 fun v166 w4 =>
 condW v166 (
  LBS P (Ext (World.drew w4)) 29 26 17 x2 fun v170 =>
  LIS P (Ext (World.drew w4)) 26 3 v170 x6 fun v173 =>
  LBS P (Ext (World.drew w4)) 29 26 17 x3 fun v175 =>
  LIS P (Ext (World.drew w4)) 26 3 v175 x6 fun v178 =>
  XS P (Ext (World.drew w4)) (binS .neq 3 false v173 v178) fun v179 =>
  condW v179 (
   R (.bool false) (World.drew w4)) (
   XV P (binS .add 3 true x6 (.int .i64 1)) (World.drew w4) fun v168 w5 =>
   K2 x2 x3 v168 w5)) (
  Z5 x2 x3 (.int .i64 0) w4)
def S7_4 (x2 x3 x6 : Value) (w : World) (K2 : Value → Value → Value → World → Prop) (R : Value → World → Prop) : Prop := B7_4 (fun x2 x3 x7 w => S7_5 x2 x3 x7 w R) x2 x3 x6 w K2 R
def S7_3 (x2 x3 x6 : Value) (w : World) (R : Value → World → Prop) : Prop :=
 LoopP (fun (s : Value × Value × Value) w K => S7_4 s.1 s.2.1 s.2.2 w (fun x2 x3 x6 w => K (x2, x3, x6) w) R) (x2, x3, x6) w
def B7_2 (Z3 : Value → Value → Value → World → Prop) (x2 x3 x5 : Value) (w : World) (K1 : Value → Value → Value → World → Prop) (R : Value → World → Prop) : Prop :=
 LB P 29 25 16 x2 w fun v146 w2 =>
 XV P (Builtin.len_ #[25] 3 #[v146]) w2 fun v147 w3 =>
 XV P (binS .lss 3 false x5 v147) w3 fun v148 w4 =>
 condW v148 (
  LBS P (Ext (World.drew w4)) 29 25 16 x2 fun v152 =>
  LIS P (Ext (World.drew w4)) 25 73 v152 x5 fun v155 =>
  LBS P (Ext (World.drew w4)) 29 25 16 x3 fun v157 =>
  LIS P (Ext (World.drew w4)) 25 73 v157 x5 fun v160 =>
  XS P (Ext (World.drew w4)) (binS .neq 73 false v155 v160) fun v161 =>
  condW v161 (
   R (.bool false) (World.drew w4)) (
   XV P (binS .add 3 true x5 (.int .i64 1)) (World.drew w4) fun v150 w5 =>
   K1 x2 x3 v150 w5)) (
  Z3 x2 x3 (.int .i64 0) w4)
def S7_2 (x2 x3 x5 : Value) (w : World) (K1 : Value → Value → Value → World → Prop) (R : Value → World → Prop) : Prop := B7_2 (fun x2 x3 x6 w => S7_3 x2 x3 x6 w R) x2 x3 x5 w K1 R
def S7_1 (x2 x3 x5 : Value) (w : World) (R : Value → World → Prop) : Prop :=
 LoopP (fun (s : Value × Value × Value) w K => S7_2 s.1 s.2.1 s.2.2 w (fun x2 x3 x5 w => K (x2, x3, x5) w) R) (x2, x3, x5) w
def B7_0 (Z1 : Value → Value → Value → World → Prop) (x0 x1 : Value) (w : World) (R : Value → World → Prop) : Prop :=
 XV P (Instr.box 29 x0) w fun v2 w1 =>
 XV P (Instr.box 29 x1) w1 fun v3 w2 =>
 LB P 29 3 0 v2 w2 fun v9 w4 =>
 LB P 29 3 0 v3 w4 fun v11 w6 =>
 XV P (binS .neq 3 false v9 v11) w6 fun v12 w7 =>
 gd v12 false (
  LB P 29 3 1 v2 w7 fun v15 w9 =>
  LB P 29 3 1 v3 w9 fun v17 w11 =>
  XV P (binS .neq 3 false v15 v17) w11 fun v18 w12 =>
  gd v18 false (
   LB P 29 4 2 v2 w12 fun v22 w14 =>
   LB P 29 4 2 v3 w14 fun v24 w16 =>
   XV P (binS .neq 4 false v22 v24) w16 fun v25 w17 =>
   gd v25 false (
    LB P 29 3 3 v2 w17 fun v29 w19 =>
    LB P 29 3 3 v3 w19 fun v31 w21 =>
    XV P (binS .neq 3 false v29 v31) w21 fun v32 w22 =>
    gd v32 false (
     LB P 29 9 4 v2 w22 fun v36 w24 =>
     LB P 29 9 4 v3 w24 fun v38 w26 =>
     XV P (binS .neq 9 false v36 v38) w26 fun v39 w27 =>
     gd v39 false (
      LB P 29 4 5 v2 w27 fun v43 w29 =>
      LB P 29 4 5 v3 w29 fun v45 w31 =>
      XV P (binS .neq 4 false v43 v45) w31 fun v46 w32 =>
      gd v46 false (
       LB P 29 4 7 v2 w32 fun v50 w34 =>
       LB P 29 4 7 v3 w34 fun v52 w36 =>
       XV P (binS .neq 4 false v50 v52) w36 fun v53 w37 =>
       gd v53 false (
        LB P 29 9 8 v2 w37 fun v57 w39 =>
        LB P 29 9 8 v3 w39 fun v59 w41 =>
        XV P (binS .neq 9 false v57 v59) w41 fun v60 w42 =>
        gd v60 false (
         LB P 29 4 9 v2 w42 fun v64 w44 =>
         LB P 29 4 9 v3 w44 fun v66 w46 =>
         XV P (binS .neq 4 false v64 v66) w46 fun v67 w47 =>
         condW v67 (
          R (.bool false) w47) (
          LB P 29 4 11 v2 w47 fun v70 w49 =>
          LB P 29 4 11 v3 w49 fun v72 w51 =>
          XV P (binS .neq 4 false v70 v72) w51 fun v73 w52 =>
          gd v73 false (
           LB P 29 3 12 v2 w52 fun v76 w54 =>
           LB P 29 3 12 v3 w54 fun v78 w56 =>
           XV P (binS .neq 3 false v76 v78) w56 fun v79 w57 =>
           gd v79 false (
            LB P 29 4 13 v2 w57 fun v83 w59 =>
            LB P 29 4 13 v3 w59 fun v85 w61 =>
            XV P (binS .neq 4 false v83 v85) w61 fun v86 w62 =>
            gd v86 false (
             LB P 29 3 15 v2 w62 fun v90 w64 =>
             LB P 29 3 15 v3 w64 fun v92 w66 =>
             XV P (binS .neq 3 false v90 v92) w66 fun v93 w67 =>
             gd v93 false (
              LB P 29 24 6 v2 w67 fun v97 w69 =>
              LB P 29 24 6 v3 w69 fun v99 w71 =>
              CallF P 24 #[v97, v99] w71 fun v100 w72 =>
              XV P (Op.unary .not v100) w72 fun v101 w73 =>
              gd v101 false (
               LB P 29 24 14 v2 w73 fun v105 w75 =>
               LB P 29 24 14 v3 w75 fun v107 w77 =>
               CallF P 24 #[v105, v107] w77 fun v108 w78 =>
               XV P (Op.unary .not v108) w78 fun v109 w79 =>
               gd v109 false (
                LB P 29 22 10 v2 w79 fun v113 w81 =>
                LB P 29 22 10 v3 w81 fun v115 w83 =>
                CallF P 25 #[v113, v115] w83 fun v116 w84 =>
                XV P (Op.unary .not v116) w84 fun v117 w85 =>
                condW v117 (
                 R (.bool false) w85) (
                 LB P 29 25 16 v2 w85 fun v120 w87 =>
                 XV P (Builtin.len_ #[25] 3 #[v120]) w87 fun v121 w88 =>
                 LB P 29 25 16 v3 w88 fun v123 w90 =>
                 XV P (Builtin.len_ #[25] 3 #[v123]) w90 fun v124 w91 =>
                 XV P (binS .neq 3 false v121 v124) w91 fun v125 w92 =>
                 gd v125 false (
                  LB P 29 26 17 v2 w92 fun v128 w94 =>
                  XV P (Builtin.len_ #[26] 3 #[v128]) w94 fun v129 w95 =>
                  LB P 29 26 17 v3 w95 fun v131 w97 =>
                  XV P (Builtin.len_ #[26] 3 #[v131]) w97 fun v132 w98 =>
                  XV P (binS .neq 3 false v129 v132) w98 fun v133 w99 =>
                  gd v133 false (
                   LB P 29 27 18 v2 w99 fun v137 w101 =>
                   XV P (Builtin.len_ #[27] 3 #[v137]) w101 fun v138 w102 =>
                   LB P 29 27 18 v3 w102 fun v140 w104 =>
                   XV P (Builtin.len_ #[27] 3 #[v140]) w104 fun v141 w105 =>
                   XV P (binS .neq 3 false v138 v141) w105 fun v142 w106 =>
                   condW v142 (
                    R (.bool false) w106) (
                    Z1 v2 v3 (.int .i64 0) w106)) (
                   R (.bool false) w99)) (
                  R (.bool false) w92))) (
                R (.bool false) w79)) (
               R (.bool false) w73)) (
              R (.bool false) w67)) (
             R (.bool false) w62)) (
            R (.bool false) w57)) (
           R (.bool false) w52))) (
         R (.bool false) w42)) (
        R (.bool false) w37)) (
       R (.bool false) w32)) (
      R (.bool false) w27)) (
     R (.bool false) w22)) (
    R (.bool false) w17)) (
   R (.bool false) w12)) (
  R (.bool false) w7)
def S7_0 (x0 x1 : Value) (w : World) (R : Value → World → Prop) : Prop := B7_0 (fun x2 x3 x5 w => S7_1 x2 x3 x5 w R) x0 x1 w R
noncomputable abbrev b7_1 : Code := match subC [true, true, true, true, false, true, false] b7_0 with | .loop x => x | _ => .skip
abbrev V7_1 (K : Value → Value → Value → World → Prop) (e : Env) (w : World) : Prop := E1 e (.tmp 2) fun x2 => E1 e (.tmp 3) fun x3 => E1 e (.tmp 5) fun x5 => K x2 x3 x5 w
abbrev Q7_1 (K1 : Value → Value → Value → World → Prop) (R : Value → World → Prop) : Post := thenQ (V7_1 K1) (postC P 198 [true, true, true, true, false, true, false] b7_0 (Q7_0 R))
noncomputable abbrev b7_2 : Code := match subC [true, true, true, true, true, false, true, false] b7_0 with | .loop x => x | _ => .skip
abbrev V7_2 (K : Value → Value → Value → World → Prop) (e : Env) (w : World) : Prop := E1 e (.tmp 2) fun x2 => E1 e (.tmp 3) fun x3 => E1 e (.tmp 6) fun x6 => K x2 x3 x6 w
abbrev Q7_2 (K2 : Value → Value → Value → World → Prop) (R : Value → World → Prop) : Post := thenQ (V7_2 K2) (postC P 198 [true, true, true, true, true, false, true, false] b7_0 (Q7_0 R))
noncomputable abbrev b7_3 : Code := match subC [true, true, true, true, true, true, false, true, false] b7_0 with | .loop x => x | _ => .skip
abbrev V7_3 (K : Value → Value → Value → World → Prop) (e : Env) (w : World) : Prop := E1 e (.tmp 2) fun x2 => E1 e (.tmp 3) fun x3 => E1 e (.tmp 7) fun x7 => K x2 x3 x7 w
abbrev Q7_3 (K3 : Value → Value → Value → World → Prop) (R : Value → World → Prop) : Post := thenQ (V7_3 K3) (postC P 198 [true, true, true, true, true, true, false, true, false] b7_0 (Q7_0 R))
theorem e7_6 (x2 x3 x7 : Value) (w : World) (K3 : Value → Value → Value → World → Prop) (R : Value → World → Prop) : S7_6 x2 x3 x7 w K3 R = Wp P 198 D7 [] b7_3 [] (thenQ (V7_3 K3) (postW P 198 D7 [true, true, true, true, true, true, false, true, false] b7_0 [] (Q7_0 R))) [(2, some x2), (3, some x3), (7, some x7)] w := by kernel_rfl
theorem q7_6 (x2 x3 x7 : Value) (w : World) (K3 : Value → Value → Value → World → Prop) (R : Value → World → Prop) (h : S7_6 x2 x3 x7 w K3 R) : Runs P 198 (subC [] b7_3) (postC P 198 [] b7_3 (Q7_3 K3 R)) [(2, some x2), (3, some x3), (7, some x7)] w :=
  Wp_use mixed (e7_6 x2 x3 x7 w K3 R) h (thenQ_le (postW_le mixed _ _ _ _ _ (fun _ _ _ h => h) trivial)) trivial
theorem q7_5 (x2 x3 x7 : Value) (w : World) (R : Value → World → Prop) (h : S7_5 x2 x3 x7 w R) : Runs P 198 (subC [true, true, true, true, true, true, false, true, false] b7_0) (postC P 198 [true, true, true, true, true, true, false, true, false] b7_0 (Q7_0 R)) [(2, some x2), (3, some x3), (7, some x7)] w :=
  Runs.loop (σ := Value × Value × Value) (fun s => [(2, some s.1), (3, some s.2.1), (7, some s.2.2)]) (fun e k => E1 e (.tmp 2) fun x2 => E1 e (.tmp 3) fun x3 => E1 e (.tmp 7) fun x7 => k (x2, x3, x7)) (fun e k h => let ⟨y2, h2, h⟩ := E1.elim h; let ⟨y3, h3, h⟩ := E1.elim h; let ⟨y7, h7, h⟩ := E1.elim h; ⟨(y2, y3, y7), h, (sub_cons h2 (sub_cons h3 (sub_cons h7 (sub_nil))))⟩) (fun s w K h => q7_6 s.1 s.2.1 s.2.2 w (fun x2 x3 x7 w => K (x2, x3, x7) w) R h) h
theorem e7_4 (Z5 : Value → Value → Value → World → Prop) (x2 x3 x6 : Value) (w : World) (K2 : Value → Value → Value → World → Prop) (R : Value → World → Prop) : B7_4 Z5 x2 x3 x6 w K2 R = Wp P 198 D7 [] b7_2 [] (thenQ (V7_2 K2) (postW P 198 D7 [true, true, true, true, true, false, true, false] b7_0 [([true, true, true, true, true, true, false, true, false], fun e w => E1 e (.tmp 2) fun x2 => E1 e (.tmp 3) fun x3 => E1 e (.tmp 7) fun x7 => Z5 x2 x3 x7 w)] (Q7_0 R))) [(2, some x2), (3, some x3), (6, some x6)] w := by kernel_rfl
theorem q7_4 (x2 x3 x6 : Value) (w : World) (K2 : Value → Value → Value → World → Prop) (R : Value → World → Prop) (h : S7_4 x2 x3 x6 w K2 R) : Runs P 198 (subC [] b7_2) (postC P 198 [] b7_2 (Q7_2 K2 R)) [(2, some x2), (3, some x3), (6, some x6)] w :=
  Wp_use mixed (e7_4 (fun x2 x3 x7 w => S7_5 x2 x3 x7 w R) x2 x3 x6 w K2 R) h (thenQ_le (postW_le mixed _ _ _ _ _ (fun _ _ _ h => h) ⟨(fun e w h => let ⟨y2, h2, h⟩ := E1.elim h; let ⟨y3, h3, h⟩ := E1.elim h; let ⟨y7, h7, h⟩ := E1.elim h; (q7_5 y2 y3 y7 w R h).more (sub_cons h2 (sub_cons h3 (sub_cons h7 (sub_nil))))), trivial⟩)) trivial
theorem q7_3 (x2 x3 x6 : Value) (w : World) (R : Value → World → Prop) (h : S7_3 x2 x3 x6 w R) : Runs P 198 (subC [true, true, true, true, true, false, true, false] b7_0) (postC P 198 [true, true, true, true, true, false, true, false] b7_0 (Q7_0 R)) [(2, some x2), (3, some x3), (6, some x6)] w :=
  Runs.loop (σ := Value × Value × Value) (fun s => [(2, some s.1), (3, some s.2.1), (6, some s.2.2)]) (fun e k => E1 e (.tmp 2) fun x2 => E1 e (.tmp 3) fun x3 => E1 e (.tmp 6) fun x6 => k (x2, x3, x6)) (fun e k h => let ⟨y2, h2, h⟩ := E1.elim h; let ⟨y3, h3, h⟩ := E1.elim h; let ⟨y6, h6, h⟩ := E1.elim h; ⟨(y2, y3, y6), h, (sub_cons h2 (sub_cons h3 (sub_cons h6 (sub_nil))))⟩) (fun s w K h => q7_4 s.1 s.2.1 s.2.2 w (fun x2 x3 x6 w => K (x2, x3, x6) w) R h) h
theorem e7_2 (Z3 : Value → Value → Value → World → Prop) (x2 x3 x5 : Value) (w : World) (K1 : Value → Value → Value → World → Prop) (R : Value → World → Prop) : B7_2 Z3 x2 x3 x5 w K1 R = Wp P 198 D7 [] b7_1 [] (thenQ (V7_1 K1) (postW P 198 D7 [true, true, true, true, false, true, false] b7_0 [([true, true, true, true, true, false, true, false], fun e w => E1 e (.tmp 2) fun x2 => E1 e (.tmp 3) fun x3 => E1 e (.tmp 6) fun x6 => Z3 x2 x3 x6 w)] (Q7_0 R))) [(2, some x2), (3, some x3), (5, some x5)] w := by kernel_rfl
theorem q7_2 (x2 x3 x5 : Value) (w : World) (K1 : Value → Value → Value → World → Prop) (R : Value → World → Prop) (h : S7_2 x2 x3 x5 w K1 R) : Runs P 198 (subC [] b7_1) (postC P 198 [] b7_1 (Q7_1 K1 R)) [(2, some x2), (3, some x3), (5, some x5)] w :=
  Wp_use mixed (e7_2 (fun x2 x3 x6 w => S7_3 x2 x3 x6 w R) x2 x3 x5 w K1 R) h (thenQ_le (postW_le mixed _ _ _ _ _ (fun _ _ _ h => h) ⟨(fun e w h => let ⟨y2, h2, h⟩ := E1.elim h; let ⟨y3, h3, h⟩ := E1.elim h; let ⟨y6, h6, h⟩ := E1.elim h; (q7_3 y2 y3 y6 w R h).more (sub_cons h2 (sub_cons h3 (sub_cons h6 (sub_nil))))), trivial⟩)) trivial
theorem q7_1 (x2 x3 x5 : Value) (w : World) (R : Value → World → Prop) (h : S7_1 x2 x3 x5 w R) : Runs P 198 (subC [true, true, true, true, false, true, false] b7_0) (postC P 198 [true, true, true, true, false, true, false] b7_0 (Q7_0 R)) [(2, some x2), (3, some x3), (5, some x5)] w :=
  Runs.loop (σ := Value × Value × Value) (fun s => [(2, some s.1), (3, some s.2.1), (5, some s.2.2)]) (fun e k => E1 e (.tmp 2) fun x2 => E1 e (.tmp 3) fun x3 => E1 e (.tmp 5) fun x5 => k (x2, x3, x5)) (fun e k h => let ⟨y2, h2, h⟩ := E1.elim h; let ⟨y3, h3, h⟩ := E1.elim h; let ⟨y5, h5, h⟩ := E1.elim h; ⟨(y2, y3, y5), h, (sub_cons h2 (sub_cons h3 (sub_cons h5 (sub_nil))))⟩) (fun s w K h => q7_2 s.1 s.2.1 s.2.2 w (fun x2 x3 x5 w => K (x2, x3, x5) w) R h) h
theorem e7_0 (Z1 : Value → Value → Value → World → Prop) (x0 x1 : Value) (w : World) (R : Value → World → Prop) : B7_0 Z1 x0 x1 w R = Wp P 198 D7 [] b7_0 [([true, true, true, true, false, true, false], fun e w => E1 e (.tmp 2) fun x2 => E1 e (.tmp 3) fun x3 => E1 e (.tmp 5) fun x5 => Z1 x2 x3 x5 w)] (Q7_0 R) [(0, some x0), (1, some x1)] w := by kernel_rfl
theorem q7_0 (x0 x1 : Value) (w : World) (R : Value → World → Prop) (h : S7_0 x0 x1 w R) : Runs P 198 (subC [] b7_0) (postC P 198 [] b7_0 (Q7_0 R)) [(0, some x0), (1, some x1)] w :=
  Wp_use mixed (e7_0 (fun x2 x3 x5 w => S7_1 x2 x3 x5 w R) x0 x1 w R) h (fun _ _ _ h => h) ⟨(fun e w h => let ⟨y2, h2, h⟩ := E1.elim h; let ⟨y3, h3, h⟩ := E1.elim h; let ⟨y5, h5, h⟩ := E1.elim h; (q7_1 y2 y3 y5 w R h).more (sub_cons h2 (sub_cons h3 (sub_cons h5 (sub_nil))))), trivial⟩
theorem c7 (x0 x1 : Value) (w : World) (R : Value → World → Prop) (h : S7_0 x0 x1 w R) : CallF P 7 #[x0, x1] w R :=
  call_of_runs (args := [x0, x1]) (c := b7_0) (by kernel_rfl) func7 rfl (by kernel_rfl) (q7_0 x0 x1 w R h)

end Go.Proofs.YtdgffjkcpbolmaaGreatDoor.X
