/- Shallow forms of Go functions, written by the tool fx.py of this session, each with the proof that the call does what its form says. No condition. -/
import Derived.Test.YtdgffjkcpbolmaaGreatDoorFxP
namespace Go.Proofs.YtdgffjkcpbolmaaGreatDoor.X
open Go Go.RowKit Go.Proofs.Tryz Go.Proofs.YtdgffjkcpbolmaaGreatDoor.Fx
set_option linter.unusedVariables false
set_option linter.constructorNameAsVariable false
set_option maxRecDepth 100000
/-! ### 117 "crier/crierroom.lot" -/
noncomputable abbrev b117_0 : Code := (f117.body).getD .skip
abbrev D117 : Plans := []
abbrev Q117_0 (R : Value → World → Prop) : Post := retQ P f117.results.toList R
def S117_0 (x0 : Value) (w : World) (R : Value → World → Prop) : Prop :=
 XV P (binS .rem 3 true x0 (.int .i64 2)) w fun v4 w1 =>
 XV P (binS .eql 3 true v4 (.int .i64 0)) w1 fun v5 w2 =>
 condW v5 (
  R (.int .i64 (-7701)) w2) (
  R (.int .i64 (-7702)) w2)
theorem e117_0 (x0 : Value) (w : World) (R : Value → World → Prop) : S117_0 x0 w R = Wp P 6 D117 [] b117_0 [] (Q117_0 R) [(0, some x0)] w := by kernel_rfl
theorem q117_0 (x0 : Value) (w : World) (R : Value → World → Prop) (h : S117_0 x0 w R) : Runs P 6 (subC [] b117_0) (postC P 6 [] b117_0 (Q117_0 R)) [(0, some x0)] w :=
  Wp_use mixed (e117_0 x0 w R) h (fun _ _ _ h => h) trivial
theorem c117 (x0 : Value) (w : World) (R : Value → World → Prop) (h : S117_0 x0 w R) : CallF P 117 #[x0] w R :=
  call_of_runs (args := [x0]) (c := b117_0) (by kernel_rfl) func117 rfl (by kernel_rfl) (q117_0 x0 w R h)

/-! ### 118 "crier/crierroom.word" -/
noncomputable abbrev b118_0 : Code := (f118.body).getD .skip
abbrev D118 : Plans := []
abbrev Q118_0 (R : Value → World → Prop) : Post := retQ P f118.results.toList R
def S118_0 (x0 : Value) (w : World) (R : Value → World → Prop) : Prop :=
 XV P (binS .rem 3 true x0 (.int .i64 2)) w fun v4 w1 =>
 XV P (binS .eql 3 true v4 (.int .i64 0)) w1 fun v5 w2 =>
 condW v5 (
  R (.string { data := #[60, 111, 110, 101, 62] }) w2) (
  R (.string { data := #[60, 116, 119, 111, 62] }) w2)
theorem e118_0 (x0 : Value) (w : World) (R : Value → World → Prop) : S118_0 x0 w R = Wp P 6 D118 [] b118_0 [] (Q118_0 R) [(0, some x0)] w := by kernel_rfl
theorem q118_0 (x0 : Value) (w : World) (R : Value → World → Prop) (h : S118_0 x0 w R) : Runs P 6 (subC [] b118_0) (postC P 6 [] b118_0 (Q118_0 R)) [(0, some x0)] w :=
  Wp_use mixed (e118_0 x0 w R) h (fun _ _ _ h => h) trivial
theorem c118 (x0 : Value) (w : World) (R : Value → World → Prop) (h : S118_0 x0 w R) : CallF P 118 #[x0] w R :=
  call_of_runs (args := [x0]) (c := b118_0) (by kernel_rfl) func118 rfl (by kernel_rfl) (q118_0 x0 w R h)

/-! ### 89 "(*crier/crierroom.Room).layBytes" -/
noncomputable abbrev b89_0 : Code := (f89.body).getD .skip
abbrev D89 : Plans := []
abbrev Q89_0 (R : Value → World → Prop) : Post := retQ P f89.results.toList R
def S89_2 (x0 x1 x2 x7 x8 : Value) (w : World) (K1 : Value → Value → Value → Value → Value → World → Prop) (R : Value → World → Prop) : Prop :=
 XV P (binS .lss 3 false x8 x2) w fun v15 w1 =>
 condW v15 (
  CallF P 117 #[x8] w1 fun v20 w2 =>
  XV P (convert 3 5 v20) w2 fun v21 w3 =>
  XV P (Instr.buildSlice 22 1 #[(0, v21)]) w3 fun v22 w4 =>
  XV P (Builtin.append_ #[22, 22] 22 #[x7, v22]) w4 fun v23 w5 =>
  XV P (binS .add 3 true x8 (.int .i64 1)) w5 fun v17 w6 =>
  K1 x0 x1 x2 v23 v17 w6) (
  LF P 51 33 0 x0 w1 fun v28 w9 =>
  XV P (Instr.buildSlice 33 1 #[(0, x7)]) w9 fun v30 w10 =>
  XV P (Builtin.append_ #[33, 33] 33 #[v28, v30]) w10 fun v31 w11 =>
  SF P 51 33 0 x0 v31 w11 fun w14 =>
  LF P 51 26 1 x0 w14 fun v38 w17 =>
  XV P (Builtin.len_ #[22] 3 #[x1]) w17 fun v40 w18 =>
  XV P (Instr.buildSlice 26 1 #[(0, v40)]) w18 fun v41 w19 =>
  XV P (Builtin.append_ #[26, 26] 26 #[v38, v41]) w19 fun v42 w20 =>
  SF P 51 26 1 x0 v42 w20 fun w23 =>
  XV P (Builtin.len_ #[22] 3 #[x1]) w23 fun v47 w24 =>
  XV P (Builtin.len_ #[22] 3 #[x7]) w24 fun v49 w25 =>
  XV P (Instr.sliceAt 22 x7 none (some v47) (some v49)) w25 fun v50 w26 =>
  R v50 w26)
def S89_1 (x0 x1 x2 x7 x8 : Value) (w : World) (R : Value → World → Prop) : Prop :=
 LoopP (fun (s : Value × Value × Value × Value × Value) w K => S89_2 s.1 s.2.1 s.2.2.1 s.2.2.2.1 s.2.2.2.2 w (fun x0 x1 x2 x7 x8 w => K (x0, x1, x2, x7, x8) w) R) (x0, x1, x2, x7, x8) w
def B89_0 (Z1 : Value → Value → Value → Value → Value → World → Prop) (x0 x1 x2 : Value) (w : World) (R : Value → World → Prop) : Prop :=
 XV P (Instr.buildSlice 22 0 #[]) w fun v9 w1 =>
 XV P (Builtin.append_ #[22, 22] 22 #[v9, x1]) w1 fun v12 w2 =>
 Z1 x0 x1 x2 v12 (.int .i64 0) w2
def S89_0 (x0 x1 x2 : Value) (w : World) (R : Value → World → Prop) : Prop := B89_0 (fun x0 x1 x2 x7 x8 w => S89_1 x0 x1 x2 x7 x8 w R) x0 x1 x2 w R
noncomputable abbrev b89_1 : Code := match subC [true, true, true, false, true, false] b89_0 with | .loop x => x | _ => .skip
abbrev V89_1 (K : Value → Value → Value → Value → Value → World → Prop) (e : Env) (w : World) : Prop := E1 e (.tmp 0) fun x0 => E1 e (.tmp 1) fun x1 => E1 e (.tmp 2) fun x2 => E1 e (.tmp 7) fun x7 => E1 e (.tmp 8) fun x8 => K x0 x1 x2 x7 x8 w
abbrev Q89_1 (K1 : Value → Value → Value → Value → Value → World → Prop) (R : Value → World → Prop) : Post := thenQ (V89_1 K1) (postC P 51 [true, true, true, false, true, false] b89_0 (Q89_0 R))
theorem e89_2 (x0 x1 x2 x7 x8 : Value) (w : World) (K1 : Value → Value → Value → Value → Value → World → Prop) (R : Value → World → Prop) : S89_2 x0 x1 x2 x7 x8 w K1 R = Wp P 51 D89 [] b89_1 [] (thenQ (V89_1 K1) (postW P 51 D89 [true, true, true, false, true, false] b89_0 [] (Q89_0 R))) [(0, some x0), (1, some x1), (2, some x2), (7, some x7), (8, some x8)] w := by kernel_rfl
theorem q89_2 (x0 x1 x2 x7 x8 : Value) (w : World) (K1 : Value → Value → Value → Value → Value → World → Prop) (R : Value → World → Prop) (h : S89_2 x0 x1 x2 x7 x8 w K1 R) : Runs P 51 (subC [] b89_1) (postC P 51 [] b89_1 (Q89_1 K1 R)) [(0, some x0), (1, some x1), (2, some x2), (7, some x7), (8, some x8)] w :=
  Wp_use mixed (e89_2 x0 x1 x2 x7 x8 w K1 R) h (thenQ_le (postW_le mixed _ _ _ _ _ (fun _ _ _ h => h) trivial)) trivial
theorem q89_1 (x0 x1 x2 x7 x8 : Value) (w : World) (R : Value → World → Prop) (h : S89_1 x0 x1 x2 x7 x8 w R) : Runs P 51 (subC [true, true, true, false, true, false] b89_0) (postC P 51 [true, true, true, false, true, false] b89_0 (Q89_0 R)) [(0, some x0), (1, some x1), (2, some x2), (7, some x7), (8, some x8)] w :=
  Runs.loop (σ := Value × Value × Value × Value × Value) (fun s => [(0, some s.1), (1, some s.2.1), (2, some s.2.2.1), (7, some s.2.2.2.1), (8, some s.2.2.2.2)]) (fun e k => E1 e (.tmp 0) fun x0 => E1 e (.tmp 1) fun x1 => E1 e (.tmp 2) fun x2 => E1 e (.tmp 7) fun x7 => E1 e (.tmp 8) fun x8 => k (x0, x1, x2, x7, x8)) (fun e k h => let ⟨y0, h0, h⟩ := E1.elim h; let ⟨y1, h1, h⟩ := E1.elim h; let ⟨y2, h2, h⟩ := E1.elim h; let ⟨y7, h7, h⟩ := E1.elim h; let ⟨y8, h8, h⟩ := E1.elim h; ⟨(y0, y1, y2, y7, y8), h, (sub_cons h0 (sub_cons h1 (sub_cons h2 (sub_cons h7 (sub_cons h8 (sub_nil))))))⟩) (fun s w K h => q89_2 s.1 s.2.1 s.2.2.1 s.2.2.2.1 s.2.2.2.2 w (fun x0 x1 x2 x7 x8 w => K (x0, x1, x2, x7, x8) w) R h) h
theorem e89_0 (Z1 : Value → Value → Value → Value → Value → World → Prop) (x0 x1 x2 : Value) (w : World) (R : Value → World → Prop) : B89_0 Z1 x0 x1 x2 w R = Wp P 51 D89 [] b89_0 [([true, true, true, false, true, false], fun e w => E1 e (.tmp 0) fun x0 => E1 e (.tmp 1) fun x1 => E1 e (.tmp 2) fun x2 => E1 e (.tmp 7) fun x7 => E1 e (.tmp 8) fun x8 => Z1 x0 x1 x2 x7 x8 w)] (Q89_0 R) [(0, some x0), (1, some x1), (2, some x2)] w := by kernel_rfl
theorem q89_0 (x0 x1 x2 : Value) (w : World) (R : Value → World → Prop) (h : S89_0 x0 x1 x2 w R) : Runs P 51 (subC [] b89_0) (postC P 51 [] b89_0 (Q89_0 R)) [(0, some x0), (1, some x1), (2, some x2)] w :=
  Wp_use mixed (e89_0 (fun x0 x1 x2 x7 x8 w => S89_1 x0 x1 x2 x7 x8 w R) x0 x1 x2 w R) h (fun _ _ _ h => h) ⟨(fun e w h => let ⟨y0, h0, h⟩ := E1.elim h; let ⟨y1, h1, h⟩ := E1.elim h; let ⟨y2, h2, h⟩ := E1.elim h; let ⟨y7, h7, h⟩ := E1.elim h; let ⟨y8, h8, h⟩ := E1.elim h; (q89_1 y0 y1 y2 y7 y8 w R h).more (sub_cons h0 (sub_cons h1 (sub_cons h2 (sub_cons h7 (sub_cons h8 (sub_nil))))))), trivial⟩
theorem c89 (x0 x1 x2 : Value) (w : World) (R : Value → World → Prop) (h : S89_0 x0 x1 x2 w R) : CallF P 89 #[x0, x1, x2] w R :=
  call_of_runs (args := [x0, x1, x2]) (c := b89_0) (by kernel_rfl) func89 rfl (by kernel_rfl) (q89_0 x0 x1 x2 w R h)

/-! ### 27 "(*crier/crierroom.Room).Bytes" -/
noncomputable abbrev b27_0 : Code := (f27.body).getD .skip
abbrev D27 : Plans := []
abbrev Q27_0 (R : Value → World → Prop) : Post := retQ P f27.results.toList R
def S27_0 (x0 x1 : Value) (w : World) (R : Value → World → Prop) : Prop :=
 CallF P 89 #[x0, x1, (.int .i64 600)] w fun v7 w1 =>
 R v7 w1
theorem e27_0 (x0 x1 : Value) (w : World) (R : Value → World → Prop) : S27_0 x0 x1 w R = Wp P 8 D27 [] b27_0 [] (Q27_0 R) [(0, some x0), (1, some x1)] w := by kernel_rfl
theorem q27_0 (x0 x1 : Value) (w : World) (R : Value → World → Prop) (h : S27_0 x0 x1 w R) : Runs P 8 (subC [] b27_0) (postC P 8 [] b27_0 (Q27_0 R)) [(0, some x0), (1, some x1)] w :=
  Wp_use mixed (e27_0 x0 x1 w R) h (fun _ _ _ h => h) trivial
theorem c27 (x0 x1 : Value) (w : World) (R : Value → World → Prop) (h : S27_0 x0 x1 w R) : CallF P 27 #[x0, x1] w R :=
  call_of_runs (args := [x0, x1]) (c := b27_0) (by kernel_rfl) func27 rfl (by kernel_rfl) (q27_0 x0 x1 w R h)

/-! ### 26 "(*crier/crierroom.Room).Message" -/
noncomputable abbrev b26_0 : Code := (f26.body).getD .skip
abbrev D26 : Plans := []
abbrev Q26_0 (R : Value → World → Prop) : Post := retQ P f26.results.toList R
def S26_0 (x0 x1 : Value) (w : World) (R : Value → World → Prop) : Prop :=
 XV P (Instr.box 24 x1) w fun v3 w1 =>
 XV P (Instr.alloc 24 true (.tuple #[])) w1 fun v4 w2 =>
 LB P 24 22 1 v3 w2 fun v7 w4 =>
 CallF P 27 #[x0, v7] w4 fun v8 w5 =>
 SB P 24 22 1 v3 v8 w5 fun w7 =>
 XV P (Instr.loadAt 24 v3) w7 fun v10 w8 =>
 XU P (Instr.storeAt 24 v4 v10) w8 fun w9 =>
 ∃ v4_1, (do loadVar 24 (← asAddr v4) : Sem Value).run P w9 = .ok v4_1 w9 ∧ R v4_1 w9
theorem e26_0 (x0 x1 : Value) (w : World) (R : Value → World → Prop) : S26_0 x0 x1 w R = Wp P 11 D26 [] b26_0 [] (Q26_0 R) [(0, some x0), (1, some x1)] w := by kernel_rfl
theorem q26_0 (x0 x1 : Value) (w : World) (R : Value → World → Prop) (h : S26_0 x0 x1 w R) : Runs P 11 (subC [] b26_0) (postC P 11 [] b26_0 (Q26_0 R)) [(0, some x0), (1, some x1)] w :=
  Wp_use mixed (e26_0 x0 x1 w R) h (fun _ _ _ h => h) trivial
theorem c26 (x0 x1 : Value) (w : World) (R : Value → World → Prop) (h : S26_0 x0 x1 w R) : CallF P 26 #[x0, x1] w R :=
  call_of_runs (args := [x0, x1]) (c := b26_0) (by kernel_rfl) func26 rfl (by kernel_rfl) (q26_0 x0 x1 w R h)

/-! ### 90 "(*crier/crierroom.Room).layAsks" -/
noncomputable abbrev b90_0 : Code := (f90.body).getD .skip
abbrev D90 : Plans := []
abbrev Q90_0 (R : Value → World → Prop) : Post := retQ P f90.results.toList R
def S90_2 (x0 x1 x2 x7 x8 : Value) (w : World) (K1 : Value → Value → Value → Value → Value → World → Prop) (R : Value → World → Prop) : Prop :=
 XV P (binS .lss 3 false x8 x2) w fun v15 w1 =>
 condW v15 (
  CallF P 118 #[x8] w1 fun v20 w2 =>
  XV P (Instr.build 73 #[(0, v20)]) w2 fun v21 w3 =>
  XV P (Instr.buildSlice 25 1 #[(0, v21)]) w3 fun v22 w4 =>
  XV P (Builtin.append_ #[25, 25] 25 #[x7, v22]) w4 fun v23 w5 =>
  XV P (binS .add 3 true x8 (.int .i64 1)) w5 fun v17 w6 =>
  K1 x0 x1 x2 v23 v17 w6) (
  LF P 51 36 6 x0 w1 fun v28 w9 =>
  XV P (Instr.buildSlice 36 1 #[(0, x7)]) w9 fun v30 w10 =>
  XV P (Builtin.append_ #[36, 36] 36 #[v28, v30]) w10 fun v31 w11 =>
  SF P 51 36 6 x0 v31 w11 fun w14 =>
  LF P 51 26 7 x0 w14 fun v38 w17 =>
  XV P (Builtin.len_ #[25] 3 #[x1]) w17 fun v40 w18 =>
  XV P (Instr.buildSlice 26 1 #[(0, v40)]) w18 fun v41 w19 =>
  XV P (Builtin.append_ #[26, 26] 26 #[v38, v41]) w19 fun v42 w20 =>
  SF P 51 26 7 x0 v42 w20 fun w23 =>
  XV P (Builtin.len_ #[25] 3 #[x1]) w23 fun v47 w24 =>
  XV P (Builtin.len_ #[25] 3 #[x7]) w24 fun v49 w25 =>
  XV P (Instr.sliceAt 25 x7 none (some v47) (some v49)) w25 fun v50 w26 =>
  R v50 w26)
def S90_1 (x0 x1 x2 x7 x8 : Value) (w : World) (R : Value → World → Prop) : Prop :=
 LoopP (fun (s : Value × Value × Value × Value × Value) w K => S90_2 s.1 s.2.1 s.2.2.1 s.2.2.2.1 s.2.2.2.2 w (fun x0 x1 x2 x7 x8 w => K (x0, x1, x2, x7, x8) w) R) (x0, x1, x2, x7, x8) w
def B90_0 (Z1 : Value → Value → Value → Value → Value → World → Prop) (x0 x1 x2 : Value) (w : World) (R : Value → World → Prop) : Prop :=
 XV P (Instr.buildSlice 25 0 #[]) w fun v9 w1 =>
 XV P (Builtin.append_ #[25, 25] 25 #[v9, x1]) w1 fun v12 w2 =>
 Z1 x0 x1 x2 v12 (.int .i64 0) w2
def S90_0 (x0 x1 x2 : Value) (w : World) (R : Value → World → Prop) : Prop := B90_0 (fun x0 x1 x2 x7 x8 w => S90_1 x0 x1 x2 x7 x8 w R) x0 x1 x2 w R
noncomputable abbrev b90_1 : Code := match subC [true, true, true, false, true, false] b90_0 with | .loop x => x | _ => .skip
abbrev V90_1 (K : Value → Value → Value → Value → Value → World → Prop) (e : Env) (w : World) : Prop := E1 e (.tmp 0) fun x0 => E1 e (.tmp 1) fun x1 => E1 e (.tmp 2) fun x2 => E1 e (.tmp 7) fun x7 => E1 e (.tmp 8) fun x8 => K x0 x1 x2 x7 x8 w
abbrev Q90_1 (K1 : Value → Value → Value → Value → Value → World → Prop) (R : Value → World → Prop) : Post := thenQ (V90_1 K1) (postC P 51 [true, true, true, false, true, false] b90_0 (Q90_0 R))
theorem e90_2 (x0 x1 x2 x7 x8 : Value) (w : World) (K1 : Value → Value → Value → Value → Value → World → Prop) (R : Value → World → Prop) : S90_2 x0 x1 x2 x7 x8 w K1 R = Wp P 51 D90 [] b90_1 [] (thenQ (V90_1 K1) (postW P 51 D90 [true, true, true, false, true, false] b90_0 [] (Q90_0 R))) [(0, some x0), (1, some x1), (2, some x2), (7, some x7), (8, some x8)] w := by kernel_rfl
theorem q90_2 (x0 x1 x2 x7 x8 : Value) (w : World) (K1 : Value → Value → Value → Value → Value → World → Prop) (R : Value → World → Prop) (h : S90_2 x0 x1 x2 x7 x8 w K1 R) : Runs P 51 (subC [] b90_1) (postC P 51 [] b90_1 (Q90_1 K1 R)) [(0, some x0), (1, some x1), (2, some x2), (7, some x7), (8, some x8)] w :=
  Wp_use mixed (e90_2 x0 x1 x2 x7 x8 w K1 R) h (thenQ_le (postW_le mixed _ _ _ _ _ (fun _ _ _ h => h) trivial)) trivial
theorem q90_1 (x0 x1 x2 x7 x8 : Value) (w : World) (R : Value → World → Prop) (h : S90_1 x0 x1 x2 x7 x8 w R) : Runs P 51 (subC [true, true, true, false, true, false] b90_0) (postC P 51 [true, true, true, false, true, false] b90_0 (Q90_0 R)) [(0, some x0), (1, some x1), (2, some x2), (7, some x7), (8, some x8)] w :=
  Runs.loop (σ := Value × Value × Value × Value × Value) (fun s => [(0, some s.1), (1, some s.2.1), (2, some s.2.2.1), (7, some s.2.2.2.1), (8, some s.2.2.2.2)]) (fun e k => E1 e (.tmp 0) fun x0 => E1 e (.tmp 1) fun x1 => E1 e (.tmp 2) fun x2 => E1 e (.tmp 7) fun x7 => E1 e (.tmp 8) fun x8 => k (x0, x1, x2, x7, x8)) (fun e k h => let ⟨y0, h0, h⟩ := E1.elim h; let ⟨y1, h1, h⟩ := E1.elim h; let ⟨y2, h2, h⟩ := E1.elim h; let ⟨y7, h7, h⟩ := E1.elim h; let ⟨y8, h8, h⟩ := E1.elim h; ⟨(y0, y1, y2, y7, y8), h, (sub_cons h0 (sub_cons h1 (sub_cons h2 (sub_cons h7 (sub_cons h8 (sub_nil))))))⟩) (fun s w K h => q90_2 s.1 s.2.1 s.2.2.1 s.2.2.2.1 s.2.2.2.2 w (fun x0 x1 x2 x7 x8 w => K (x0, x1, x2, x7, x8) w) R h) h
theorem e90_0 (Z1 : Value → Value → Value → Value → Value → World → Prop) (x0 x1 x2 : Value) (w : World) (R : Value → World → Prop) : B90_0 Z1 x0 x1 x2 w R = Wp P 51 D90 [] b90_0 [([true, true, true, false, true, false], fun e w => E1 e (.tmp 0) fun x0 => E1 e (.tmp 1) fun x1 => E1 e (.tmp 2) fun x2 => E1 e (.tmp 7) fun x7 => E1 e (.tmp 8) fun x8 => Z1 x0 x1 x2 x7 x8 w)] (Q90_0 R) [(0, some x0), (1, some x1), (2, some x2)] w := by kernel_rfl
theorem q90_0 (x0 x1 x2 : Value) (w : World) (R : Value → World → Prop) (h : S90_0 x0 x1 x2 w R) : Runs P 51 (subC [] b90_0) (postC P 51 [] b90_0 (Q90_0 R)) [(0, some x0), (1, some x1), (2, some x2)] w :=
  Wp_use mixed (e90_0 (fun x0 x1 x2 x7 x8 w => S90_1 x0 x1 x2 x7 x8 w R) x0 x1 x2 w R) h (fun _ _ _ h => h) ⟨(fun e w h => let ⟨y0, h0, h⟩ := E1.elim h; let ⟨y1, h1, h⟩ := E1.elim h; let ⟨y2, h2, h⟩ := E1.elim h; let ⟨y7, h7, h⟩ := E1.elim h; let ⟨y8, h8, h⟩ := E1.elim h; (q90_1 y0 y1 y2 y7 y8 w R h).more (sub_cons h0 (sub_cons h1 (sub_cons h2 (sub_cons h7 (sub_cons h8 (sub_nil))))))), trivial⟩
theorem c90 (x0 x1 x2 : Value) (w : World) (R : Value → World → Prop) (h : S90_0 x0 x1 x2 w R) : CallF P 90 #[x0, x1, x2] w R :=
  call_of_runs (args := [x0, x1, x2]) (c := b90_0) (by kernel_rfl) func90 rfl (by kernel_rfl) (q90_0 x0 x1 x2 w R h)

/-! ### 28 "(*crier/crierroom.Room).Asks" -/
noncomputable abbrev b28_0 : Code := (f28.body).getD .skip
abbrev D28 : Plans := []
abbrev Q28_0 (R : Value → World → Prop) : Post := retQ P f28.results.toList R
def S28_0 (x0 x1 : Value) (w : World) (R : Value → World → Prop) : Prop :=
 CallF P 90 #[x0, x1, (.int .i64 40)] w fun v7 w1 =>
 R v7 w1
theorem e28_0 (x0 x1 : Value) (w : World) (R : Value → World → Prop) : S28_0 x0 x1 w R = Wp P 8 D28 [] b28_0 [] (Q28_0 R) [(0, some x0), (1, some x1)] w := by kernel_rfl
theorem q28_0 (x0 x1 : Value) (w : World) (R : Value → World → Prop) (h : S28_0 x0 x1 w R) : Runs P 8 (subC [] b28_0) (postC P 8 [] b28_0 (Q28_0 R)) [(0, some x0), (1, some x1)] w :=
  Wp_use mixed (e28_0 x0 x1 w R) h (fun _ _ _ h => h) trivial
theorem c28 (x0 x1 : Value) (w : World) (R : Value → World → Prop) (h : S28_0 x0 x1 w R) : CallF P 28 #[x0, x1] w R :=
  call_of_runs (args := [x0, x1]) (c := b28_0) (by kernel_rfl) func28 rfl (by kernel_rfl) (q28_0 x0 x1 w R h)

/-! ### 91 "(*crier/crierroom.Room).layInts" -/
noncomputable abbrev b91_0 : Code := (f91.body).getD .skip
abbrev D91 : Plans := []
abbrev Q91_0 (R : Value → World → Prop) : Post := retQ P f91.results.toList R
def S91_2 (x0 x1 x2 x7 x8 : Value) (w : World) (K1 : Value → Value → Value → Value → Value → World → Prop) (R : Value → World → Prop) : Prop :=
 XV P (binS .lss 3 false x8 x2) w fun v15 w1 =>
 condW v15 (
  CallF P 117 #[x8] w1 fun v20 w2 =>
  XV P (Instr.buildSlice 26 1 #[(0, v20)]) w2 fun v21 w3 =>
  XV P (Builtin.append_ #[26, 26] 26 #[x7, v21]) w3 fun v22 w4 =>
  XV P (binS .add 3 true x8 (.int .i64 1)) w4 fun v17 w5 =>
  K1 x0 x1 x2 v22 v17 w5) (
  LF P 51 34 2 x0 w1 fun v27 w8 =>
  XV P (Instr.buildSlice 34 1 #[(0, x7)]) w8 fun v29 w9 =>
  XV P (Builtin.append_ #[34, 34] 34 #[v27, v29]) w9 fun v30 w10 =>
  SF P 51 34 2 x0 v30 w10 fun w13 =>
  LF P 51 26 3 x0 w13 fun v37 w16 =>
  XV P (Builtin.len_ #[26] 3 #[x1]) w16 fun v39 w17 =>
  XV P (Instr.buildSlice 26 1 #[(0, v39)]) w17 fun v40 w18 =>
  XV P (Builtin.append_ #[26, 26] 26 #[v37, v40]) w18 fun v41 w19 =>
  SF P 51 26 3 x0 v41 w19 fun w22 =>
  XV P (Builtin.len_ #[26] 3 #[x1]) w22 fun v46 w23 =>
  XV P (Builtin.len_ #[26] 3 #[x7]) w23 fun v48 w24 =>
  XV P (Instr.sliceAt 26 x7 none (some v46) (some v48)) w24 fun v49 w25 =>
  R v49 w25)
def S91_1 (x0 x1 x2 x7 x8 : Value) (w : World) (R : Value → World → Prop) : Prop :=
 LoopP (fun (s : Value × Value × Value × Value × Value) w K => S91_2 s.1 s.2.1 s.2.2.1 s.2.2.2.1 s.2.2.2.2 w (fun x0 x1 x2 x7 x8 w => K (x0, x1, x2, x7, x8) w) R) (x0, x1, x2, x7, x8) w
def B91_0 (Z1 : Value → Value → Value → Value → Value → World → Prop) (x0 x1 x2 : Value) (w : World) (R : Value → World → Prop) : Prop :=
 XV P (Instr.buildSlice 26 0 #[]) w fun v9 w1 =>
 XV P (Builtin.append_ #[26, 26] 26 #[v9, x1]) w1 fun v12 w2 =>
 Z1 x0 x1 x2 v12 (.int .i64 0) w2
def S91_0 (x0 x1 x2 : Value) (w : World) (R : Value → World → Prop) : Prop := B91_0 (fun x0 x1 x2 x7 x8 w => S91_1 x0 x1 x2 x7 x8 w R) x0 x1 x2 w R
noncomputable abbrev b91_1 : Code := match subC [true, true, true, false, true, false] b91_0 with | .loop x => x | _ => .skip
abbrev V91_1 (K : Value → Value → Value → Value → Value → World → Prop) (e : Env) (w : World) : Prop := E1 e (.tmp 0) fun x0 => E1 e (.tmp 1) fun x1 => E1 e (.tmp 2) fun x2 => E1 e (.tmp 7) fun x7 => E1 e (.tmp 8) fun x8 => K x0 x1 x2 x7 x8 w
abbrev Q91_1 (K1 : Value → Value → Value → Value → Value → World → Prop) (R : Value → World → Prop) : Post := thenQ (V91_1 K1) (postC P 50 [true, true, true, false, true, false] b91_0 (Q91_0 R))
theorem e91_2 (x0 x1 x2 x7 x8 : Value) (w : World) (K1 : Value → Value → Value → Value → Value → World → Prop) (R : Value → World → Prop) : S91_2 x0 x1 x2 x7 x8 w K1 R = Wp P 50 D91 [] b91_1 [] (thenQ (V91_1 K1) (postW P 50 D91 [true, true, true, false, true, false] b91_0 [] (Q91_0 R))) [(0, some x0), (1, some x1), (2, some x2), (7, some x7), (8, some x8)] w := by kernel_rfl
theorem q91_2 (x0 x1 x2 x7 x8 : Value) (w : World) (K1 : Value → Value → Value → Value → Value → World → Prop) (R : Value → World → Prop) (h : S91_2 x0 x1 x2 x7 x8 w K1 R) : Runs P 50 (subC [] b91_1) (postC P 50 [] b91_1 (Q91_1 K1 R)) [(0, some x0), (1, some x1), (2, some x2), (7, some x7), (8, some x8)] w :=
  Wp_use mixed (e91_2 x0 x1 x2 x7 x8 w K1 R) h (thenQ_le (postW_le mixed _ _ _ _ _ (fun _ _ _ h => h) trivial)) trivial
theorem q91_1 (x0 x1 x2 x7 x8 : Value) (w : World) (R : Value → World → Prop) (h : S91_1 x0 x1 x2 x7 x8 w R) : Runs P 50 (subC [true, true, true, false, true, false] b91_0) (postC P 50 [true, true, true, false, true, false] b91_0 (Q91_0 R)) [(0, some x0), (1, some x1), (2, some x2), (7, some x7), (8, some x8)] w :=
  Runs.loop (σ := Value × Value × Value × Value × Value) (fun s => [(0, some s.1), (1, some s.2.1), (2, some s.2.2.1), (7, some s.2.2.2.1), (8, some s.2.2.2.2)]) (fun e k => E1 e (.tmp 0) fun x0 => E1 e (.tmp 1) fun x1 => E1 e (.tmp 2) fun x2 => E1 e (.tmp 7) fun x7 => E1 e (.tmp 8) fun x8 => k (x0, x1, x2, x7, x8)) (fun e k h => let ⟨y0, h0, h⟩ := E1.elim h; let ⟨y1, h1, h⟩ := E1.elim h; let ⟨y2, h2, h⟩ := E1.elim h; let ⟨y7, h7, h⟩ := E1.elim h; let ⟨y8, h8, h⟩ := E1.elim h; ⟨(y0, y1, y2, y7, y8), h, (sub_cons h0 (sub_cons h1 (sub_cons h2 (sub_cons h7 (sub_cons h8 (sub_nil))))))⟩) (fun s w K h => q91_2 s.1 s.2.1 s.2.2.1 s.2.2.2.1 s.2.2.2.2 w (fun x0 x1 x2 x7 x8 w => K (x0, x1, x2, x7, x8) w) R h) h
theorem e91_0 (Z1 : Value → Value → Value → Value → Value → World → Prop) (x0 x1 x2 : Value) (w : World) (R : Value → World → Prop) : B91_0 Z1 x0 x1 x2 w R = Wp P 50 D91 [] b91_0 [([true, true, true, false, true, false], fun e w => E1 e (.tmp 0) fun x0 => E1 e (.tmp 1) fun x1 => E1 e (.tmp 2) fun x2 => E1 e (.tmp 7) fun x7 => E1 e (.tmp 8) fun x8 => Z1 x0 x1 x2 x7 x8 w)] (Q91_0 R) [(0, some x0), (1, some x1), (2, some x2)] w := by kernel_rfl
theorem q91_0 (x0 x1 x2 : Value) (w : World) (R : Value → World → Prop) (h : S91_0 x0 x1 x2 w R) : Runs P 50 (subC [] b91_0) (postC P 50 [] b91_0 (Q91_0 R)) [(0, some x0), (1, some x1), (2, some x2)] w :=
  Wp_use mixed (e91_0 (fun x0 x1 x2 x7 x8 w => S91_1 x0 x1 x2 x7 x8 w R) x0 x1 x2 w R) h (fun _ _ _ h => h) ⟨(fun e w h => let ⟨y0, h0, h⟩ := E1.elim h; let ⟨y1, h1, h⟩ := E1.elim h; let ⟨y2, h2, h⟩ := E1.elim h; let ⟨y7, h7, h⟩ := E1.elim h; let ⟨y8, h8, h⟩ := E1.elim h; (q91_1 y0 y1 y2 y7 y8 w R h).more (sub_cons h0 (sub_cons h1 (sub_cons h2 (sub_cons h7 (sub_cons h8 (sub_nil))))))), trivial⟩
theorem c91 (x0 x1 x2 : Value) (w : World) (R : Value → World → Prop) (h : S91_0 x0 x1 x2 w R) : CallF P 91 #[x0, x1, x2] w R :=
  call_of_runs (args := [x0, x1, x2]) (c := b91_0) (by kernel_rfl) func91 rfl (by kernel_rfl) (q91_0 x0 x1 x2 w R h)

/-! ### 29 "(*crier/crierroom.Room).Ints" -/
noncomputable abbrev b29_0 : Code := (f29.body).getD .skip
abbrev D29 : Plans := []
abbrev Q29_0 (R : Value → World → Prop) : Post := retQ P f29.results.toList R
def S29_0 (x0 x1 : Value) (w : World) (R : Value → World → Prop) : Prop :=
 CallF P 91 #[x0, x1, (.int .i64 40)] w fun v7 w1 =>
 R v7 w1
theorem e29_0 (x0 x1 : Value) (w : World) (R : Value → World → Prop) : S29_0 x0 x1 w R = Wp P 8 D29 [] b29_0 [] (Q29_0 R) [(0, some x0), (1, some x1)] w := by kernel_rfl
theorem q29_0 (x0 x1 : Value) (w : World) (R : Value → World → Prop) (h : S29_0 x0 x1 w R) : Runs P 8 (subC [] b29_0) (postC P 8 [] b29_0 (Q29_0 R)) [(0, some x0), (1, some x1)] w :=
  Wp_use mixed (e29_0 x0 x1 w R) h (fun _ _ _ h => h) trivial
theorem c29 (x0 x1 : Value) (w : World) (R : Value → World → Prop) (h : S29_0 x0 x1 w R) : CallF P 29 #[x0, x1] w R :=
  call_of_runs (args := [x0, x1]) (c := b29_0) (by kernel_rfl) func29 rfl (by kernel_rfl) (q29_0 x0 x1 w R h)

/-! ### 92 "(*crier/crierroom.Room).layTexts" -/
noncomputable abbrev b92_0 : Code := (f92.body).getD .skip
abbrev D92 : Plans := []
abbrev Q92_0 (R : Value → World → Prop) : Post := retQ P f92.results.toList R
def S92_2 (x0 x1 x2 x7 x8 : Value) (w : World) (K1 : Value → Value → Value → Value → Value → World → Prop) (R : Value → World → Prop) : Prop :=
 XV P (binS .lss 3 false x8 x2) w fun v15 w1 =>
 condW v15 (
  CallF P 118 #[x8] w1 fun v20 w2 =>
  XV P (Instr.buildSlice 27 1 #[(0, v20)]) w2 fun v21 w3 =>
  XV P (Builtin.append_ #[27, 27] 27 #[x7, v21]) w3 fun v22 w4 =>
  XV P (binS .add 3 true x8 (.int .i64 1)) w4 fun v17 w5 =>
  K1 x0 x1 x2 v22 v17 w5) (
  LF P 51 35 4 x0 w1 fun v27 w8 =>
  XV P (Instr.buildSlice 35 1 #[(0, x7)]) w8 fun v29 w9 =>
  XV P (Builtin.append_ #[35, 35] 35 #[v27, v29]) w9 fun v30 w10 =>
  SF P 51 35 4 x0 v30 w10 fun w13 =>
  LF P 51 26 5 x0 w13 fun v37 w16 =>
  XV P (Builtin.len_ #[27] 3 #[x1]) w16 fun v39 w17 =>
  XV P (Instr.buildSlice 26 1 #[(0, v39)]) w17 fun v40 w18 =>
  XV P (Builtin.append_ #[26, 26] 26 #[v37, v40]) w18 fun v41 w19 =>
  SF P 51 26 5 x0 v41 w19 fun w22 =>
  XV P (Builtin.len_ #[27] 3 #[x1]) w22 fun v46 w23 =>
  XV P (Builtin.len_ #[27] 3 #[x7]) w23 fun v48 w24 =>
  XV P (Instr.sliceAt 27 x7 none (some v46) (some v48)) w24 fun v49 w25 =>
  R v49 w25)
def S92_1 (x0 x1 x2 x7 x8 : Value) (w : World) (R : Value → World → Prop) : Prop :=
 LoopP (fun (s : Value × Value × Value × Value × Value) w K => S92_2 s.1 s.2.1 s.2.2.1 s.2.2.2.1 s.2.2.2.2 w (fun x0 x1 x2 x7 x8 w => K (x0, x1, x2, x7, x8) w) R) (x0, x1, x2, x7, x8) w
def B92_0 (Z1 : Value → Value → Value → Value → Value → World → Prop) (x0 x1 x2 : Value) (w : World) (R : Value → World → Prop) : Prop :=
 XV P (Instr.buildSlice 27 0 #[]) w fun v9 w1 =>
 XV P (Builtin.append_ #[27, 27] 27 #[v9, x1]) w1 fun v12 w2 =>
 Z1 x0 x1 x2 v12 (.int .i64 0) w2
def S92_0 (x0 x1 x2 : Value) (w : World) (R : Value → World → Prop) : Prop := B92_0 (fun x0 x1 x2 x7 x8 w => S92_1 x0 x1 x2 x7 x8 w R) x0 x1 x2 w R
noncomputable abbrev b92_1 : Code := match subC [true, true, true, false, true, false] b92_0 with | .loop x => x | _ => .skip
abbrev V92_1 (K : Value → Value → Value → Value → Value → World → Prop) (e : Env) (w : World) : Prop := E1 e (.tmp 0) fun x0 => E1 e (.tmp 1) fun x1 => E1 e (.tmp 2) fun x2 => E1 e (.tmp 7) fun x7 => E1 e (.tmp 8) fun x8 => K x0 x1 x2 x7 x8 w
abbrev Q92_1 (K1 : Value → Value → Value → Value → Value → World → Prop) (R : Value → World → Prop) : Post := thenQ (V92_1 K1) (postC P 50 [true, true, true, false, true, false] b92_0 (Q92_0 R))
theorem e92_2 (x0 x1 x2 x7 x8 : Value) (w : World) (K1 : Value → Value → Value → Value → Value → World → Prop) (R : Value → World → Prop) : S92_2 x0 x1 x2 x7 x8 w K1 R = Wp P 50 D92 [] b92_1 [] (thenQ (V92_1 K1) (postW P 50 D92 [true, true, true, false, true, false] b92_0 [] (Q92_0 R))) [(0, some x0), (1, some x1), (2, some x2), (7, some x7), (8, some x8)] w := by kernel_rfl
theorem q92_2 (x0 x1 x2 x7 x8 : Value) (w : World) (K1 : Value → Value → Value → Value → Value → World → Prop) (R : Value → World → Prop) (h : S92_2 x0 x1 x2 x7 x8 w K1 R) : Runs P 50 (subC [] b92_1) (postC P 50 [] b92_1 (Q92_1 K1 R)) [(0, some x0), (1, some x1), (2, some x2), (7, some x7), (8, some x8)] w :=
  Wp_use mixed (e92_2 x0 x1 x2 x7 x8 w K1 R) h (thenQ_le (postW_le mixed _ _ _ _ _ (fun _ _ _ h => h) trivial)) trivial
theorem q92_1 (x0 x1 x2 x7 x8 : Value) (w : World) (R : Value → World → Prop) (h : S92_1 x0 x1 x2 x7 x8 w R) : Runs P 50 (subC [true, true, true, false, true, false] b92_0) (postC P 50 [true, true, true, false, true, false] b92_0 (Q92_0 R)) [(0, some x0), (1, some x1), (2, some x2), (7, some x7), (8, some x8)] w :=
  Runs.loop (σ := Value × Value × Value × Value × Value) (fun s => [(0, some s.1), (1, some s.2.1), (2, some s.2.2.1), (7, some s.2.2.2.1), (8, some s.2.2.2.2)]) (fun e k => E1 e (.tmp 0) fun x0 => E1 e (.tmp 1) fun x1 => E1 e (.tmp 2) fun x2 => E1 e (.tmp 7) fun x7 => E1 e (.tmp 8) fun x8 => k (x0, x1, x2, x7, x8)) (fun e k h => let ⟨y0, h0, h⟩ := E1.elim h; let ⟨y1, h1, h⟩ := E1.elim h; let ⟨y2, h2, h⟩ := E1.elim h; let ⟨y7, h7, h⟩ := E1.elim h; let ⟨y8, h8, h⟩ := E1.elim h; ⟨(y0, y1, y2, y7, y8), h, (sub_cons h0 (sub_cons h1 (sub_cons h2 (sub_cons h7 (sub_cons h8 (sub_nil))))))⟩) (fun s w K h => q92_2 s.1 s.2.1 s.2.2.1 s.2.2.2.1 s.2.2.2.2 w (fun x0 x1 x2 x7 x8 w => K (x0, x1, x2, x7, x8) w) R h) h
theorem e92_0 (Z1 : Value → Value → Value → Value → Value → World → Prop) (x0 x1 x2 : Value) (w : World) (R : Value → World → Prop) : B92_0 Z1 x0 x1 x2 w R = Wp P 50 D92 [] b92_0 [([true, true, true, false, true, false], fun e w => E1 e (.tmp 0) fun x0 => E1 e (.tmp 1) fun x1 => E1 e (.tmp 2) fun x2 => E1 e (.tmp 7) fun x7 => E1 e (.tmp 8) fun x8 => Z1 x0 x1 x2 x7 x8 w)] (Q92_0 R) [(0, some x0), (1, some x1), (2, some x2)] w := by kernel_rfl
theorem q92_0 (x0 x1 x2 : Value) (w : World) (R : Value → World → Prop) (h : S92_0 x0 x1 x2 w R) : Runs P 50 (subC [] b92_0) (postC P 50 [] b92_0 (Q92_0 R)) [(0, some x0), (1, some x1), (2, some x2)] w :=
  Wp_use mixed (e92_0 (fun x0 x1 x2 x7 x8 w => S92_1 x0 x1 x2 x7 x8 w R) x0 x1 x2 w R) h (fun _ _ _ h => h) ⟨(fun e w h => let ⟨y0, h0, h⟩ := E1.elim h; let ⟨y1, h1, h⟩ := E1.elim h; let ⟨y2, h2, h⟩ := E1.elim h; let ⟨y7, h7, h⟩ := E1.elim h; let ⟨y8, h8, h⟩ := E1.elim h; (q92_1 y0 y1 y2 y7 y8 w R h).more (sub_cons h0 (sub_cons h1 (sub_cons h2 (sub_cons h7 (sub_cons h8 (sub_nil))))))), trivial⟩
theorem c92 (x0 x1 x2 : Value) (w : World) (R : Value → World → Prop) (h : S92_0 x0 x1 x2 w R) : CallF P 92 #[x0, x1, x2] w R :=
  call_of_runs (args := [x0, x1, x2]) (c := b92_0) (by kernel_rfl) func92 rfl (by kernel_rfl) (q92_0 x0 x1 x2 w R h)

/-! ### 30 "(*crier/crierroom.Room).Texts" -/
noncomputable abbrev b30_0 : Code := (f30.body).getD .skip
abbrev D30 : Plans := []
abbrev Q30_0 (R : Value → World → Prop) : Post := retQ P f30.results.toList R
def S30_0 (x0 x1 : Value) (w : World) (R : Value → World → Prop) : Prop :=
 CallF P 92 #[x0, x1, (.int .i64 40)] w fun v7 w1 =>
 R v7 w1
theorem e30_0 (x0 x1 : Value) (w : World) (R : Value → World → Prop) : S30_0 x0 x1 w R = Wp P 8 D30 [] b30_0 [] (Q30_0 R) [(0, some x0), (1, some x1)] w := by kernel_rfl
theorem q30_0 (x0 x1 : Value) (w : World) (R : Value → World → Prop) (h : S30_0 x0 x1 w R) : Runs P 8 (subC [] b30_0) (postC P 8 [] b30_0 (Q30_0 R)) [(0, some x0), (1, some x1)] w :=
  Wp_use mixed (e30_0 x0 x1 w R) h (fun _ _ _ h => h) trivial
theorem c30 (x0 x1 : Value) (w : World) (R : Value → World → Prop) (h : S30_0 x0 x1 w R) : CallF P 30 #[x0, x1] w R :=
  call_of_runs (args := [x0, x1]) (c := b30_0) (by kernel_rfl) func30 rfl (by kernel_rfl) (q30_0 x0 x1 w R h)

/-! ### 8 "(*crier/crierroom.Room).Packet" -/
noncomputable abbrev b8_0 : Code := (f8.body).getD .skip
abbrev D8 : Plans := []
abbrev Q8_0 (R : Value → World → Prop) : Post := retQ P f8.results.toList R
def S8_0 (x0 x1 : Value) (w : World) (R : Value → World → Prop) : Prop :=
 XV P (Instr.box 29 x1) w fun v3 w1 =>
 XV P (Instr.alloc 29 true (.tuple #[])) w1 fun v4 w2 =>
 LB P 29 24 6 v3 w2 fun v7 w4 =>
 CallF P 26 #[x0, v7] w4 fun v8 w5 =>
 SB P 29 24 6 v3 v8 w5 fun w7 =>
 LB P 29 24 14 v3 w7 fun v12 w9 =>
 CallF P 26 #[x0, v12] w9 fun v13 w10 =>
 SB P 29 24 14 v3 v13 w10 fun w12 =>
 LB P 29 22 10 v3 w12 fun v17 w14 =>
 CallF P 27 #[x0, v17] w14 fun v18 w15 =>
 SB P 29 22 10 v3 v18 w15 fun w17 =>
 LB P 29 25 16 v3 w17 fun v22 w19 =>
 CallF P 28 #[x0, v22] w19 fun v23 w20 =>
 SB P 29 25 16 v3 v23 w20 fun w22 =>
 LB P 29 26 17 v3 w22 fun v27 w24 =>
 CallF P 29 #[x0, v27] w24 fun v28 w25 =>
 SB P 29 26 17 v3 v28 w25 fun w27 =>
 LB P 29 27 18 v3 w27 fun v32 w29 =>
 CallF P 30 #[x0, v32] w29 fun v33 w30 =>
 SB P 29 27 18 v3 v33 w30 fun w32 =>
 XV P (Instr.loadAt 29 v3) w32 fun v35 w33 =>
 XU P (Instr.storeAt 29 v4 v35) w33 fun w34 =>
 ∃ v4_1, (do loadVar 29 (← asAddr v4) : Sem Value).run P w34 = .ok v4_1 w34 ∧ R v4_1 w34
theorem e8_0 (x0 x1 : Value) (w : World) (R : Value → World → Prop) : S8_0 x0 x1 w R = Wp P 36 D8 [] b8_0 [] (Q8_0 R) [(0, some x0), (1, some x1)] w := by kernel_rfl
theorem q8_0 (x0 x1 : Value) (w : World) (R : Value → World → Prop) (h : S8_0 x0 x1 w R) : Runs P 36 (subC [] b8_0) (postC P 36 [] b8_0 (Q8_0 R)) [(0, some x0), (1, some x1)] w :=
  Wp_use mixed (e8_0 x0 x1 w R) h (fun _ _ _ h => h) trivial
theorem c8 (x0 x1 : Value) (w : World) (R : Value → World → Prop) (h : S8_0 x0 x1 w R) : CallF P 8 #[x0, x1] w R :=
  call_of_runs (args := [x0, x1]) (c := b8_0) (by kernel_rfl) func8 rfl (by kernel_rfl) (q8_0 x0 x1 w R h)

end Go.Proofs.YtdgffjkcpbolmaaGreatDoor.X
