/- Shallow forms of Go functions, written by the tool fx.py of this session, each with the proof that the call does what its form says. No condition. -/
import Derived.Test.YtdgffjkcpbolmaaGreatDoorFxP
namespace Go.Proofs.YtdgffjkcpbolmaaGreatDoor.X
open Go Go.RowKit Go.Proofs.Tryz Go.Proofs.YtdgffjkcpbolmaaGreatDoor.Fx
set_option linter.unusedVariables false
set_option linter.constructorNameAsVariable false
set_option maxRecDepth 100000
/-! ### 191 "crier/topic.text" -/
noncomputable abbrev b191_0 : Code := (f191.body).getD .skip
abbrev D191 : Plans := []
abbrev Q191_0 (R : Value → World → Prop) : Post := retQ P f191.results.toList R
def S191_0 (x0 : Value) (w : World) (R : Value → World → Prop) : Prop :=
 XV P (binS .eql 9 true x0 (.string { data := #[] })) w fun v6 w1 =>
 condW v6 (
  R (.int .i64 50) w1) (
  CallF P 190 #[x0] w1 fun v9 w2 =>
  XV P (Instr.extract v9 0) w2 fun v10 w3 =>
  XV P (Instr.extract v9 1) w3 fun v11 w4 =>
  XV P (binS .neq 85 true v11 (.int .i64 0)) w4 fun v13 w5 =>
  condW v13 (
   R (.int .i64 51) w5) (
   R (.int .i64 0) w5))
theorem e191_0 (x0 : Value) (w : World) (R : Value → World → Prop) : S191_0 x0 w R = Wp P 14 D191 [] b191_0 [] (Q191_0 R) [(0, some x0)] w := by kernel_rfl
theorem q191_0 (x0 : Value) (w : World) (R : Value → World → Prop) (h : S191_0 x0 w R) : Runs P 14 (subC [] b191_0) (postC P 14 [] b191_0 (Q191_0 R)) [(0, some x0)] w :=
  Wp_use mixed (e191_0 x0 w R) h (fun _ _ _ h => h) trivial
theorem c191 (x0 : Value) (w : World) (R : Value → World → Prop) (h : S191_0 x0 w R) : CallF P 191 #[x0] w R :=
  call_of_runs (args := [x0]) (c := b191_0) (by kernel_rfl) func191 rfl (by kernel_rfl) (q191_0 x0 w R h)

/-! ### 122 "crier/topic.Check" -/
noncomputable abbrev b122_0 : Code := (f122.body).getD .skip
abbrev D122 : Plans := []
abbrev Q122_0 (R : Value → World → Prop) : Post := retQ P f122.results.toList R
def S122_0 (x0 : Value) (w : World) (R : Value → World → Prop) : Prop :=
 CallF P 191 #[x0] w fun v5 w1 =>
 XV P (binS .neq 85 true v5 (.int .i64 0)) w1 fun v7 w2 =>
 condW v7 (
  R v5 w2) (
  CallF P 192 #[x0, (.string { data := #[43, 35] })] w2 fun v10 w3 =>
  condW v10 (
   R (.int .i64 52) w3) (
   R (.int .i64 0) w3))
theorem e122_0 (x0 : Value) (w : World) (R : Value → World → Prop) : S122_0 x0 w R = Wp P 11 D122 [] b122_0 [] (Q122_0 R) [(0, some x0)] w := by kernel_rfl
theorem q122_0 (x0 : Value) (w : World) (R : Value → World → Prop) (h : S122_0 x0 w R) : Runs P 11 (subC [] b122_0) (postC P 11 [] b122_0 (Q122_0 R)) [(0, some x0)] w :=
  Wp_use mixed (e122_0 x0 w R) h (fun _ _ _ h => h) trivial
theorem c122 (x0 : Value) (w : World) (R : Value → World → Prop) (h : S122_0 x0 w R) : CallF P 122 #[x0] w R :=
  call_of_runs (args := [x0]) (c := b122_0) (by kernel_rfl) func122 rfl (by kernel_rfl) (q122_0 x0 w R h)

/-! ### 194 "crier/topic.CheckFilter" -/
noncomputable abbrev b194_0 : Code := (f194.body).getD .skip
abbrev D194 : Plans := []
abbrev Q194_0 (R : Value → World → Prop) : Post := retQ P f194.results.toList R
def S194_5 (x4 x5 x6 x8 x16 x17 x18 : Value) (w : World) (K1 : Value → Value → Value → Value → World → Prop) (K2 : Value → Value → Value → Value → Value → Value → Value → World → Prop) (R : Value → World → Prop) : Prop :=
 XV P (Builtin.len_ #[9] 3 #[x6]) w fun v35 w1 =>
 XV P (binS .gtr 3 true v35 (.int .i64 1)) w1 fun v36 w2 =>
 gd v36 false (
  XV P (binS .eql 21 true x8 (.int .i32 35)) w2 fun v39 w3 =>
  gd v39 true (
   XV P (Builtin.len_ #[27] 3 #[x4]) w3 fun v43 w4 =>
   XV P (binS .sub 3 true v43 (.int .i64 1)) w4 fun v44 w5 =>
   XV P (binS .lss 3 false x5 v44) w5 fun v45 w6 =>
   condW v45 (
    R (.int .i64 52) w6) (
    XV P (binS .add 3 true x18 (.int .i64 1)) w6 fun v48 w7 =>
    K1 x4 x16 x17 v48 w7)) (
   XV P (binS .add 3 true x18 (.int .i64 1)) w3 fun v48_1 w8 =>
   K1 x4 x16 x17 v48_1 w8)) (
  R (.int .i64 52) w2)
def B194_4 (Z5 : Value → Value → Value → Value → Value → Value → Value → World → Prop) (x4 x5 x6 x16 x17 x18 x24 : Value) (w : World) (K1 : Value → Value → Value → Value → World → Prop) (K2 : Value → Value → Value → Value → Value → Value → Value → World → Prop) (R : Value → World → Prop) : Prop :=
 XV P (Instr.next x24 true 0) w fun v25 w1 =>
 XV P (Instr.extract v25 0) w1 fun v26 w2 =>
 condW v26 (
  XV P (Instr.extract v25 2) w2 fun v27 w3 =>
  XV P (binS .neq 21 true v27 (.int .i32 43)) w3 fun v29 w4 =>
  gd v29 true (
   XV P (binS .neq 21 true v27 (.int .i32 35)) w4 fun v32 w5 =>
   condW v32 (
    K2 x4 x5 x6 x16 x17 x18 x24 w5) (
    Z5 x4 x5 x6 v27 x16 x17 x18 w5)) (
   Z5 x4 x5 x6 v27 x16 x17 x18 w4)) (
  XV P (binS .add 3 true x18 (.int .i64 1)) w2 fun v48 w6 =>
  K1 x4 x16 x17 v48 w6)
def S194_4 (x4 x5 x6 x16 x17 x18 x24 : Value) (w : World) (K1 : Value → Value → Value → Value → World → Prop) (K2 : Value → Value → Value → Value → Value → Value → Value → World → Prop) (R : Value → World → Prop) : Prop := B194_4 (fun x4 x5 x6 x8 x16 x17 x18 w => S194_5 x4 x5 x6 x8 x16 x17 x18 w K1 K2 R) x4 x5 x6 x16 x17 x18 x24 w K1 K2 R
def S194_3 (x4 x5 x6 x16 x17 x18 x24 : Value) (w : World) (K1 : Value → Value → Value → Value → World → Prop) (R : Value → World → Prop) : Prop :=
 LoopP (fun (s : Value × Value × Value × Value × Value × Value × Value) w K => S194_4 s.1 s.2.1 s.2.2.1 s.2.2.2.1 s.2.2.2.2.1 s.2.2.2.2.2.1 s.2.2.2.2.2.2 w K1 (fun x4 x5 x6 x16 x17 x18 x24 w => K (x4, x5, x6, x16, x17, x18, x24) w) R) (x4, x5, x6, x16, x17, x18, x24) w
def B194_2 (Z3 : Value → Value → Value → Value → Value → Value → Value → World → Prop) (x4 x16 x17 x18 : Value) (w : World) (K1 : Value → Value → Value → Value → World → Prop) (R : Value → World → Prop) : Prop :=
 XV P (binS .lss 3 false x18 x17) w fun v19 w1 =>
 condW v19 (
  LI P 27 9 x16 x18 w1 fun v22 w3 =>
  XV P (Instr.range 9 v22) w3 fun v24 w4 =>
  Z3 x4 x18 v22 x16 x17 x18 v24 w4) (
  R (.int .i64 0) w1)
def S194_2 (x4 x16 x17 x18 : Value) (w : World) (K1 : Value → Value → Value → Value → World → Prop) (R : Value → World → Prop) : Prop := B194_2 (fun x4 x5 x6 x16 x17 x18 x24 w => S194_3 x4 x5 x6 x16 x17 x18 x24 w K1 R) x4 x16 x17 x18 w K1 R
def S194_1 (x4 x16 x17 x18 : Value) (w : World) (R : Value → World → Prop) : Prop :=
 LoopP (fun (s : Value × Value × Value × Value) w K => S194_2 s.1 s.2.1 s.2.2.1 s.2.2.2 w (fun x4 x16 x17 x18 w => K (x4, x16, x17, x18) w) R) (x4, x16, x17, x18) w
def B194_0 (Z1 : Value → Value → Value → Value → World → Prop) (x0 : Value) (w : World) (R : Value → World → Prop) : Prop :=
 CallF P 191 #[x0] w fun v10 w1 =>
 XV P (binS .neq 85 true v10 (.int .i64 0)) w1 fun v12 w2 =>
 condW v12 (
  R v10 w2) (
  CallF P 206 #[x0] w2 fun v15 w3 =>
  XV P (Builtin.len_ #[27] 3 #[v15]) w3 fun v17 w4 =>
  Z1 v15 v15 v17 (.int .i64 0) w4)
def S194_0 (x0 : Value) (w : World) (R : Value → World → Prop) : Prop := B194_0 (fun x4 x16 x17 x18 w => S194_1 x4 x16 x17 x18 w R) x0 w R
noncomputable abbrev b194_1 : Code := match subC [true, false, true, true, true, false, true, false] b194_0 with | .loop x => x | _ => .skip
abbrev V194_1 (K : Value → Value → Value → Value → World → Prop) (e : Env) (w : World) : Prop := E1 e (.tmp 4) fun x4 => E1 e (.tmp 16) fun x16 => E1 e (.tmp 17) fun x17 => E1 e (.tmp 18) fun x18 => K x4 x16 x17 x18 w
abbrev Q194_1 (K1 : Value → Value → Value → Value → World → Prop) (R : Value → World → Prop) : Post := thenQ (V194_1 K1) (postC P 49 [true, false, true, true, true, false, true, false] b194_0 (Q194_0 R))
noncomputable abbrev b194_2 : Code := match subC [true, true, false, false, true, true, false] b194_1 with | .loop x => x | _ => .skip
abbrev V194_2 (K : Value → Value → Value → Value → Value → Value → Value → World → Prop) (e : Env) (w : World) : Prop := E1 e (.tmp 4) fun x4 => E1 e (.tmp 5) fun x5 => E1 e (.tmp 6) fun x6 => E1 e (.tmp 16) fun x16 => E1 e (.tmp 17) fun x17 => E1 e (.tmp 18) fun x18 => E1 e (.tmp 24) fun x24 => K x4 x5 x6 x16 x17 x18 x24 w
abbrev Q194_2 (K1 : Value → Value → Value → Value → World → Prop) (K2 : Value → Value → Value → Value → Value → Value → Value → World → Prop) (R : Value → World → Prop) : Post := thenQ (V194_2 K2) (postC P 49 [true, true, false, false, true, true, false] b194_1 (Q194_1 K1 R))
theorem e194_5 (x4 x5 x6 x8 x16 x17 x18 : Value) (w : World) (K1 : Value → Value → Value → Value → World → Prop) (K2 : Value → Value → Value → Value → Value → Value → Value → World → Prop) (R : Value → World → Prop) : S194_5 x4 x5 x6 x8 x16 x17 x18 w K1 K2 R = Wp P 49 D194 [true, true, false, true, true] b194_2 [] (thenQ (V194_2 K2) (postW P 49 D194 [true, true, false, false, true, true, false] b194_1 [] (thenQ (V194_1 K1) (postW P 49 D194 [true, false, true, true, true, false, true, false] b194_0 [] (Q194_0 R))))) [(4, some x4), (5, some x5), (6, some x6), (8, some x8), (16, some x16), (17, some x17), (18, some x18)] w := by kernel_rfl
theorem q194_5 (x4 x5 x6 x8 x16 x17 x18 : Value) (w : World) (K1 : Value → Value → Value → Value → World → Prop) (K2 : Value → Value → Value → Value → Value → Value → Value → World → Prop) (R : Value → World → Prop) (h : S194_5 x4 x5 x6 x8 x16 x17 x18 w K1 K2 R) : Runs P 49 (subC [true, true, false, true, true] b194_2) (postC P 49 [true, true, false, true, true] b194_2 (Q194_2 K1 K2 R)) [(4, some x4), (5, some x5), (6, some x6), (8, some x8), (16, some x16), (17, some x17), (18, some x18)] w :=
  Wp_use mixed (e194_5 x4 x5 x6 x8 x16 x17 x18 w K1 K2 R) h (thenQ_le (postW_le mixed _ _ _ _ _ (thenQ_le (postW_le mixed _ _ _ _ _ (fun _ _ _ h => h) trivial)) trivial)) trivial
theorem e194_4 (Z5 : Value → Value → Value → Value → Value → Value → Value → World → Prop) (x4 x5 x6 x16 x17 x18 x24 : Value) (w : World) (K1 : Value → Value → Value → Value → World → Prop) (K2 : Value → Value → Value → Value → Value → Value → Value → World → Prop) (R : Value → World → Prop) : B194_4 Z5 x4 x5 x6 x16 x17 x18 x24 w K1 K2 R = Wp P 49 D194 [] b194_2 [([true, true, false, true, true], fun e w => E1 e (.tmp 4) fun x4 => E1 e (.tmp 5) fun x5 => E1 e (.tmp 6) fun x6 => E1 e (.tmp 8) fun x8 => E1 e (.tmp 16) fun x16 => E1 e (.tmp 17) fun x17 => E1 e (.tmp 18) fun x18 => Z5 x4 x5 x6 x8 x16 x17 x18 w)] (thenQ (V194_2 K2) (postW P 49 D194 [true, true, false, false, true, true, false] b194_1 [] (thenQ (V194_1 K1) (postW P 49 D194 [true, false, true, true, true, false, true, false] b194_0 [] (Q194_0 R))))) [(4, some x4), (5, some x5), (6, some x6), (16, some x16), (17, some x17), (18, some x18), (24, some x24)] w := by kernel_rfl
theorem q194_4 (x4 x5 x6 x16 x17 x18 x24 : Value) (w : World) (K1 : Value → Value → Value → Value → World → Prop) (K2 : Value → Value → Value → Value → Value → Value → Value → World → Prop) (R : Value → World → Prop) (h : S194_4 x4 x5 x6 x16 x17 x18 x24 w K1 K2 R) : Runs P 49 (subC [] b194_2) (postC P 49 [] b194_2 (Q194_2 K1 K2 R)) [(4, some x4), (5, some x5), (6, some x6), (16, some x16), (17, some x17), (18, some x18), (24, some x24)] w :=
  Wp_use mixed (e194_4 (fun x4 x5 x6 x8 x16 x17 x18 w => S194_5 x4 x5 x6 x8 x16 x17 x18 w K1 K2 R) x4 x5 x6 x16 x17 x18 x24 w K1 K2 R) h (thenQ_le (postW_le mixed _ _ _ _ _ (thenQ_le (postW_le mixed _ _ _ _ _ (fun _ _ _ h => h) trivial)) trivial)) ⟨(fun e w h => let ⟨y4, h4, h⟩ := E1.elim h; let ⟨y5, h5, h⟩ := E1.elim h; let ⟨y6, h6, h⟩ := E1.elim h; let ⟨y8, h8, h⟩ := E1.elim h; let ⟨y16, h16, h⟩ := E1.elim h; let ⟨y17, h17, h⟩ := E1.elim h; let ⟨y18, h18, h⟩ := E1.elim h; (q194_5 y4 y5 y6 y8 y16 y17 y18 w K1 K2 R h).more (sub_cons h4 (sub_cons h5 (sub_cons h6 (sub_cons h8 (sub_cons h16 (sub_cons h17 (sub_cons h18 (sub_nil))))))))), trivial⟩
theorem q194_3 (x4 x5 x6 x16 x17 x18 x24 : Value) (w : World) (K1 : Value → Value → Value → Value → World → Prop) (R : Value → World → Prop) (h : S194_3 x4 x5 x6 x16 x17 x18 x24 w K1 R) : Runs P 49 (subC [true, true, false, false, true, true, false] b194_1) (postC P 49 [true, true, false, false, true, true, false] b194_1 (Q194_1 K1 R)) [(4, some x4), (5, some x5), (6, some x6), (16, some x16), (17, some x17), (18, some x18), (24, some x24)] w :=
  Runs.loop (σ := Value × Value × Value × Value × Value × Value × Value) (fun s => [(4, some s.1), (5, some s.2.1), (6, some s.2.2.1), (16, some s.2.2.2.1), (17, some s.2.2.2.2.1), (18, some s.2.2.2.2.2.1), (24, some s.2.2.2.2.2.2)]) (fun e k => E1 e (.tmp 4) fun x4 => E1 e (.tmp 5) fun x5 => E1 e (.tmp 6) fun x6 => E1 e (.tmp 16) fun x16 => E1 e (.tmp 17) fun x17 => E1 e (.tmp 18) fun x18 => E1 e (.tmp 24) fun x24 => k (x4, x5, x6, x16, x17, x18, x24)) (fun e k h => let ⟨y4, h4, h⟩ := E1.elim h; let ⟨y5, h5, h⟩ := E1.elim h; let ⟨y6, h6, h⟩ := E1.elim h; let ⟨y16, h16, h⟩ := E1.elim h; let ⟨y17, h17, h⟩ := E1.elim h; let ⟨y18, h18, h⟩ := E1.elim h; let ⟨y24, h24, h⟩ := E1.elim h; ⟨(y4, y5, y6, y16, y17, y18, y24), h, (sub_cons h4 (sub_cons h5 (sub_cons h6 (sub_cons h16 (sub_cons h17 (sub_cons h18 (sub_cons h24 (sub_nil))))))))⟩) (fun s w K h => q194_4 s.1 s.2.1 s.2.2.1 s.2.2.2.1 s.2.2.2.2.1 s.2.2.2.2.2.1 s.2.2.2.2.2.2 w K1 (fun x4 x5 x6 x16 x17 x18 x24 w => K (x4, x5, x6, x16, x17, x18, x24) w) R h) h
theorem e194_2 (Z3 : Value → Value → Value → Value → Value → Value → Value → World → Prop) (x4 x16 x17 x18 : Value) (w : World) (K1 : Value → Value → Value → Value → World → Prop) (R : Value → World → Prop) : B194_2 Z3 x4 x16 x17 x18 w K1 R = Wp P 49 D194 [] b194_1 [([true, true, false, false, true, true, false], fun e w => E1 e (.tmp 4) fun x4 => E1 e (.tmp 5) fun x5 => E1 e (.tmp 6) fun x6 => E1 e (.tmp 16) fun x16 => E1 e (.tmp 17) fun x17 => E1 e (.tmp 18) fun x18 => E1 e (.tmp 24) fun x24 => Z3 x4 x5 x6 x16 x17 x18 x24 w)] (thenQ (V194_1 K1) (postW P 49 D194 [true, false, true, true, true, false, true, false] b194_0 [] (Q194_0 R))) [(4, some x4), (16, some x16), (17, some x17), (18, some x18)] w := by kernel_rfl
theorem q194_2 (x4 x16 x17 x18 : Value) (w : World) (K1 : Value → Value → Value → Value → World → Prop) (R : Value → World → Prop) (h : S194_2 x4 x16 x17 x18 w K1 R) : Runs P 49 (subC [] b194_1) (postC P 49 [] b194_1 (Q194_1 K1 R)) [(4, some x4), (16, some x16), (17, some x17), (18, some x18)] w :=
  Wp_use mixed (e194_2 (fun x4 x5 x6 x16 x17 x18 x24 w => S194_3 x4 x5 x6 x16 x17 x18 x24 w K1 R) x4 x16 x17 x18 w K1 R) h (thenQ_le (postW_le mixed _ _ _ _ _ (fun _ _ _ h => h) trivial)) ⟨(fun e w h => let ⟨y4, h4, h⟩ := E1.elim h; let ⟨y5, h5, h⟩ := E1.elim h; let ⟨y6, h6, h⟩ := E1.elim h; let ⟨y16, h16, h⟩ := E1.elim h; let ⟨y17, h17, h⟩ := E1.elim h; let ⟨y18, h18, h⟩ := E1.elim h; let ⟨y24, h24, h⟩ := E1.elim h; (q194_3 y4 y5 y6 y16 y17 y18 y24 w K1 R h).more (sub_cons h4 (sub_cons h5 (sub_cons h6 (sub_cons h16 (sub_cons h17 (sub_cons h18 (sub_cons h24 (sub_nil))))))))), trivial⟩
theorem q194_1 (x4 x16 x17 x18 : Value) (w : World) (R : Value → World → Prop) (h : S194_1 x4 x16 x17 x18 w R) : Runs P 49 (subC [true, false, true, true, true, false, true, false] b194_0) (postC P 49 [true, false, true, true, true, false, true, false] b194_0 (Q194_0 R)) [(4, some x4), (16, some x16), (17, some x17), (18, some x18)] w :=
  Runs.loop (σ := Value × Value × Value × Value) (fun s => [(4, some s.1), (16, some s.2.1), (17, some s.2.2.1), (18, some s.2.2.2)]) (fun e k => E1 e (.tmp 4) fun x4 => E1 e (.tmp 16) fun x16 => E1 e (.tmp 17) fun x17 => E1 e (.tmp 18) fun x18 => k (x4, x16, x17, x18)) (fun e k h => let ⟨y4, h4, h⟩ := E1.elim h; let ⟨y16, h16, h⟩ := E1.elim h; let ⟨y17, h17, h⟩ := E1.elim h; let ⟨y18, h18, h⟩ := E1.elim h; ⟨(y4, y16, y17, y18), h, (sub_cons h4 (sub_cons h16 (sub_cons h17 (sub_cons h18 (sub_nil)))))⟩) (fun s w K h => q194_2 s.1 s.2.1 s.2.2.1 s.2.2.2 w (fun x4 x16 x17 x18 w => K (x4, x16, x17, x18) w) R h) h
theorem e194_0 (Z1 : Value → Value → Value → Value → World → Prop) (x0 : Value) (w : World) (R : Value → World → Prop) : B194_0 Z1 x0 w R = Wp P 49 D194 [] b194_0 [([true, false, true, true, true, false, true, false], fun e w => E1 e (.tmp 4) fun x4 => E1 e (.tmp 16) fun x16 => E1 e (.tmp 17) fun x17 => E1 e (.tmp 18) fun x18 => Z1 x4 x16 x17 x18 w)] (Q194_0 R) [(0, some x0)] w := by kernel_rfl
theorem q194_0 (x0 : Value) (w : World) (R : Value → World → Prop) (h : S194_0 x0 w R) : Runs P 49 (subC [] b194_0) (postC P 49 [] b194_0 (Q194_0 R)) [(0, some x0)] w :=
  Wp_use mixed (e194_0 (fun x4 x16 x17 x18 w => S194_1 x4 x16 x17 x18 w R) x0 w R) h (fun _ _ _ h => h) ⟨(fun e w h => let ⟨y4, h4, h⟩ := E1.elim h; let ⟨y16, h16, h⟩ := E1.elim h; let ⟨y17, h17, h⟩ := E1.elim h; let ⟨y18, h18, h⟩ := E1.elim h; (q194_1 y4 y16 y17 y18 w R h).more (sub_cons h4 (sub_cons h16 (sub_cons h17 (sub_cons h18 (sub_nil)))))), trivial⟩
theorem c194 (x0 : Value) (w : World) (R : Value → World → Prop) (h : S194_0 x0 w R) : CallF P 194 #[x0] w R :=
  call_of_runs (args := [x0]) (c := b194_0) (by kernel_rfl) func194 rfl (by kernel_rfl) (q194_0 x0 w R h)

/-! ### 206 "crier/topic.Levels" -/
noncomputable abbrev b206_0 : Code := (f206.body).getD .skip
abbrev D206 : Plans := []
abbrev Q206_0 (R : Value → World → Prop) : Post := retQ P f206.results.toList R
def S206_2 (x0 x3 x4 x8 : Value) (w : World) (K1 : Value → Value → Value → Value → World → Prop) (R : Value → World → Prop) : Prop :=
 XV P (Instr.next x8 true 0) w fun v9 w1 =>
 XV P (Instr.extract v9 0) w1 fun v10 w2 =>
 condW v10 (
  XV P (Instr.extract v9 1) w2 fun v11 w3 =>
  XV P (Instr.extract v9 2) w3 fun v12 w4 =>
  XV P (binS .eql 21 true v12 (.int .i32 47)) w4 fun v14 w5 =>
  condW v14 (
   XV P (Instr.sliceAt 9 x0 (some x4) (some v11) none) w5 fun v19 w6 =>
   XV P (Instr.buildSlice 27 1 #[(0, v19)]) w6 fun v20 w7 =>
   XV P (Builtin.append_ #[27, 27] 27 #[x3, v20]) w7 fun v21 w8 =>
   XV P (binS .add 3 true v11 (.int .i64 1)) w8 fun v23 w9 =>
   K1 x0 v21 v23 x8 w9) (
   K1 x0 x3 x4 x8 w5)) (
  XV P (Instr.sliceAt 9 x0 (some x4) none none) w2 fun v27 w10 =>
  XV P (Instr.buildSlice 27 1 #[(0, v27)]) w10 fun v28 w11 =>
  XV P (Builtin.append_ #[27, 27] 27 #[x3, v28]) w11 fun v29 w12 =>
  R v29 w12)
def S206_1 (x0 x3 x4 x8 : Value) (w : World) (R : Value → World → Prop) : Prop :=
 LoopP (fun (s : Value × Value × Value × Value) w K => S206_2 s.1 s.2.1 s.2.2.1 s.2.2.2 w (fun x0 x3 x4 x8 w => K (x0, x3, x4, x8) w) R) (x0, x3, x4, x8) w
def B206_0 (Z1 : Value → Value → Value → Value → World → Prop) (x0 : Value) (w : World) (R : Value → World → Prop) : Prop :=
 XV P (Instr.range 9 x0) w fun v8 w1 =>
 Z1 x0 (.slice none 0 0) (.int .i64 0) v8 w1
def S206_0 (x0 : Value) (w : World) (R : Value → World → Prop) : Prop := B206_0 (fun x0 x3 x4 x8 w => S206_1 x0 x3 x4 x8 w R) x0 w R
noncomputable abbrev b206_1 : Code := match subC [true, true, true, false, true, false] b206_0 with | .loop x => x | _ => .skip
abbrev V206_1 (K : Value → Value → Value → Value → World → Prop) (e : Env) (w : World) : Prop := E1 e (.tmp 0) fun x0 => E1 e (.tmp 3) fun x3 => E1 e (.tmp 4) fun x4 => E1 e (.tmp 8) fun x8 => K x0 x3 x4 x8 w
abbrev Q206_1 (K1 : Value → Value → Value → Value → World → Prop) (R : Value → World → Prop) : Post := thenQ (V206_1 K1) (postC P 30 [true, true, true, false, true, false] b206_0 (Q206_0 R))
theorem e206_2 (x0 x3 x4 x8 : Value) (w : World) (K1 : Value → Value → Value → Value → World → Prop) (R : Value → World → Prop) : S206_2 x0 x3 x4 x8 w K1 R = Wp P 30 D206 [] b206_1 [] (thenQ (V206_1 K1) (postW P 30 D206 [true, true, true, false, true, false] b206_0 [] (Q206_0 R))) [(0, some x0), (3, some x3), (4, some x4), (8, some x8)] w := by kernel_rfl
theorem q206_2 (x0 x3 x4 x8 : Value) (w : World) (K1 : Value → Value → Value → Value → World → Prop) (R : Value → World → Prop) (h : S206_2 x0 x3 x4 x8 w K1 R) : Runs P 30 (subC [] b206_1) (postC P 30 [] b206_1 (Q206_1 K1 R)) [(0, some x0), (3, some x3), (4, some x4), (8, some x8)] w :=
  Wp_use mixed (e206_2 x0 x3 x4 x8 w K1 R) h (thenQ_le (postW_le mixed _ _ _ _ _ (fun _ _ _ h => h) trivial)) trivial
theorem q206_1 (x0 x3 x4 x8 : Value) (w : World) (R : Value → World → Prop) (h : S206_1 x0 x3 x4 x8 w R) : Runs P 30 (subC [true, true, true, false, true, false] b206_0) (postC P 30 [true, true, true, false, true, false] b206_0 (Q206_0 R)) [(0, some x0), (3, some x3), (4, some x4), (8, some x8)] w :=
  Runs.loop (σ := Value × Value × Value × Value) (fun s => [(0, some s.1), (3, some s.2.1), (4, some s.2.2.1), (8, some s.2.2.2)]) (fun e k => E1 e (.tmp 0) fun x0 => E1 e (.tmp 3) fun x3 => E1 e (.tmp 4) fun x4 => E1 e (.tmp 8) fun x8 => k (x0, x3, x4, x8)) (fun e k h => let ⟨y0, h0, h⟩ := E1.elim h; let ⟨y3, h3, h⟩ := E1.elim h; let ⟨y4, h4, h⟩ := E1.elim h; let ⟨y8, h8, h⟩ := E1.elim h; ⟨(y0, y3, y4, y8), h, (sub_cons h0 (sub_cons h3 (sub_cons h4 (sub_cons h8 (sub_nil)))))⟩) (fun s w K h => q206_2 s.1 s.2.1 s.2.2.1 s.2.2.2 w (fun x0 x3 x4 x8 w => K (x0, x3, x4, x8) w) R h) h
theorem e206_0 (Z1 : Value → Value → Value → Value → World → Prop) (x0 : Value) (w : World) (R : Value → World → Prop) : B206_0 Z1 x0 w R = Wp P 30 D206 [] b206_0 [([true, true, true, false, true, false], fun e w => E1 e (.tmp 0) fun x0 => E1 e (.tmp 3) fun x3 => E1 e (.tmp 4) fun x4 => E1 e (.tmp 8) fun x8 => Z1 x0 x3 x4 x8 w)] (Q206_0 R) [(0, some x0)] w := by kernel_rfl
theorem q206_0 (x0 : Value) (w : World) (R : Value → World → Prop) (h : S206_0 x0 w R) : Runs P 30 (subC [] b206_0) (postC P 30 [] b206_0 (Q206_0 R)) [(0, some x0)] w :=
  Wp_use mixed (e206_0 (fun x0 x3 x4 x8 w => S206_1 x0 x3 x4 x8 w R) x0 w R) h (fun _ _ _ h => h) ⟨(fun e w h => let ⟨y0, h0, h⟩ := E1.elim h; let ⟨y3, h3, h⟩ := E1.elim h; let ⟨y4, h4, h⟩ := E1.elim h; let ⟨y8, h8, h⟩ := E1.elim h; (q206_1 y0 y3 y4 y8 w R h).more (sub_cons h0 (sub_cons h3 (sub_cons h4 (sub_cons h8 (sub_nil)))))), trivial⟩
theorem c206 (x0 : Value) (w : World) (R : Value → World → Prop) (h : S206_0 x0 w R) : CallF P 206 #[x0] w R :=
  call_of_runs (args := [x0]) (c := b206_0) (by kernel_rfl) func206 rfl (by kernel_rfl) (q206_0 x0 w R h)

/-! ### 190 "crier/wire.Check" -/
noncomputable abbrev b190_0 : Code := (f190.body).getD .skip
abbrev D190 : Plans := []
abbrev Q190_0 (R : Value → World → Prop) : Post := retQ P f190.results.toList R
def S190_2 (x0 x10 : Value) (w : World) (K1 : Value → Value → World → Prop) (R : Value → World → Prop) : Prop :=
 XV P (Instr.next x10 true 0) w fun v11 w1 =>
 XV P (Instr.extract v11 0) w1 fun v12 w2 =>
 condW v12 (
  XV P (Instr.extract v11 1) w2 fun v13 w3 =>
  XV P (Instr.extract v11 2) w3 fun v14 w4 =>
  XV P (binS .eql 21 true v14 (.int .i32 0)) w4 fun v17 w5 =>
  condW v17 (
   R (.tuple #[v13, (.int .i64 14)]) w5) (
   XV P (binS .eql 21 true v14 (.int .i32 65533)) w5 fun v21 w6 =>
   gd v21 true (
    XV P (Instr.sliceAt 9 x0 (some v13) none none) w6 fun v25 w7 =>
    CallF P 204 #[v25, (.string { data := #[239, 191, 189] })] w7 fun v26 w8 =>
    XV P (Op.unary .not v26) w8 fun v27 w9 =>
    condW v27 (
     R (.tuple #[v13, (.int .i64 13)]) w9) (
     K1 x0 x10 w9)) (
    K1 x0 x10 w6))) (
  R (.tuple #[(.int .i64 0), (.int .i64 0)]) w2)
def S190_1 (x0 x10 : Value) (w : World) (R : Value → World → Prop) : Prop :=
 LoopP (fun (s : Value × Value) w K => S190_2 s.1 s.2 w (fun x0 x10 w => K (x0, x10) w) R) (x0, x10) w
def B190_0 (Z1 : Value → Value → World → Prop) (x0 : Value) (w : World) (R : Value → World → Prop) : Prop :=
 XV P (Builtin.len_ #[9] 3 #[x0]) w fun v7 w1 =>
 XV P (binS .gtr 3 true v7 (.int .i64 65535)) w1 fun v8 w2 =>
 condW v8 (
  R (.tuple #[(.int .i64 65535), (.int .i64 11)]) w2) (
  XV P (Instr.range 9 x0) w2 fun v10 w3 =>
  Z1 x0 v10 w3)
def S190_0 (x0 : Value) (w : World) (R : Value → World → Prop) : Prop := B190_0 (fun x0 x10 w => S190_1 x0 x10 w R) x0 w R
noncomputable abbrev b190_1 : Code := match subC [true, true, false, true, false] b190_0 with | .loop x => x | _ => .skip
abbrev V190_1 (K : Value → Value → World → Prop) (e : Env) (w : World) : Prop := E1 e (.tmp 0) fun x0 => E1 e (.tmp 10) fun x10 => K x0 x10 w
abbrev Q190_1 (K1 : Value → Value → World → Prop) (R : Value → World → Prop) : Post := thenQ (V190_1 K1) (postC P 30 [true, true, false, true, false] b190_0 (Q190_0 R))
theorem e190_2 (x0 x10 : Value) (w : World) (K1 : Value → Value → World → Prop) (R : Value → World → Prop) : S190_2 x0 x10 w K1 R = Wp P 30 D190 [] b190_1 [] (thenQ (V190_1 K1) (postW P 30 D190 [true, true, false, true, false] b190_0 [] (Q190_0 R))) [(0, some x0), (10, some x10)] w := by kernel_rfl
theorem q190_2 (x0 x10 : Value) (w : World) (K1 : Value → Value → World → Prop) (R : Value → World → Prop) (h : S190_2 x0 x10 w K1 R) : Runs P 30 (subC [] b190_1) (postC P 30 [] b190_1 (Q190_1 K1 R)) [(0, some x0), (10, some x10)] w :=
  Wp_use mixed (e190_2 x0 x10 w K1 R) h (thenQ_le (postW_le mixed _ _ _ _ _ (fun _ _ _ h => h) trivial)) trivial
theorem q190_1 (x0 x10 : Value) (w : World) (R : Value → World → Prop) (h : S190_1 x0 x10 w R) : Runs P 30 (subC [true, true, false, true, false] b190_0) (postC P 30 [true, true, false, true, false] b190_0 (Q190_0 R)) [(0, some x0), (10, some x10)] w :=
  Runs.loop (σ := Value × Value) (fun s => [(0, some s.1), (10, some s.2)]) (fun e k => E1 e (.tmp 0) fun x0 => E1 e (.tmp 10) fun x10 => k (x0, x10)) (fun e k h => let ⟨y0, h0, h⟩ := E1.elim h; let ⟨y10, h10, h⟩ := E1.elim h; ⟨(y0, y10), h, (sub_cons h0 (sub_cons h10 (sub_nil)))⟩) (fun s w K h => q190_2 s.1 s.2 w (fun x0 x10 w => K (x0, x10) w) R h) h
theorem e190_0 (Z1 : Value → Value → World → Prop) (x0 : Value) (w : World) (R : Value → World → Prop) : B190_0 Z1 x0 w R = Wp P 30 D190 [] b190_0 [([true, true, false, true, false], fun e w => E1 e (.tmp 0) fun x0 => E1 e (.tmp 10) fun x10 => Z1 x0 x10 w)] (Q190_0 R) [(0, some x0)] w := by kernel_rfl
theorem q190_0 (x0 : Value) (w : World) (R : Value → World → Prop) (h : S190_0 x0 w R) : Runs P 30 (subC [] b190_0) (postC P 30 [] b190_0 (Q190_0 R)) [(0, some x0)] w :=
  Wp_use mixed (e190_0 (fun x0 x10 w => S190_1 x0 x10 w R) x0 w R) h (fun _ _ _ h => h) ⟨(fun e w h => let ⟨y0, h0, h⟩ := E1.elim h; let ⟨y10, h10, h⟩ := E1.elim h; (q190_1 y0 y10 w R h).more (sub_cons h0 (sub_cons h10 (sub_nil)))), trivial⟩
theorem c190 (x0 : Value) (w : World) (R : Value → World → Prop) (h : S190_0 x0 w R) : CallF P 190 #[x0] w R :=
  call_of_runs (args := [x0]) (c := b190_0) (by kernel_rfl) func190 rfl (by kernel_rfl) (q190_0 x0 w R h)

/-! ### 192 "strings.ContainsAny" -/
noncomputable abbrev b192_0 : Code := (f192.body).getD .skip
abbrev D192 : Plans := []
abbrev Q192_0 (R : Value → World → Prop) : Post := retQ P f192.results.toList R
def S192_0 (x0 x1 : Value) (w : World) (R : Value → World → Prop) : Prop :=
 CallF P 205 #[x0, x1] w fun v7 w1 =>
 XV P (binS .geq 3 true v7 (.int .i64 0)) w1 fun v8 w2 =>
 R v8 w2
theorem e192_0 (x0 x1 : Value) (w : World) (R : Value → World → Prop) : S192_0 x0 x1 w R = Wp P 9 D192 [] b192_0 [] (Q192_0 R) [(0, some x0), (1, some x1)] w := by kernel_rfl
theorem q192_0 (x0 x1 : Value) (w : World) (R : Value → World → Prop) (h : S192_0 x0 x1 w R) : Runs P 9 (subC [] b192_0) (postC P 9 [] b192_0 (Q192_0 R)) [(0, some x0), (1, some x1)] w :=
  Wp_use mixed (e192_0 x0 x1 w R) h (fun _ _ _ h => h) trivial
theorem c192 (x0 x1 : Value) (w : World) (R : Value → World → Prop) (h : S192_0 x0 x1 w R) : CallF P 192 #[x0, x1] w R :=
  call_of_runs (args := [x0, x1]) (c := b192_0) (by kernel_rfl) func192 rfl (by kernel_rfl) (q192_0 x0 x1 w R h)

/-! ### 205 "strings.IndexAny" -/
noncomputable abbrev b205_0 : Code := (f205.body).getD .skip
abbrev D205 : Plans := []
abbrev Q205_0 (R : Value → World → Prop) : Post := retQ P f205.results.toList R
def S205_4 (x0 x6 x8 : Value) (w : World) (K1 : Value → Value → Value → World → Prop) (R : Value → World → Prop) : Prop :=
 XV P (Builtin.len_ #[9] 3 #[x0]) w fun v35 w1 =>
 XV P (binS .lss 3 false x8 v35) w1 fun v36 w2 =>
 condW v36 (
  XV P (Instr.index 9 x0 x8) w2 fun v41 w3 =>
  CallF P 215 #[x6, v41] w3 fun v42 w4 =>
  condW v42 (
   R x8 w4) (
   XV P (binS .add 3 true x8 (.int .i64 1)) w4 fun v38 w5 =>
   K1 x0 x6 v38 w5)) (
  R (.int .i64 (-1)) w2)
def S205_1 (x0 x6 x8 : Value) (w : World) (R : Value → World → Prop) : Prop :=
 LoopP (fun (s : Value × Value × Value) w K => S205_4 s.1 s.2.1 s.2.2 w (fun x0 x6 x8 w => K (x0, x6, x8) w) R) (x0, x6, x8) w
def S205_5 (x1 x45 : Value) (w : World) (K2 : Value → Value → World → Prop) (R : Value → World → Prop) : Prop :=
 XV P (Instr.next x45 true 0) w fun v46 w1 =>
 XV P (Instr.extract v46 0) w1 fun v47 w2 =>
 condW v47 (
  XV P (Instr.extract v46 1) w2 fun v48 w3 =>
  XV P (Instr.extract v46 2) w3 fun v49 w4 =>
  CallF P 212 #[x1, v49] w4 fun v52 w5 =>
  XV P (binS .geq 3 true v52 (.int .i64 0)) w5 fun v53 w6 =>
  condW v53 (
   R v48 w6) (
   K2 x1 x45 w6)) (
  R (.int .i64 (-1)) w2)
def S205_2 (x1 x45 : Value) (w : World) (R : Value → World → Prop) : Prop :=
 LoopP (fun (s : Value × Value) w K => S205_5 s.1 s.2 w (fun x1 x45 w => K (x1, x45) w) R) (x1, x45) w
def B205_3 (Z2 : Value → Value → World → Prop) (x0 x1 : Value) (w : World) (R : Value → World → Prop) : Prop :=
 XV P (Instr.range 9 x0) w fun v45 w1 =>
 Z2 x1 v45 w1
def S205_3 (x0 x1 : Value) (w : World) (R : Value → World → Prop) : Prop := B205_3 (fun x1 x45 w => S205_2 x1 x45 w R) x0 x1 w R
def B205_0 (Z1 : Value → Value → Value → World → Prop) (Z3 : Value → Value → World → Prop) (x0 x1 : Value) (w : World) (R : Value → World → Prop) : Prop :=
 XV P (binS .eql 9 true x1 (.string { data := #[] })) w fun v12 w1 =>
 condW v12 (
  R (.int .i64 (-1)) w1) (
  XV P (Builtin.len_ #[9] 3 #[x1]) w1 fun v14 w2 =>
  XV P (binS .eql 3 true v14 (.int .i64 1)) w2 fun v15 w3 =>
  condW v15 (
   XV P (Instr.index 9 x1 (.int .i64 0)) w3 fun v17 w4 =>
   XV P (convert 5 21 v17) w4 fun v18 w5 =>
   XV P (binS .geq 21 true v18 (.int .i32 128)) w5 fun v20 w6 =>
   condW v20 (
    CallF P 212 #[x0, (.int .i32 65533)] w6 fun v23 w7 =>
    R v23 w7) (
    CallF P 212 #[x0, v18] w6 fun v23_1 w8 =>
    R v23_1 w8)) (
   XV P (Builtin.len_ #[9] 3 #[x0]) w3 fun v25 w9 =>
   CallF P 213 #[v25] w9 fun v26 w10 =>
   condW v26 (
    CallF P 214 #[x1] w10 fun v29 w11 =>
    XV P (Instr.extract v29 0) w11 fun v30 w12 =>
    XV P (Instr.extract v29 1) w12 fun v31 w13 =>
    XV P (Instr.alloc 198 true (.tuple #[])) w13 fun v6 w14 =>
    XU P (Instr.storeAt 198 v6 v30) w14 fun w15 =>
    condW v31 (
     Z1 x0 v6 (.int .i64 0) w15) (
     Z3 x0 x1 w15)) (
    Z3 x0 x1 w10)))
def S205_0 (x0 x1 : Value) (w : World) (R : Value → World → Prop) : Prop := B205_0 (fun x0 x6 x8 w => S205_1 x0 x6 x8 w R) (fun x0 x1 w => S205_3 x0 x1 w R) x0 x1 w R
noncomputable abbrev b205_1 : Code := match subC [true, true, true, false, true, false, true, true, false, false, true, false] b205_0 with | .loop x => x | _ => .skip
abbrev V205_1 (K : Value → Value → Value → World → Prop) (e : Env) (w : World) : Prop := E1 e (.tmp 0) fun x0 => E1 e (.tmp 6) fun x6 => E1 e (.tmp 8) fun x8 => K x0 x6 x8 w
abbrev Q205_1 (K1 : Value → Value → Value → World → Prop) (R : Value → World → Prop) : Post := thenQ (V205_1 K1) (postC P 55 [true, true, true, false, true, false, true, true, false, false, true, false] b205_0 (Q205_0 R))
noncomputable abbrev b205_2 : Code := match subC [true, true, true, true, false, true, false] b205_0 with | .loop x => x | _ => .skip
abbrev V205_2 (K : Value → Value → World → Prop) (e : Env) (w : World) : Prop := E1 e (.tmp 1) fun x1 => E1 e (.tmp 45) fun x45 => K x1 x45 w
abbrev Q205_2 (K2 : Value → Value → World → Prop) (R : Value → World → Prop) : Post := thenQ (V205_2 K2) (postC P 55 [true, true, true, true, false, true, false] b205_0 (Q205_0 R))
theorem e205_4 (x0 x6 x8 : Value) (w : World) (K1 : Value → Value → Value → World → Prop) (R : Value → World → Prop) : S205_4 x0 x6 x8 w K1 R = Wp P 55 D205 [] b205_1 [] (thenQ (V205_1 K1) (postW P 55 D205 [true, true, true, false, true, false, true, true, false, false, true, false] b205_0 [] (Q205_0 R))) [(0, some x0), (6, some x6), (8, some x8)] w := by kernel_rfl
theorem q205_4 (x0 x6 x8 : Value) (w : World) (K1 : Value → Value → Value → World → Prop) (R : Value → World → Prop) (h : S205_4 x0 x6 x8 w K1 R) : Runs P 55 (subC [] b205_1) (postC P 55 [] b205_1 (Q205_1 K1 R)) [(0, some x0), (6, some x6), (8, some x8)] w :=
  Wp_use mixed (e205_4 x0 x6 x8 w K1 R) h (thenQ_le (postW_le mixed _ _ _ _ _ (fun _ _ _ h => h) trivial)) trivial
theorem q205_1 (x0 x6 x8 : Value) (w : World) (R : Value → World → Prop) (h : S205_1 x0 x6 x8 w R) : Runs P 55 (subC [true, true, true, false, true, false, true, true, false, false, true, false] b205_0) (postC P 55 [true, true, true, false, true, false, true, true, false, false, true, false] b205_0 (Q205_0 R)) [(0, some x0), (6, some x6), (8, some x8)] w :=
  Runs.loop (σ := Value × Value × Value) (fun s => [(0, some s.1), (6, some s.2.1), (8, some s.2.2)]) (fun e k => E1 e (.tmp 0) fun x0 => E1 e (.tmp 6) fun x6 => E1 e (.tmp 8) fun x8 => k (x0, x6, x8)) (fun e k h => let ⟨y0, h0, h⟩ := E1.elim h; let ⟨y6, h6, h⟩ := E1.elim h; let ⟨y8, h8, h⟩ := E1.elim h; ⟨(y0, y6, y8), h, (sub_cons h0 (sub_cons h6 (sub_cons h8 (sub_nil))))⟩) (fun s w K h => q205_4 s.1 s.2.1 s.2.2 w (fun x0 x6 x8 w => K (x0, x6, x8) w) R h) h
theorem e205_5 (x1 x45 : Value) (w : World) (K2 : Value → Value → World → Prop) (R : Value → World → Prop) : S205_5 x1 x45 w K2 R = Wp P 55 D205 [] b205_2 [] (thenQ (V205_2 K2) (postW P 55 D205 [true, true, true, true, false, true, false] b205_0 [] (Q205_0 R))) [(1, some x1), (45, some x45)] w := by kernel_rfl
theorem q205_5 (x1 x45 : Value) (w : World) (K2 : Value → Value → World → Prop) (R : Value → World → Prop) (h : S205_5 x1 x45 w K2 R) : Runs P 55 (subC [] b205_2) (postC P 55 [] b205_2 (Q205_2 K2 R)) [(1, some x1), (45, some x45)] w :=
  Wp_use mixed (e205_5 x1 x45 w K2 R) h (thenQ_le (postW_le mixed _ _ _ _ _ (fun _ _ _ h => h) trivial)) trivial
theorem q205_2 (x1 x45 : Value) (w : World) (R : Value → World → Prop) (h : S205_2 x1 x45 w R) : Runs P 55 (subC [true, true, true, true, false, true, false] b205_0) (postC P 55 [true, true, true, true, false, true, false] b205_0 (Q205_0 R)) [(1, some x1), (45, some x45)] w :=
  Runs.loop (σ := Value × Value) (fun s => [(1, some s.1), (45, some s.2)]) (fun e k => E1 e (.tmp 1) fun x1 => E1 e (.tmp 45) fun x45 => k (x1, x45)) (fun e k h => let ⟨y1, h1, h⟩ := E1.elim h; let ⟨y45, h45, h⟩ := E1.elim h; ⟨(y1, y45), h, (sub_cons h1 (sub_cons h45 (sub_nil)))⟩) (fun s w K h => q205_5 s.1 s.2 w (fun x1 x45 w => K (x1, x45) w) R h) h
theorem e205_3 (Z2 : Value → Value → World → Prop) (x0 x1 : Value) (w : World) (R : Value → World → Prop) : B205_3 Z2 x0 x1 w R = Wp P 55 D205 [true, true, true, true] b205_0 [([true, true, true, true, false, true, false], fun e w => E1 e (.tmp 1) fun x1 => E1 e (.tmp 45) fun x45 => Z2 x1 x45 w)] (Q205_0 R) [(0, some x0), (1, some x1)] w := by kernel_rfl
theorem q205_3 (x0 x1 : Value) (w : World) (R : Value → World → Prop) (h : S205_3 x0 x1 w R) : Runs P 55 (subC [true, true, true, true] b205_0) (postC P 55 [true, true, true, true] b205_0 (Q205_0 R)) [(0, some x0), (1, some x1)] w :=
  Wp_use mixed (e205_3 (fun x1 x45 w => S205_2 x1 x45 w R) x0 x1 w R) h (fun _ _ _ h => h) ⟨(fun e w h => let ⟨y1, h1, h⟩ := E1.elim h; let ⟨y45, h45, h⟩ := E1.elim h; (q205_2 y1 y45 w R h).more (sub_cons h1 (sub_cons h45 (sub_nil)))), trivial⟩
theorem e205_0 (Z1 : Value → Value → Value → World → Prop) (Z3 : Value → Value → World → Prop) (x0 x1 : Value) (w : World) (R : Value → World → Prop) : B205_0 Z1 Z3 x0 x1 w R = Wp P 55 D205 [] b205_0 [([true, true, true, false, true, false, true, true, false, false, true, false], fun e w => E1 e (.tmp 0) fun x0 => E1 e (.tmp 6) fun x6 => E1 e (.tmp 8) fun x8 => Z1 x0 x6 x8 w), ([true, true, true, true], fun e w => E1 e (.tmp 0) fun x0 => E1 e (.tmp 1) fun x1 => Z3 x0 x1 w)] (Q205_0 R) [(0, some x0), (1, some x1)] w := by kernel_rfl
theorem q205_0 (x0 x1 : Value) (w : World) (R : Value → World → Prop) (h : S205_0 x0 x1 w R) : Runs P 55 (subC [] b205_0) (postC P 55 [] b205_0 (Q205_0 R)) [(0, some x0), (1, some x1)] w :=
  Wp_use mixed (e205_0 (fun x0 x6 x8 w => S205_1 x0 x6 x8 w R) (fun x0 x1 w => S205_3 x0 x1 w R) x0 x1 w R) h (fun _ _ _ h => h) ⟨(fun e w h => let ⟨y0, h0, h⟩ := E1.elim h; let ⟨y6, h6, h⟩ := E1.elim h; let ⟨y8, h8, h⟩ := E1.elim h; (q205_1 y0 y6 y8 w R h).more (sub_cons h0 (sub_cons h6 (sub_cons h8 (sub_nil))))), (fun e w h => let ⟨y0, h0, h⟩ := E1.elim h; let ⟨y1, h1, h⟩ := E1.elim h; (q205_3 y0 y1 w R h).more (sub_cons h0 (sub_cons h1 (sub_nil)))), trivial⟩
theorem c205 (x0 x1 : Value) (w : World) (R : Value → World → Prop) (h : S205_0 x0 x1 w R) : CallF P 205 #[x0, x1] w R :=
  call_of_runs (args := [x0, x1]) (c := b205_0) (by kernel_rfl) func205 rfl (by kernel_rfl) (q205_0 x0 x1 w R h)

/-! ### 212 "strings.IndexRune" -/
noncomputable abbrev b212_0 : Code := (f212.body).getD .skip
abbrev D212 : Plans := [(6, [(0, false), (1, false), (2, false), (3, false), (4, false), (5, false), (6, false)], 7), (7, [(0, false), (1, false), (2, false), (3, false), (4, false), (5, false), (6, false), (7, true), (8, false)], 9), (14, [(0, false), (1, false), (2, false), (3, false), (4, false), (5, false), (6, false), (7, false), (8, false), (9, false), (10, false)], 11)]
abbrev Q212_0 (R : Value → World → Prop) : Post := retQ P f212.results.toList R
def S212_4 (x175 : Value) (w : World) (K1 : Value → World → Prop) (R : Value → World → Prop) : Prop :=
 XV P (Instr.next x175 true 0) w fun v176 w1 =>
 XV P (Instr.extract v176 0) w1 fun v177 w2 =>
 condW v177 (
  XV P (Instr.extract v176 1) w2 fun v178 w3 =>
  XV P (Instr.extract v176 2) w3 fun v179 w4 =>
  XV P (binS .eql 21 true v179 (.int .i32 65533)) w4 fun v181 w5 =>
  condW v181 (
   R v178 w5) (
   K1 x175 w5)) (
  R (.int .i64 (-1)) w2)
def S212_1 (x175 : Value) (w : World) (R : Value → World → Prop) : Prop :=
 LoopP (fun (s : Value) w K => S212_4 s w (fun x175 w => K x175 w) R) x175 w
def S212_8 (x0 x7 x8 x9 x12 : Value) (w : World) (K2 : Value → Value → Value → Value → World → Prop) (K3 : Value → Value → Value → Value → Value → World → Prop) (R : Value → World → Prop) : Prop :=
 XV P (Builtin.len_ #[9] 3 #[x7]) w fun v50 w1 =>
 XV P (binS .lss 3 false x12 v50) w1 fun v51 w2 =>
 condW v51 (
  XS P (Ext (World.drew w2)) (binS .sub 3 false x9 x12) fun v57 =>
  XS P (Ext (World.drew w2)) (Instr.index 9 x0 v57) fun v58 =>
  XS P (Ext (World.drew w2)) (binS .sub 3 false x8 x12) fun v62 =>
  XS P (Ext (World.drew w2)) (Instr.index 9 x7 v62) fun v63 =>
  XS P (Ext (World.drew w2)) (binS .neq 5 false v58 v63) fun v64 =>
  condW v64 (
   False) (
   XV P (binS .add 3 true x12 (.int .i64 1)) (World.drew w2) fun v53 w3 =>
   K3 x0 x7 x8 x9 v53 w3)) (
  XV P (binS .sub 3 false x9 x8) w2 fun v67 w4 =>
  R v67 w4)
def S212_6 (x0 x7 x8 x9 x12 : Value) (w : World) (K2 : Value → Value → Value → Value → World → Prop) (R : Value → World → Prop) : Prop :=
 LoopP (fun (s : Value × Value × Value × Value × Value) w K => S212_8 s.1 s.2.1 s.2.2.1 s.2.2.2.1 s.2.2.2.2 w K2 (fun x0 x7 x8 x9 x12 w => K (x0, x7, x8, x9, x12) w) R) (x0, x7, x8, x9, x12) w
def B212_7 (Z6 : Value → Value → Value → Value → Value → World → Prop) (x0 x7 x8 x9 : Value) (w : World) (K2 : Value → Value → Value → Value → World → Prop) (R : Value → World → Prop) : Prop :=
 Z6 x0 x7 x8 x9 (.int .i64 1) w
def S212_7 (x0 x7 x8 x9 : Value) (w : World) (K2 : Value → Value → Value → Value → World → Prop) (R : Value → World → Prop) : Prop := B212_7 (fun x0 x7 x8 x9 x12 w => S212_6 x0 x7 x8 x9 x12 w K2 R) x0 x7 x8 x9 w K2 R
def B212_5 (Z7 : Value → Value → Value → Value → World → Prop) (x0 x7 x8 x9 : Value) (w : World) (K2 : Value → Value → Value → Value → World → Prop) (R : Value → World → Prop) : Prop :=
 XV P (Builtin.len_ #[9] 3 #[x0]) w fun v25 w1 =>
 XV P (binS .lss 3 false x9 v25) w1 fun v26 w2 =>
 condW v26 (
  XS P (Ext (World.drew w2)) (Instr.index 9 x0 x9) fun v29 =>
  XS P (Ext (World.drew w2)) (Instr.index 9 x7 x8) fun v32 =>
  XS P (Ext (World.drew w2)) (binS .neq 5 false v29 v32) fun v33 =>
  condW v33 (
   XS P (Ext (World.drew (World.drew w2))) (binS .add 3 true x9 (.int .i64 1)) fun v36 =>
   XS P (Ext (World.drew (World.drew w2))) (Instr.sliceAt 9 x0 (some v36) none none) fun v37 =>
   XS P (Ext (World.drew (World.drew w2))) (Instr.index 9 x7 x8) fun v40 =>
   CallF P 217 #[v37, v40] (World.drew (World.drew w2)) fun v41 w3 =>
   Ext (World.drew (World.drew w2)) w3 ∧
   XV P (binS .lss 3 true v41 (.int .i64 0)) w3 fun v43 w4 =>
   condW v43 (
    R (.int .i64 (-1)) w4) (
    XV P (binS .add 3 true v41 (.int .i64 1)) w4 fun v46 w5 =>
    XV P (binS .add 3 false x9 v46) w5 fun v47 w6 =>
    Z7 x0 x7 x8 v47 w6)) (
   Z7 x0 x7 x8 x9 (World.drew w2))) (
  R (.int .i64 (-1)) w2)
def S212_5 (x0 x7 x8 x9 : Value) (w : World) (K2 : Value → Value → Value → Value → World → Prop) (R : Value → World → Prop) : Prop := B212_5 (fun x0 x7 x8 x9 w => S212_7 x0 x7 x8 x9 w K2 R) x0 x7 x8 x9 w K2 R
def S212_2 (x0 x7 x8 x9 : Value) (w : World) (R : Value → World → Prop) : Prop :=
 LoopP (fun (s : Value × Value × Value × Value) w K => S212_5 s.1 s.2.1 s.2.2.1 s.2.2.2 w (fun x0 x7 x8 x9 w => K (x0, x7, x8, x9) w) R) (x0, x7, x8, x9) w
def B212_3 (Z1 : Value → World → Prop) (Z2 : Value → Value → Value → Value → World → Prop) (x0 x1 x160 : Value) (w : World) (R : Value → World → Prop) : Prop :=
 condW x160 (
  XV P (convert 21 5 x1) w fun v169 w1 =>
  CallF P 217 #[x0, v169] w1 fun v170 w2 =>
  R v170 w2) (
  XV P (binS .eql 21 true x1 (.int .i32 65533)) w fun v173 w3 =>
  condW v173 (
   XV P (Instr.range 9 x0) w3 fun v175 w4 =>
   Z1 v175 w4) (
   CallF P 218 #[x1] w3 fun v185 w5 =>
   XV P (Op.unary .not v185) w5 fun v186 w6 =>
   condW v186 (
    R (.int .i64 (-1)) w6) (
    XV P (convert 21 9 x1) w6 fun v18 w7 =>
    XV P (Builtin.len_ #[9] 3 #[v18]) w7 fun v20 w8 =>
    XV P (binS .sub 3 true v20 (.int .i64 1)) w8 fun v21 w9 =>
    Z2 x0 v18 v21 v21 w9)))
def S212_3 (x0 x1 x160 : Value) (w : World) (R : Value → World → Prop) : Prop := B212_3 (fun x175 w => S212_1 x175 w R) (fun x0 x7 x8 x9 w => S212_2 x0 x7 x8 x9 w R) x0 x1 x160 w R
def B212_0 (Z3 : Value → Value → Value → World → Prop) (x0 x1 : Value) (w : World) (R : Value → World → Prop) : Prop :=
 XV P (binS .leq 21 true (.int .i32 0) x1) w fun v162 w1 =>
 gd v162 true (
  XV P (binS .lss 21 true x1 (.int .i32 128)) w1 fun v165 w2 =>
  Z3 x0 x1 v165 w2) (
  Z3 x0 x1 (.bool false) w1)
def S212_0 (x0 x1 : Value) (w : World) (R : Value → World → Prop) : Prop := B212_0 (fun x0 x1 x160 w => S212_3 x0 x1 x160 w R) x0 x1 w R
noncomputable abbrev b212_1 : Code := match subC [true, false, true, true, true, false, false, true, false] b212_0 with | .loop x => x | _ => .skip
abbrev V212_1 (K : Value → World → Prop) (e : Env) (w : World) : Prop := E1 e (.tmp 175) fun x175 => K x175 w
abbrev Q212_1 (K1 : Value → World → Prop) (R : Value → World → Prop) : Post := thenQ (V212_1 K1) (postC P 187 [true, false, true, true, true, false, false, true, false] b212_0 (Q212_0 R))
noncomputable abbrev b212_2 : Code := match subC [true, false, true, true, true, true, true, true, false, true, true, true, true, false, false] b212_0 with | .loop x => x | _ => .skip
abbrev V212_2 (K : Value → Value → Value → Value → World → Prop) (e : Env) (w : World) : Prop := E1 e (.tmp 0) fun x0 => E1 e (.tmp 7) fun x7 => E1 e (.tmp 8) fun x8 => E1 e (.tmp 9) fun x9 => K x0 x7 x8 x9 w
abbrev Q212_2 (K2 : Value → Value → Value → Value → World → Prop) (R : Value → World → Prop) : Post := thenQ (V212_2 K2) (postC P 187 [true, false, true, true, true, true, true, true, false, true, true, true, true, false, false] b212_0 (Q212_0 R))
noncomputable abbrev b212_3 : Code := match subC [true, false, false, true, false, true, false] b212_2 with | .loop x => x | _ => .skip
abbrev V212_3 (K : Value → Value → Value → Value → Value → World → Prop) (e : Env) (w : World) : Prop := E1 e (.tmp 0) fun x0 => E1 e (.tmp 7) fun x7 => E1 e (.tmp 8) fun x8 => E1 e (.tmp 9) fun x9 => E1 e (.tmp 12) fun x12 => K x0 x7 x8 x9 x12 w
abbrev Q212_3 (K2 : Value → Value → Value → Value → World → Prop) (K3 : Value → Value → Value → Value → Value → World → Prop) (R : Value → World → Prop) : Post := thenQ (V212_3 K3) (postC P 187 [true, false, false, true, false, true, false] b212_2 (Q212_2 K2 R))
theorem e212_4 (x175 : Value) (w : World) (K1 : Value → World → Prop) (R : Value → World → Prop) : S212_4 x175 w K1 R = Wp P 187 D212 [] b212_1 [] (thenQ (V212_1 K1) (postW P 187 D212 [true, false, true, true, true, false, false, true, false] b212_0 [] (Q212_0 R))) [(175, some x175)] w := by kernel_rfl
theorem q212_4 (x175 : Value) (w : World) (K1 : Value → World → Prop) (R : Value → World → Prop) (h : S212_4 x175 w K1 R) : Runs P 187 (subC [] b212_1) (postC P 187 [] b212_1 (Q212_1 K1 R)) [(175, some x175)] w :=
  Wp_use mixed (e212_4 x175 w K1 R) h (thenQ_le (postW_le mixed _ _ _ _ _ (fun _ _ _ h => h) trivial)) trivial
theorem q212_1 (x175 : Value) (w : World) (R : Value → World → Prop) (h : S212_1 x175 w R) : Runs P 187 (subC [true, false, true, true, true, false, false, true, false] b212_0) (postC P 187 [true, false, true, true, true, false, false, true, false] b212_0 (Q212_0 R)) [(175, some x175)] w :=
  Runs.loop (σ := Value) (fun s => [(175, some s)]) (fun e k => E1 e (.tmp 175) fun x175 => k x175) (fun e k h => let ⟨y175, h175, h⟩ := E1.elim h; ⟨y175, h, (sub_cons h175 (sub_nil))⟩) (fun s w K h => q212_4 s w (fun x175 w => K x175 w) R h) h
theorem e212_8 (x0 x7 x8 x9 x12 : Value) (w : World) (K2 : Value → Value → Value → Value → World → Prop) (K3 : Value → Value → Value → Value → Value → World → Prop) (R : Value → World → Prop) : S212_8 x0 x7 x8 x9 x12 w K2 K3 R = Wp P 187 D212 [] b212_3 [] (thenQ (V212_3 K3) (postW P 187 D212 [true, false, false, true, false, true, false] b212_2 [] (thenQ (V212_2 K2) (postW P 187 D212 [true, false, true, true, true, true, true, true, false, true, true, true, true, false, false] b212_0 [] (Q212_0 R))))) [(0, some x0), (7, some x7), (8, some x8), (9, some x9), (12, some x12)] w := by kernel_rfl
theorem q212_8 (x0 x7 x8 x9 x12 : Value) (w : World) (K2 : Value → Value → Value → Value → World → Prop) (K3 : Value → Value → Value → Value → Value → World → Prop) (R : Value → World → Prop) (h : S212_8 x0 x7 x8 x9 x12 w K2 K3 R) : Runs P 187 (subC [] b212_3) (postC P 187 [] b212_3 (Q212_3 K2 K3 R)) [(0, some x0), (7, some x7), (8, some x8), (9, some x9), (12, some x12)] w :=
  Wp_use mixed (e212_8 x0 x7 x8 x9 x12 w K2 K3 R) h (thenQ_le (postW_le mixed _ _ _ _ _ (thenQ_le (postW_le mixed _ _ _ _ _ (fun _ _ _ h => h) trivial)) trivial)) trivial
theorem q212_6 (x0 x7 x8 x9 x12 : Value) (w : World) (K2 : Value → Value → Value → Value → World → Prop) (R : Value → World → Prop) (h : S212_6 x0 x7 x8 x9 x12 w K2 R) : Runs P 187 (subC [true, false, false, true, false, true, false] b212_2) (postC P 187 [true, false, false, true, false, true, false] b212_2 (Q212_2 K2 R)) [(0, some x0), (7, some x7), (8, some x8), (9, some x9), (12, some x12)] w :=
  Runs.loop (σ := Value × Value × Value × Value × Value) (fun s => [(0, some s.1), (7, some s.2.1), (8, some s.2.2.1), (9, some s.2.2.2.1), (12, some s.2.2.2.2)]) (fun e k => E1 e (.tmp 0) fun x0 => E1 e (.tmp 7) fun x7 => E1 e (.tmp 8) fun x8 => E1 e (.tmp 9) fun x9 => E1 e (.tmp 12) fun x12 => k (x0, x7, x8, x9, x12)) (fun e k h => let ⟨y0, h0, h⟩ := E1.elim h; let ⟨y7, h7, h⟩ := E1.elim h; let ⟨y8, h8, h⟩ := E1.elim h; let ⟨y9, h9, h⟩ := E1.elim h; let ⟨y12, h12, h⟩ := E1.elim h; ⟨(y0, y7, y8, y9, y12), h, (sub_cons h0 (sub_cons h7 (sub_cons h8 (sub_cons h9 (sub_cons h12 (sub_nil))))))⟩) (fun s w K h => q212_8 s.1 s.2.1 s.2.2.1 s.2.2.2.1 s.2.2.2.2 w K2 (fun x0 x7 x8 x9 x12 w => K (x0, x7, x8, x9, x12) w) R h) h
theorem e212_7 (Z6 : Value → Value → Value → Value → Value → World → Prop) (x0 x7 x8 x9 : Value) (w : World) (K2 : Value → Value → Value → Value → World → Prop) (R : Value → World → Prop) : B212_7 Z6 x0 x7 x8 x9 w K2 R = Wp P 187 D212 [true, false, false, true] b212_2 [([true, false, false, true, false, true, false], fun e w => E1 e (.tmp 0) fun x0 => E1 e (.tmp 7) fun x7 => E1 e (.tmp 8) fun x8 => E1 e (.tmp 9) fun x9 => E1 e (.tmp 12) fun x12 => Z6 x0 x7 x8 x9 x12 w)] (thenQ (V212_2 K2) (postW P 187 D212 [true, false, true, true, true, true, true, true, false, true, true, true, true, false, false] b212_0 [] (Q212_0 R))) [(0, some x0), (7, some x7), (8, some x8), (9, some x9)] w := by kernel_rfl
theorem q212_7 (x0 x7 x8 x9 : Value) (w : World) (K2 : Value → Value → Value → Value → World → Prop) (R : Value → World → Prop) (h : S212_7 x0 x7 x8 x9 w K2 R) : Runs P 187 (subC [true, false, false, true] b212_2) (postC P 187 [true, false, false, true] b212_2 (Q212_2 K2 R)) [(0, some x0), (7, some x7), (8, some x8), (9, some x9)] w :=
  Wp_use mixed (e212_7 (fun x0 x7 x8 x9 x12 w => S212_6 x0 x7 x8 x9 x12 w K2 R) x0 x7 x8 x9 w K2 R) h (thenQ_le (postW_le mixed _ _ _ _ _ (fun _ _ _ h => h) trivial)) ⟨(fun e w h => let ⟨y0, h0, h⟩ := E1.elim h; let ⟨y7, h7, h⟩ := E1.elim h; let ⟨y8, h8, h⟩ := E1.elim h; let ⟨y9, h9, h⟩ := E1.elim h; let ⟨y12, h12, h⟩ := E1.elim h; (q212_6 y0 y7 y8 y9 y12 w K2 R h).more (sub_cons h0 (sub_cons h7 (sub_cons h8 (sub_cons h9 (sub_cons h12 (sub_nil))))))), trivial⟩
theorem e212_5 (Z7 : Value → Value → Value → Value → World → Prop) (x0 x7 x8 x9 : Value) (w : World) (K2 : Value → Value → Value → Value → World → Prop) (R : Value → World → Prop) : B212_5 Z7 x0 x7 x8 x9 w K2 R = Wp P 187 D212 [] b212_2 [([true, false, false, true], fun e w => E1 e (.tmp 0) fun x0 => E1 e (.tmp 7) fun x7 => E1 e (.tmp 8) fun x8 => E1 e (.tmp 9) fun x9 => Z7 x0 x7 x8 x9 w)] (thenQ (V212_2 K2) (postW P 187 D212 [true, false, true, true, true, true, true, true, false, true, true, true, true, false, false] b212_0 [] (Q212_0 R))) [(0, some x0), (7, some x7), (8, some x8), (9, some x9)] w := by kernel_rfl
theorem q212_5 (x0 x7 x8 x9 : Value) (w : World) (K2 : Value → Value → Value → Value → World → Prop) (R : Value → World → Prop) (h : S212_5 x0 x7 x8 x9 w K2 R) : Runs P 187 (subC [] b212_2) (postC P 187 [] b212_2 (Q212_2 K2 R)) [(0, some x0), (7, some x7), (8, some x8), (9, some x9)] w :=
  Wp_use mixed (e212_5 (fun x0 x7 x8 x9 w => S212_7 x0 x7 x8 x9 w K2 R) x0 x7 x8 x9 w K2 R) h (thenQ_le (postW_le mixed _ _ _ _ _ (fun _ _ _ h => h) trivial)) ⟨(fun e w h => let ⟨y0, h0, h⟩ := E1.elim h; let ⟨y7, h7, h⟩ := E1.elim h; let ⟨y8, h8, h⟩ := E1.elim h; let ⟨y9, h9, h⟩ := E1.elim h; (q212_7 y0 y7 y8 y9 w K2 R h).more (sub_cons h0 (sub_cons h7 (sub_cons h8 (sub_cons h9 (sub_nil)))))), trivial⟩
theorem q212_2 (x0 x7 x8 x9 : Value) (w : World) (R : Value → World → Prop) (h : S212_2 x0 x7 x8 x9 w R) : Runs P 187 (subC [true, false, true, true, true, true, true, true, false, true, true, true, true, false, false] b212_0) (postC P 187 [true, false, true, true, true, true, true, true, false, true, true, true, true, false, false] b212_0 (Q212_0 R)) [(0, some x0), (7, some x7), (8, some x8), (9, some x9)] w :=
  Runs.loop (σ := Value × Value × Value × Value) (fun s => [(0, some s.1), (7, some s.2.1), (8, some s.2.2.1), (9, some s.2.2.2)]) (fun e k => E1 e (.tmp 0) fun x0 => E1 e (.tmp 7) fun x7 => E1 e (.tmp 8) fun x8 => E1 e (.tmp 9) fun x9 => k (x0, x7, x8, x9)) (fun e k h => let ⟨y0, h0, h⟩ := E1.elim h; let ⟨y7, h7, h⟩ := E1.elim h; let ⟨y8, h8, h⟩ := E1.elim h; let ⟨y9, h9, h⟩ := E1.elim h; ⟨(y0, y7, y8, y9), h, (sub_cons h0 (sub_cons h7 (sub_cons h8 (sub_cons h9 (sub_nil)))))⟩) (fun s w K h => q212_5 s.1 s.2.1 s.2.2.1 s.2.2.2 w (fun x0 x7 x8 x9 w => K (x0, x7, x8, x9) w) R h) h
theorem e212_3 (Z1 : Value → World → Prop) (Z2 : Value → Value → Value → Value → World → Prop) (x0 x1 x160 : Value) (w : World) (R : Value → World → Prop) : B212_3 Z1 Z2 x0 x1 x160 w R = Wp P 187 D212 [true, false, true] b212_0 [([true, false, true, true, true, false, false, true, false], fun e w => E1 e (.tmp 175) fun x175 => Z1 x175 w), ([true, false, true, true, true, true, true, true, false, true, true, true, true, false, false], fun e w => E1 e (.tmp 0) fun x0 => E1 e (.tmp 7) fun x7 => E1 e (.tmp 8) fun x8 => E1 e (.tmp 9) fun x9 => Z2 x0 x7 x8 x9 w)] (Q212_0 R) [(0, some x0), (1, some x1), (160, some x160)] w := by kernel_rfl
theorem q212_3 (x0 x1 x160 : Value) (w : World) (R : Value → World → Prop) (h : S212_3 x0 x1 x160 w R) : Runs P 187 (subC [true, false, true] b212_0) (postC P 187 [true, false, true] b212_0 (Q212_0 R)) [(0, some x0), (1, some x1), (160, some x160)] w :=
  Wp_use mixed (e212_3 (fun x175 w => S212_1 x175 w R) (fun x0 x7 x8 x9 w => S212_2 x0 x7 x8 x9 w R) x0 x1 x160 w R) h (fun _ _ _ h => h) ⟨(fun e w h => let ⟨y175, h175, h⟩ := E1.elim h; (q212_1 y175 w R h).more (sub_cons h175 (sub_nil))), (fun e w h => let ⟨y0, h0, h⟩ := E1.elim h; let ⟨y7, h7, h⟩ := E1.elim h; let ⟨y8, h8, h⟩ := E1.elim h; let ⟨y9, h9, h⟩ := E1.elim h; (q212_2 y0 y7 y8 y9 w R h).more (sub_cons h0 (sub_cons h7 (sub_cons h8 (sub_cons h9 (sub_nil)))))), trivial⟩
theorem e212_0 (Z3 : Value → Value → Value → World → Prop) (x0 x1 : Value) (w : World) (R : Value → World → Prop) : B212_0 Z3 x0 x1 w R = Wp P 187 D212 [] b212_0 [([true, false, true], fun e w => E1 e (.tmp 0) fun x0 => E1 e (.tmp 1) fun x1 => E1 e (.tmp 160) fun x160 => Z3 x0 x1 x160 w)] (Q212_0 R) [(0, some x0), (1, some x1)] w := by kernel_rfl
theorem q212_0 (x0 x1 : Value) (w : World) (R : Value → World → Prop) (h : S212_0 x0 x1 w R) : Runs P 187 (subC [] b212_0) (postC P 187 [] b212_0 (Q212_0 R)) [(0, some x0), (1, some x1)] w :=
  Wp_use mixed (e212_0 (fun x0 x1 x160 w => S212_3 x0 x1 x160 w R) x0 x1 w R) h (fun _ _ _ h => h) ⟨(fun e w h => let ⟨y0, h0, h⟩ := E1.elim h; let ⟨y1, h1, h⟩ := E1.elim h; let ⟨y160, h160, h⟩ := E1.elim h; (q212_3 y0 y1 y160 w R h).more (sub_cons h0 (sub_cons h1 (sub_cons h160 (sub_nil))))), trivial⟩
theorem c212 (x0 x1 : Value) (w : World) (R : Value → World → Prop) (h : S212_0 x0 x1 w R) : CallF P 212 #[x0, x1] w R :=
  call_of_runs (args := [x0, x1]) (c := b212_0) (by kernel_rfl) func212 rfl (by kernel_rfl) (q212_0 x0 x1 w R h)

/-! ### 213 "strings.shouldUseASCIISet" -/
noncomputable abbrev b213_0 : Code := (f213.body).getD .skip
abbrev D213 : Plans := []
abbrev Q213_0 (R : Value → World → Prop) : Post := retQ P f213.results.toList R
def S213_0 (x0 : Value) (w : World) (R : Value → World → Prop) : Prop :=
 XV P (binS .gtr 3 true x0 (.int .i64 8)) w fun v4 w1 =>
 R v4 w1
theorem e213_0 (x0 : Value) (w : World) (R : Value → World → Prop) : S213_0 x0 w R = Wp P 5 D213 [] b213_0 [] (Q213_0 R) [(0, some x0)] w := by kernel_rfl
theorem q213_0 (x0 : Value) (w : World) (R : Value → World → Prop) (h : S213_0 x0 w R) : Runs P 5 (subC [] b213_0) (postC P 5 [] b213_0 (Q213_0 R)) [(0, some x0)] w :=
  Wp_use mixed (e213_0 x0 w R) h (fun _ _ _ h => h) trivial
theorem c213 (x0 : Value) (w : World) (R : Value → World → Prop) (h : S213_0 x0 w R) : CallF P 213 #[x0] w R :=
  call_of_runs (args := [x0]) (c := b213_0) (by kernel_rfl) func213 rfl (by kernel_rfl) (q213_0 x0 w R h)

/-! ### 214 "strings.makeASCIISet" -/
noncomputable abbrev b214_0 : Code := (f214.body).getD .skip
abbrev D214 : Plans := []
abbrev Q214_0 (R : Value → World → Prop) : Post := retQ P f214.results.toList R
def S214_2 (x0 x2 x4 : Value) (w : World) (K1 : Value → Value → Value → World → Prop) (R : Value → World → Prop) : Prop :=
 XV P (Builtin.len_ #[9] 3 #[x0]) w fun v8 w1 =>
 XV P (binS .lss 3 false x4 v8) w1 fun v9 w2 =>
 condW v9 (
  XV P (Instr.index 9 x0 x4) w2 fun v14 w3 =>
  XV P (binS .geq 5 true v14 (.int .u8 128)) w3 fun v16 w4 =>
  condW v16 (
   XV P (Instr.loadAt 198 x2) w4 fun v17 w5 =>
   XU P (Instr.storeAt 198 x2 v17) w5 fun w6 =>
   ∃ v2, (do loadVar 198 (← asAddr x2) : Sem Value).run P w6 = .ok v2 w6 ∧ R (.tuple #[v2, (.bool false)]) w6) (
   XV P (Instr.indexAt 198 x2 v14) w4 fun v19 w7 =>
   XU P (Instr.storeAt 4 v19 (.bool true)) w7 fun w8 =>
   XV P (binS .add 3 true x4 (.int .i64 1)) w8 fun v11 w9 =>
   K1 x0 x2 v11 w9)) (
  XV P (Instr.loadAt 198 x2) w2 fun v20 w10 =>
  XU P (Instr.storeAt 198 x2 v20) w10 fun w11 =>
  ∃ v2_1, (do loadVar 198 (← asAddr x2) : Sem Value).run P w11 = .ok v2_1 w11 ∧ R (.tuple #[v2_1, (.bool true)]) w11)
def S214_1 (x0 x2 x4 : Value) (w : World) (R : Value → World → Prop) : Prop :=
 LoopP (fun (s : Value × Value × Value) w K => S214_2 s.1 s.2.1 s.2.2 w (fun x0 x2 x4 w => K (x0, x2, x4) w) R) (x0, x2, x4) w
def B214_0 (Z1 : Value → Value → Value → World → Prop) (x0 : Value) (w : World) (R : Value → World → Prop) : Prop :=
 XV P (Instr.alloc 198 true (.tuple #[])) w fun v2 w1 =>
 Z1 x0 v2 (.int .i64 0) w1
def S214_0 (x0 : Value) (w : World) (R : Value → World → Prop) : Prop := B214_0 (fun x0 x2 x4 w => S214_1 x0 x2 x4 w R) x0 w R
noncomputable abbrev b214_1 : Code := match subC [true, false, true, false] b214_0 with | .loop x => x | _ => .skip
abbrev V214_1 (K : Value → Value → Value → World → Prop) (e : Env) (w : World) : Prop := E1 e (.tmp 0) fun x0 => E1 e (.tmp 2) fun x2 => E1 e (.tmp 4) fun x4 => K x0 x2 x4 w
abbrev Q214_1 (K1 : Value → Value → Value → World → Prop) (R : Value → World → Prop) : Post := thenQ (V214_1 K1) (postC P 21 [true, false, true, false] b214_0 (Q214_0 R))
theorem e214_2 (x0 x2 x4 : Value) (w : World) (K1 : Value → Value → Value → World → Prop) (R : Value → World → Prop) : S214_2 x0 x2 x4 w K1 R = Wp P 21 D214 [] b214_1 [] (thenQ (V214_1 K1) (postW P 21 D214 [true, false, true, false] b214_0 [] (Q214_0 R))) [(0, some x0), (2, some x2), (4, some x4)] w := by kernel_rfl
theorem q214_2 (x0 x2 x4 : Value) (w : World) (K1 : Value → Value → Value → World → Prop) (R : Value → World → Prop) (h : S214_2 x0 x2 x4 w K1 R) : Runs P 21 (subC [] b214_1) (postC P 21 [] b214_1 (Q214_1 K1 R)) [(0, some x0), (2, some x2), (4, some x4)] w :=
  Wp_use mixed (e214_2 x0 x2 x4 w K1 R) h (thenQ_le (postW_le mixed _ _ _ _ _ (fun _ _ _ h => h) trivial)) trivial
theorem q214_1 (x0 x2 x4 : Value) (w : World) (R : Value → World → Prop) (h : S214_1 x0 x2 x4 w R) : Runs P 21 (subC [true, false, true, false] b214_0) (postC P 21 [true, false, true, false] b214_0 (Q214_0 R)) [(0, some x0), (2, some x2), (4, some x4)] w :=
  Runs.loop (σ := Value × Value × Value) (fun s => [(0, some s.1), (2, some s.2.1), (4, some s.2.2)]) (fun e k => E1 e (.tmp 0) fun x0 => E1 e (.tmp 2) fun x2 => E1 e (.tmp 4) fun x4 => k (x0, x2, x4)) (fun e k h => let ⟨y0, h0, h⟩ := E1.elim h; let ⟨y2, h2, h⟩ := E1.elim h; let ⟨y4, h4, h⟩ := E1.elim h; ⟨(y0, y2, y4), h, (sub_cons h0 (sub_cons h2 (sub_cons h4 (sub_nil))))⟩) (fun s w K h => q214_2 s.1 s.2.1 s.2.2 w (fun x0 x2 x4 w => K (x0, x2, x4) w) R h) h
theorem e214_0 (Z1 : Value → Value → Value → World → Prop) (x0 : Value) (w : World) (R : Value → World → Prop) : B214_0 Z1 x0 w R = Wp P 21 D214 [] b214_0 [([true, false, true, false], fun e w => E1 e (.tmp 0) fun x0 => E1 e (.tmp 2) fun x2 => E1 e (.tmp 4) fun x4 => Z1 x0 x2 x4 w)] (Q214_0 R) [(0, some x0)] w := by kernel_rfl
theorem q214_0 (x0 : Value) (w : World) (R : Value → World → Prop) (h : S214_0 x0 w R) : Runs P 21 (subC [] b214_0) (postC P 21 [] b214_0 (Q214_0 R)) [(0, some x0)] w :=
  Wp_use mixed (e214_0 (fun x0 x2 x4 w => S214_1 x0 x2 x4 w R) x0 w R) h (fun _ _ _ h => h) ⟨(fun e w h => let ⟨y0, h0, h⟩ := E1.elim h; let ⟨y2, h2, h⟩ := E1.elim h; let ⟨y4, h4, h⟩ := E1.elim h; (q214_1 y0 y2 y4 w R h).more (sub_cons h0 (sub_cons h2 (sub_cons h4 (sub_nil))))), trivial⟩
theorem c214 (x0 : Value) (w : World) (R : Value → World → Prop) (h : S214_0 x0 w R) : CallF P 214 #[x0] w R :=
  call_of_runs (args := [x0]) (c := b214_0) (by kernel_rfl) func214 rfl (by kernel_rfl) (q214_0 x0 w R h)

/-! ### 215 "(*strings.asciiSet).contains" -/
noncomputable abbrev b215_0 : Code := (f215.body).getD .skip
abbrev D215 : Plans := []
abbrev Q215_0 (R : Value → World → Prop) : Post := retQ P f215.results.toList R
def S215_0 (x0 x1 : Value) (w : World) (R : Value → World → Prop) : Prop :=
 XN P (nilS x0) w fun v7 w1 =>
 LI P 198 4 v7 x1 w1 fun v9 w3 =>
 R v9 w3
theorem e215_0 (x0 x1 : Value) (w : World) (R : Value → World → Prop) : S215_0 x0 x1 w R = Wp P 10 D215 [] b215_0 [] (Q215_0 R) [(0, some x0), (1, some x1)] w := by kernel_rfl
theorem q215_0 (x0 x1 : Value) (w : World) (R : Value → World → Prop) (h : S215_0 x0 x1 w R) : Runs P 10 (subC [] b215_0) (postC P 10 [] b215_0 (Q215_0 R)) [(0, some x0), (1, some x1)] w :=
  Wp_use mixed (e215_0 x0 x1 w R) h (fun _ _ _ h => h) trivial
theorem c215 (x0 x1 : Value) (w : World) (R : Value → World → Prop) (h : S215_0 x0 x1 w R) : CallF P 215 #[x0, x1] w R :=
  call_of_runs (args := [x0, x1]) (c := b215_0) (by kernel_rfl) func215 rfl (by kernel_rfl) (q215_0 x0 x1 w R h)

/-! ### 217 "strings.IndexByte" -/
noncomputable abbrev b217_0 : Code := (f217.body).getD .skip
abbrev D217 : Plans := []
abbrev Q217_0 (R : Value → World → Prop) : Post := retQ P f217.results.toList R
def S217_0 (x0 x1 : Value) (w : World) (R : Value → World → Prop) : Prop :=
 CallF P 225 #[x0, x1] w fun v7 w1 =>
 R v7 w1
theorem e217_0 (x0 x1 : Value) (w : World) (R : Value → World → Prop) : S217_0 x0 x1 w R = Wp P 8 D217 [] b217_0 [] (Q217_0 R) [(0, some x0), (1, some x1)] w := by kernel_rfl
theorem q217_0 (x0 x1 : Value) (w : World) (R : Value → World → Prop) (h : S217_0 x0 x1 w R) : Runs P 8 (subC [] b217_0) (postC P 8 [] b217_0 (Q217_0 R)) [(0, some x0), (1, some x1)] w :=
  Wp_use mixed (e217_0 x0 x1 w R) h (fun _ _ _ h => h) trivial
theorem c217 (x0 x1 : Value) (w : World) (R : Value → World → Prop) (h : S217_0 x0 x1 w R) : CallF P 217 #[x0, x1] w R :=
  call_of_runs (args := [x0, x1]) (c := b217_0) (by kernel_rfl) func217 rfl (by kernel_rfl) (q217_0 x0 x1 w R h)

/-! ### 225 "internal/stringslite.IndexByte" -/
noncomputable abbrev b225_0 : Code := (f225.body).getD .skip
abbrev D225 : Plans := []
abbrev Q225_0 (R : Value → World → Prop) : Post := retQ P f225.results.toList R
def S225_0 (x0 x1 : Value) (w : World) (R : Value → World → Prop) : Prop :=
 CallF P 231 #[x0, x1] w fun v7 w1 =>
 R v7 w1
theorem e225_0 (x0 x1 : Value) (w : World) (R : Value → World → Prop) : S225_0 x0 x1 w R = Wp P 8 D225 [] b225_0 [] (Q225_0 R) [(0, some x0), (1, some x1)] w := by kernel_rfl
theorem q225_0 (x0 x1 : Value) (w : World) (R : Value → World → Prop) (h : S225_0 x0 x1 w R) : Runs P 8 (subC [] b225_0) (postC P 8 [] b225_0 (Q225_0 R)) [(0, some x0), (1, some x1)] w :=
  Wp_use mixed (e225_0 x0 x1 w R) h (fun _ _ _ h => h) trivial
theorem c225 (x0 x1 : Value) (w : World) (R : Value → World → Prop) (h : S225_0 x0 x1 w R) : CallF P 225 #[x0, x1] w R :=
  call_of_runs (args := [x0, x1]) (c := b225_0) (by kernel_rfl) func225 rfl (by kernel_rfl) (q225_0 x0 x1 w R h)

/-! ### 218 "unicode/utf8.ValidRune" -/
noncomputable abbrev b218_0 : Code := (f218.body).getD .skip
abbrev D218 : Plans := []
abbrev Q218_0 (R : Value → World → Prop) : Post := retQ P f218.results.toList R
def S218_1 (x0 x3 : Value) (w : World) (R : Value → World → Prop) : Prop :=
 condW x3 (
  R (.bool true) w) (
  XV P (binS .lss 21 true (.int .i32 57343) x0) w fun v12 w1 =>
  gd v12 true (
   XV P (binS .leq 21 true x0 (.int .i32 1114111)) w1 fun v15 w2 =>
   condW v15 (
    R (.bool true) w2) (
    R (.bool false) w2)) (
   R (.bool false) w1))
def B218_0 (Z1 : Value → Value → World → Prop) (x0 : Value) (w : World) (R : Value → World → Prop) : Prop :=
 XV P (binS .leq 21 true (.int .i32 0) x0) w fun v5 w1 =>
 gd v5 true (
  XV P (binS .lss 21 true x0 (.int .i32 55296)) w1 fun v8 w2 =>
  Z1 x0 v8 w2) (
  Z1 x0 (.bool false) w1)
def S218_0 (x0 : Value) (w : World) (R : Value → World → Prop) : Prop := B218_0 (fun x0 x3 w => S218_1 x0 x3 w R) x0 w R
theorem e218_1 (x0 x3 : Value) (w : World) (R : Value → World → Prop) : S218_1 x0 x3 w R = Wp P 17 D218 [true, false, false, true] b218_0 [] (Q218_0 R) [(0, some x0), (3, some x3)] w := by kernel_rfl
theorem q218_1 (x0 x3 : Value) (w : World) (R : Value → World → Prop) (h : S218_1 x0 x3 w R) : Runs P 17 (subC [true, false, false, true] b218_0) (postC P 17 [true, false, false, true] b218_0 (Q218_0 R)) [(0, some x0), (3, some x3)] w :=
  Wp_use mixed (e218_1 x0 x3 w R) h (fun _ _ _ h => h) trivial
theorem e218_0 (Z1 : Value → Value → World → Prop) (x0 : Value) (w : World) (R : Value → World → Prop) : B218_0 Z1 x0 w R = Wp P 17 D218 [] b218_0 [([true, false, false, true], fun e w => E1 e (.tmp 0) fun x0 => E1 e (.tmp 3) fun x3 => Z1 x0 x3 w)] (Q218_0 R) [(0, some x0)] w := by kernel_rfl
theorem q218_0 (x0 : Value) (w : World) (R : Value → World → Prop) (h : S218_0 x0 w R) : Runs P 17 (subC [] b218_0) (postC P 17 [] b218_0 (Q218_0 R)) [(0, some x0)] w :=
  Wp_use mixed (e218_0 (fun x0 x3 w => S218_1 x0 x3 w R) x0 w R) h (fun _ _ _ h => h) ⟨(fun e w h => let ⟨y0, h0, h⟩ := E1.elim h; let ⟨y3, h3, h⟩ := E1.elim h; (q218_1 y0 y3 w R h).more (sub_cons h0 (sub_cons h3 (sub_nil)))), trivial⟩
theorem c218 (x0 : Value) (w : World) (R : Value → World → Prop) (h : S218_0 x0 w R) : CallF P 218 #[x0] w R :=
  call_of_runs (args := [x0]) (c := b218_0) (by kernel_rfl) func218 rfl (by kernel_rfl) (q218_0 x0 w R h)

/-! ### 204 "strings.HasPrefix" -/
noncomputable abbrev b204_0 : Code := (f204.body).getD .skip
abbrev D204 : Plans := []
abbrev Q204_0 (R : Value → World → Prop) : Post := retQ P f204.results.toList R
def S204_0 (x0 x1 : Value) (w : World) (R : Value → World → Prop) : Prop :=
 CallF P 211 #[x0, x1] w fun v7 w1 =>
 R v7 w1
theorem e204_0 (x0 x1 : Value) (w : World) (R : Value → World → Prop) : S204_0 x0 x1 w R = Wp P 8 D204 [] b204_0 [] (Q204_0 R) [(0, some x0), (1, some x1)] w := by kernel_rfl
theorem q204_0 (x0 x1 : Value) (w : World) (R : Value → World → Prop) (h : S204_0 x0 x1 w R) : Runs P 8 (subC [] b204_0) (postC P 8 [] b204_0 (Q204_0 R)) [(0, some x0), (1, some x1)] w :=
  Wp_use mixed (e204_0 x0 x1 w R) h (fun _ _ _ h => h) trivial
theorem c204 (x0 x1 : Value) (w : World) (R : Value → World → Prop) (h : S204_0 x0 x1 w R) : CallF P 204 #[x0, x1] w R :=
  call_of_runs (args := [x0, x1]) (c := b204_0) (by kernel_rfl) func204 rfl (by kernel_rfl) (q204_0 x0 x1 w R h)

/-! ### 211 "internal/stringslite.HasPrefix" -/
noncomputable abbrev b211_0 : Code := (f211.body).getD .skip
abbrev D211 : Plans := []
abbrev Q211_0 (R : Value → World → Prop) : Post := retQ P f211.results.toList R
def S211_0 (x0 x1 : Value) (w : World) (R : Value → World → Prop) : Prop :=
 XV P (Builtin.len_ #[9] 3 #[x0]) w fun v6 w1 =>
 XV P (Builtin.len_ #[9] 3 #[x1]) w1 fun v8 w2 =>
 XV P (binS .geq 3 false v6 v8) w2 fun v9 w3 =>
 gd v9 true (
  XV P (Builtin.len_ #[9] 3 #[x1]) w3 fun v13 w4 =>
  XV P (Instr.sliceAt 9 x0 none (some v13) none) w4 fun v14 w5 =>
  XV P (binS .eql 9 false v14 x1) w5 fun v16 w6 =>
  R v16 w6) (
  R (.bool false) w3)
theorem e211_0 (x0 x1 : Value) (w : World) (R : Value → World → Prop) : S211_0 x0 x1 w R = Wp P 18 D211 [] b211_0 [] (Q211_0 R) [(0, some x0), (1, some x1)] w := by kernel_rfl
theorem q211_0 (x0 x1 : Value) (w : World) (R : Value → World → Prop) (h : S211_0 x0 x1 w R) : Runs P 18 (subC [] b211_0) (postC P 18 [] b211_0 (Q211_0 R)) [(0, some x0), (1, some x1)] w :=
  Wp_use mixed (e211_0 x0 x1 w R) h (fun _ _ _ h => h) trivial
theorem c211 (x0 x1 : Value) (w : World) (R : Value → World → Prop) (h : S211_0 x0 x1 w R) : CallF P 211 #[x0, x1] w R :=
  call_of_runs (args := [x0, x1]) (c := b211_0) (by kernel_rfl) func211 rfl (by kernel_rfl) (q211_0 x0 x1 w R h)

end Go.Proofs.YtdgffjkcpbolmaaGreatDoor.X
