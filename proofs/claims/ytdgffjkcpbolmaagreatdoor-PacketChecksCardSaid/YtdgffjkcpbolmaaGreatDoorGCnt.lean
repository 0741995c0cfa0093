/- Shallow forms of Go functions, written by the tool fx.py of this session, each with the proof that the call does what its form says. No condition. -/
import Derived.Test.YtdgffjkcpbolmaaGreatDoorFxP
namespace Go.Proofs.YtdgffjkcpbolmaaGreatDoor.X
open Go Go.RowKit Go.Proofs.Tryz Go.Proofs.YtdgffjkcpbolmaaGreatDoor.Fx
set_option linter.unusedVariables false
set_option linter.constructorNameAsVariable false
set_option maxRecDepth 100000
/-! ### 16 "crier/crierroom.Many" -/
noncomputable abbrev b16_0 : Code := (f16.body).getD .skip
abbrev D16 : Plans := []
abbrev Q16_0 (R : Value → World → Prop) : Post := retQ P f16.results.toList R
def S16_0 (x0 : Value) (w : World) (R : Value → World → Prop) : Prop :=
 XV P (Instr.build 91 #[(0, x0)]) w fun v4 w1 =>
 XV P (Instr.box 91 v4) w1 fun v5 w2 =>
 R v5 w2
theorem e16_0 (x0 : Value) (w : World) (R : Value → World → Prop) : S16_0 x0 w R = Wp P 6 D16 [] b16_0 [] (Q16_0 R) [(0, some x0)] w := by kernel_rfl
theorem q16_0 (x0 : Value) (w : World) (R : Value → World → Prop) (h : S16_0 x0 w R) : Runs P 6 (subC [] b16_0) (postC P 6 [] b16_0 (Q16_0 R)) [(0, some x0)] w :=
  Wp_use mixed (e16_0 x0 w R) h (fun _ _ _ h => h) trivial
theorem c16 (x0 : Value) (w : World) (R : Value → World → Prop) (h : S16_0 x0 w R) : CallF P 16 #[x0] w R :=
  call_of_runs (args := [x0]) (c := b16_0) (by kernel_rfl) func16 rfl (by kernel_rfl) (q16_0 x0 w R h)

/-! ### 18 "(*crier/crierroom.Count).Ok" -/
noncomputable abbrev b18_0 : Code := (f18.body).getD .skip
abbrev D18 : Plans := []
abbrev Q18_0 (R : Value → World → Prop) : Post := retQ P f18.results.toList R
def S18_0 (x0 : Value) (w : World) (R : Value → World → Prop) : Prop :=
 LF P 91 3 0 x0 w fun v6 w3 =>
 XV P (binS .geq 3 true v6 (.int .i64 0)) w3 fun v7 w4 =>
 R v7 w4
theorem e18_0 (x0 : Value) (w : World) (R : Value → World → Prop) : S18_0 x0 w R = Wp P 8 D18 [] b18_0 [] (Q18_0 R) [(0, some x0)] w := by kernel_rfl
theorem q18_0 (x0 : Value) (w : World) (R : Value → World → Prop) (h : S18_0 x0 w R) : Runs P 8 (subC [] b18_0) (postC P 8 [] b18_0 (Q18_0 R)) [(0, some x0)] w :=
  Wp_use mixed (e18_0 x0 w R) h (fun _ _ _ h => h) trivial
theorem c18 (x0 : Value) (w : World) (R : Value → World → Prop) (h : S18_0 x0 w R) : CallF P 18 #[x0] w R :=
  call_of_runs (args := [x0]) (c := b18_0) (by kernel_rfl) func18 rfl (by kernel_rfl) (q18_0 x0 w R h)

/-! ### 141 "(*crier/crierroom.Count).Add" -/
noncomputable abbrev b141_0 : Code := (f141.body).getD .skip
abbrev D141 : Plans := []
abbrev Q141_0 (R : Value → World → Prop) : Post := retQ P f141.results.toList R
def S141_1 (x0 : Value) (w : World) (R : Value → World → Prop) : Prop :=
 LF P 91 3 0 x0 w fun v22 w3 =>
 XV P (binS .geq 3 true v22 (.int .i64 0)) w3 fun v23 w4 =>
 R v23 w4
def B141_0 (Z1 : Value → World → Prop) (x0 x1 : Value) (w : World) (R : Value → World → Prop) : Prop :=
 LF P 91 3 0 x0 w fun v8 w3 =>
 XV P (binS .geq 3 true v8 (.int .i64 0)) w3 fun v9 w4 =>
 condW v9 (
  LF P 91 3 0 x0 w4 fun v14 w7 =>
  XV P (binS .sub 3 false v14 x1) w7 fun v16 w8 =>
  SF P 91 3 0 x0 v16 w8 fun w11 =>
  Z1 x0 w11) (
  Z1 x0 w4)
def S141_0 (x0 x1 : Value) (w : World) (R : Value → World → Prop) : Prop := B141_0 (fun x0 w => S141_1 x0 w R) x0 x1 w R
theorem e141_1 (x0 : Value) (w : World) (R : Value → World → Prop) : S141_1 x0 w R = Wp P 24 D141 [true, true] b141_0 [] (Q141_0 R) [(0, some x0)] w := by kernel_rfl
theorem q141_1 (x0 : Value) (w : World) (R : Value → World → Prop) (h : S141_1 x0 w R) : Runs P 24 (subC [true, true] b141_0) (postC P 24 [true, true] b141_0 (Q141_0 R)) [(0, some x0)] w :=
  Wp_use mixed (e141_1 x0 w R) h (fun _ _ _ h => h) trivial
theorem e141_0 (Z1 : Value → World → Prop) (x0 x1 : Value) (w : World) (R : Value → World → Prop) : B141_0 Z1 x0 x1 w R = Wp P 24 D141 [] b141_0 [([true, true], fun e w => E1 e (.tmp 0) fun x0 => Z1 x0 w)] (Q141_0 R) [(0, some x0), (1, some x1)] w := by kernel_rfl
theorem q141_0 (x0 x1 : Value) (w : World) (R : Value → World → Prop) (h : S141_0 x0 x1 w R) : Runs P 24 (subC [] b141_0) (postC P 24 [] b141_0 (Q141_0 R)) [(0, some x0), (1, some x1)] w :=
  Wp_use mixed (e141_0 (fun x0 w => S141_1 x0 w R) x0 x1 w R) h (fun _ _ _ h => h) ⟨(fun e w h => let ⟨y0, h0, h⟩ := E1.elim h; (q141_1 y0 w R h).more (sub_cons h0 (sub_nil))), trivial⟩
theorem c141 (x0 x1 : Value) (w : World) (R : Value → World → Prop) (h : S141_0 x0 x1 w R) : CallF P 141 #[x0, x1] w R :=
  call_of_runs (args := [x0, x1]) (c := b141_0) (by kernel_rfl) func141 rfl (by kernel_rfl) (q141_0 x0 x1 w R h)

/-! ### 137 "(*crier/crierroom.Count).Text" -/
noncomputable abbrev b137_0 : Code := (f137.body).getD .skip
abbrev D137 : Plans := []
abbrev Q137_0 (R : Value → World → Prop) : Post := retQ P f137.results.toList R
def S137_0 (x0 x1 : Value) (w : World) (R : Value → World → Prop) : Prop :=
 CallF P 141 #[x0, (.int .i64 1)] w fun v5 w1 =>
 XV P (Builtin.len_ #[9] 3 #[x1]) w1 fun v8 w2 =>
 CallF P 141 #[x0, v8] w2 fun v9 w3 =>
 R (.tuple #[]) w3
theorem e137_0 (x0 x1 : Value) (w : World) (R : Value → World → Prop) : S137_0 x0 x1 w R = Wp P 10 D137 [] b137_0 [] (Q137_0 R) [(0, some x0), (1, some x1)] w := by kernel_rfl
theorem q137_0 (x0 x1 : Value) (w : World) (R : Value → World → Prop) (h : S137_0 x0 x1 w R) : Runs P 10 (subC [] b137_0) (postC P 10 [] b137_0 (Q137_0 R)) [(0, some x0), (1, some x1)] w :=
  Wp_use mixed (e137_0 x0 x1 w R) h (fun _ _ _ h => h) trivial
theorem c137 (x0 x1 : Value) (w : World) (R : Value → World → Prop) (h : S137_0 x0 x1 w R) : CallF P 137 #[x0, x1] w R :=
  call_of_runs (args := [x0, x1]) (c := b137_0) (by kernel_rfl) func137 rfl (by kernel_rfl) (q137_0 x0 x1 w R h)

/-! ### 138 "(*crier/crierroom.Count).Bytes" -/
noncomputable abbrev b138_0 : Code := (f138.body).getD .skip
abbrev D138 : Plans := []
abbrev Q138_0 (R : Value → World → Prop) : Post := retQ P f138.results.toList R
def S138_0 (x0 x1 : Value) (w : World) (R : Value → World → Prop) : Prop :=
 CallF P 141 #[x0, (.int .i64 1)] w fun v5 w1 =>
 XV P (Builtin.len_ #[22] 3 #[x1]) w1 fun v8 w2 =>
 CallF P 141 #[x0, v8] w2 fun v9 w3 =>
 R (.tuple #[]) w3
theorem e138_0 (x0 x1 : Value) (w : World) (R : Value → World → Prop) : S138_0 x0 x1 w R = Wp P 10 D138 [] b138_0 [] (Q138_0 R) [(0, some x0), (1, some x1)] w := by kernel_rfl
theorem q138_0 (x0 x1 : Value) (w : World) (R : Value → World → Prop) (h : S138_0 x0 x1 w R) : Runs P 10 (subC [] b138_0) (postC P 10 [] b138_0 (Q138_0 R)) [(0, some x0), (1, some x1)] w :=
  Wp_use mixed (e138_0 x0 x1 w R) h (fun _ _ _ h => h) trivial
theorem c138 (x0 x1 : Value) (w : World) (R : Value → World → Prop) (h : S138_0 x0 x1 w R) : CallF P 138 #[x0, x1] w R :=
  call_of_runs (args := [x0, x1]) (c := b138_0) (by kernel_rfl) func138 rfl (by kernel_rfl) (q138_0 x0 x1 w R h)

/-! ### 139 "(*crier/crierroom.Count).Message" -/
noncomputable abbrev b139_0 : Code := (f139.body).getD .skip
abbrev D139 : Plans := []
abbrev Q139_0 (R : Value → World → Prop) : Post := retQ P f139.results.toList R
def S139_0 (x0 x1 : Value) (w : World) (R : Value → World → Prop) : Prop :=
 XV P (Instr.box 24 x1) w fun v3 w1 =>
 LB P 24 9 0 v3 w1 fun v6 w3 =>
 CallF P 137 #[x0, v6] w3 fun v7 w4 =>
 LB P 24 22 1 v3 w4 fun v10 w6 =>
 CallF P 138 #[x0, v10] w6 fun v11 w7 =>
 R (.tuple #[]) w7
theorem e139_0 (x0 x1 : Value) (w : World) (R : Value → World → Prop) : S139_0 x0 x1 w R = Wp P 12 D139 [] b139_0 [] (Q139_0 R) [(0, some x0), (1, some x1)] w := by kernel_rfl
theorem q139_0 (x0 x1 : Value) (w : World) (R : Value → World → Prop) (h : S139_0 x0 x1 w R) : Runs P 12 (subC [] b139_0) (postC P 12 [] b139_0 (Q139_0 R)) [(0, some x0), (1, some x1)] w :=
  Wp_use mixed (e139_0 x0 x1 w R) h (fun _ _ _ h => h) trivial
theorem c139 (x0 x1 : Value) (w : World) (R : Value → World → Prop) (h : S139_0 x0 x1 w R) : CallF P 139 #[x0, x1] w R :=
  call_of_runs (args := [x0, x1]) (c := b139_0) (by kernel_rfl) func139 rfl (by kernel_rfl) (q139_0 x0 x1 w R h)

/-! ### 140 "(*crier/crierroom.Count).Asks" -/
noncomputable abbrev b140_0 : Code := (f140.body).getD .skip
abbrev D140 : Plans := []
abbrev Q140_0 (R : Value → World → Prop) : Post := retQ P f140.results.toList R
def S140_2 (x0 x1 x4 : Value) (w : World) (K1 : Value → Value → Value → World → Prop) (R : Value → World → Prop) : Prop :=
 XV P (Builtin.len_ #[25] 3 #[x1]) w fun v7 w1 =>
 XV P (binS .lss 3 false x4 v7) w1 fun v8 w2 =>
 gd v8 true (
  CallF P 18 #[x0] w2 fun v11 w3 =>
  condW v11 (
   XV P (Instr.indexAt 25 x1 x4) w3 fun v18 w4 =>
   LB P 73 9 0 v18 w4 fun v20 w6 =>
   CallF P 137 #[x0, v20] w6 fun v21 w7 =>
   XV P (binS .add 3 true x4 (.int .i64 1)) w7 fun v14 w8 =>
   K1 x0 x1 v14 w8) (
   R (.tuple #[]) w3)) (
  R (.tuple #[]) w2)
def S140_1 (x0 x1 x4 : Value) (w : World) (R : Value → World → Prop) : Prop :=
 LoopP (fun (s : Value × Value × Value) w K => S140_2 s.1 s.2.1 s.2.2 w (fun x0 x1 x4 w => K (x0, x1, x4) w) R) (x0, x1, x4) w
def B140_0 (Z1 : Value → Value → Value → World → Prop) (x0 x1 : Value) (w : World) (R : Value → World → Prop) : Prop :=
 Z1 x0 x1 (.int .i64 0) w
def S140_0 (x0 x1 : Value) (w : World) (R : Value → World → Prop) : Prop := B140_0 (fun x0 x1 x4 w => S140_1 x0 x1 x4 w R) x0 x1 w R
noncomputable abbrev b140_1 : Code := match subC [true, false] b140_0 with | .loop x => x | _ => .skip
abbrev V140_1 (K : Value → Value → Value → World → Prop) (e : Env) (w : World) : Prop := E1 e (.tmp 0) fun x0 => E1 e (.tmp 1) fun x1 => E1 e (.tmp 4) fun x4 => K x0 x1 x4 w
abbrev Q140_1 (K1 : Value → Value → Value → World → Prop) (R : Value → World → Prop) : Post := thenQ (V140_1 K1) (postC P 22 [true, false] b140_0 (Q140_0 R))
theorem e140_2 (x0 x1 x4 : Value) (w : World) (K1 : Value → Value → Value → World → Prop) (R : Value → World → Prop) : S140_2 x0 x1 x4 w K1 R = Wp P 22 D140 [] b140_1 [] (thenQ (V140_1 K1) (postW P 22 D140 [true, false] b140_0 [] (Q140_0 R))) [(0, some x0), (1, some x1), (4, some x4)] w := by kernel_rfl
theorem q140_2 (x0 x1 x4 : Value) (w : World) (K1 : Value → Value → Value → World → Prop) (R : Value → World → Prop) (h : S140_2 x0 x1 x4 w K1 R) : Runs P 22 (subC [] b140_1) (postC P 22 [] b140_1 (Q140_1 K1 R)) [(0, some x0), (1, some x1), (4, some x4)] w :=
  Wp_use mixed (e140_2 x0 x1 x4 w K1 R) h (thenQ_le (postW_le mixed _ _ _ _ _ (fun _ _ _ h => h) trivial)) trivial
theorem q140_1 (x0 x1 x4 : Value) (w : World) (R : Value → World → Prop) (h : S140_1 x0 x1 x4 w R) : Runs P 22 (subC [true, false] b140_0) (postC P 22 [true, false] b140_0 (Q140_0 R)) [(0, some x0), (1, some x1), (4, some x4)] w :=
  Runs.loop (σ := Value × Value × Value) (fun s => [(0, some s.1), (1, some s.2.1), (4, some s.2.2)]) (fun e k => E1 e (.tmp 0) fun x0 => E1 e (.tmp 1) fun x1 => E1 e (.tmp 4) fun x4 => k (x0, x1, x4)) (fun e k h => let ⟨y0, h0, h⟩ := E1.elim h; let ⟨y1, h1, h⟩ := E1.elim h; let ⟨y4, h4, h⟩ := E1.elim h; ⟨(y0, y1, y4), h, (sub_cons h0 (sub_cons h1 (sub_cons h4 (sub_nil))))⟩) (fun s w K h => q140_2 s.1 s.2.1 s.2.2 w (fun x0 x1 x4 w => K (x0, x1, x4) w) R h) h
theorem e140_0 (Z1 : Value → Value → Value → World → Prop) (x0 x1 : Value) (w : World) (R : Value → World → Prop) : B140_0 Z1 x0 x1 w R = Wp P 22 D140 [] b140_0 [([true, false], fun e w => E1 e (.tmp 0) fun x0 => E1 e (.tmp 1) fun x1 => E1 e (.tmp 4) fun x4 => Z1 x0 x1 x4 w)] (Q140_0 R) [(0, some x0), (1, some x1)] w := by kernel_rfl
theorem q140_0 (x0 x1 : Value) (w : World) (R : Value → World → Prop) (h : S140_0 x0 x1 w R) : Runs P 22 (subC [] b140_0) (postC P 22 [] b140_0 (Q140_0 R)) [(0, some x0), (1, some x1)] w :=
  Wp_use mixed (e140_0 (fun x0 x1 x4 w => S140_1 x0 x1 x4 w R) x0 x1 w R) h (fun _ _ _ h => h) ⟨(fun e w h => let ⟨y0, h0, h⟩ := E1.elim h; let ⟨y1, h1, h⟩ := E1.elim h; let ⟨y4, h4, h⟩ := E1.elim h; (q140_1 y0 y1 y4 w R h).more (sub_cons h0 (sub_cons h1 (sub_cons h4 (sub_nil))))), trivial⟩
theorem c140 (x0 x1 : Value) (w : World) (R : Value → World → Prop) (h : S140_0 x0 x1 w R) : CallF P 140 #[x0, x1] w R :=
  call_of_runs (args := [x0, x1]) (c := b140_0) (by kernel_rfl) func140 rfl (by kernel_rfl) (q140_0 x0 x1 w R h)

/-! ### 142 "(*crier/crierroom.Count).Texts" -/
noncomputable abbrev b142_0 : Code := (f142.body).getD .skip
abbrev D142 : Plans := []
abbrev Q142_0 (R : Value → World → Prop) : Post := retQ P f142.results.toList R
def S142_2 (x0 x1 x4 : Value) (w : World) (K1 : Value → Value → Value → World → Prop) (R : Value → World → Prop) : Prop :=
 XV P (Builtin.len_ #[27] 3 #[x1]) w fun v7 w1 =>
 XV P (binS .lss 3 false x4 v7) w1 fun v8 w2 =>
 gd v8 true (
  CallF P 18 #[x0] w2 fun v11 w3 =>
  condW v11 (
   LI P 27 9 x1 x4 w3 fun v19 w5 =>
   CallF P 137 #[x0, v19] w5 fun v20 w6 =>
   XV P (binS .add 3 true x4 (.int .i64 1)) w6 fun v14 w7 =>
   K1 x0 x1 v14 w7) (
   R (.tuple #[]) w3)) (
  R (.tuple #[]) w2)
def S142_1 (x0 x1 x4 : Value) (w : World) (R : Value → World → Prop) : Prop :=
 LoopP (fun (s : Value × Value × Value) w K => S142_2 s.1 s.2.1 s.2.2 w (fun x0 x1 x4 w => K (x0, x1, x4) w) R) (x0, x1, x4) w
def B142_0 (Z1 : Value → Value → Value → World → Prop) (x0 x1 : Value) (w : World) (R : Value → World → Prop) : Prop :=
 Z1 x0 x1 (.int .i64 0) w
def S142_0 (x0 x1 : Value) (w : World) (R : Value → World → Prop) : Prop := B142_0 (fun x0 x1 x4 w => S142_1 x0 x1 x4 w R) x0 x1 w R
noncomputable abbrev b142_1 : Code := match subC [true, false] b142_0 with | .loop x => x | _ => .skip
abbrev V142_1 (K : Value → Value → Value → World → Prop) (e : Env) (w : World) : Prop := E1 e (.tmp 0) fun x0 => E1 e (.tmp 1) fun x1 => E1 e (.tmp 4) fun x4 => K x0 x1 x4 w
abbrev Q142_1 (K1 : Value → Value → Value → World → Prop) (R : Value → World → Prop) : Post := thenQ (V142_1 K1) (postC P 21 [true, false] b142_0 (Q142_0 R))
theorem e142_2 (x0 x1 x4 : Value) (w : World) (K1 : Value → Value → Value → World → Prop) (R : Value → World → Prop) : S142_2 x0 x1 x4 w K1 R = Wp P 21 D142 [] b142_1 [] (thenQ (V142_1 K1) (postW P 21 D142 [true, false] b142_0 [] (Q142_0 R))) [(0, some x0), (1, some x1), (4, some x4)] w := by kernel_rfl
theorem q142_2 (x0 x1 x4 : Value) (w : World) (K1 : Value → Value → Value → World → Prop) (R : Value → World → Prop) (h : S142_2 x0 x1 x4 w K1 R) : Runs P 21 (subC [] b142_1) (postC P 21 [] b142_1 (Q142_1 K1 R)) [(0, some x0), (1, some x1), (4, some x4)] w :=
  Wp_use mixed (e142_2 x0 x1 x4 w K1 R) h (thenQ_le (postW_le mixed _ _ _ _ _ (fun _ _ _ h => h) trivial)) trivial
theorem q142_1 (x0 x1 x4 : Value) (w : World) (R : Value → World → Prop) (h : S142_1 x0 x1 x4 w R) : Runs P 21 (subC [true, false] b142_0) (postC P 21 [true, false] b142_0 (Q142_0 R)) [(0, some x0), (1, some x1), (4, some x4)] w :=
  Runs.loop (σ := Value × Value × Value) (fun s => [(0, some s.1), (1, some s.2.1), (4, some s.2.2)]) (fun e k => E1 e (.tmp 0) fun x0 => E1 e (.tmp 1) fun x1 => E1 e (.tmp 4) fun x4 => k (x0, x1, x4)) (fun e k h => let ⟨y0, h0, h⟩ := E1.elim h; let ⟨y1, h1, h⟩ := E1.elim h; let ⟨y4, h4, h⟩ := E1.elim h; ⟨(y0, y1, y4), h, (sub_cons h0 (sub_cons h1 (sub_cons h4 (sub_nil))))⟩) (fun s w K h => q142_2 s.1 s.2.1 s.2.2 w (fun x0 x1 x4 w => K (x0, x1, x4) w) R h) h
theorem e142_0 (Z1 : Value → Value → Value → World → Prop) (x0 x1 : Value) (w : World) (R : Value → World → Prop) : B142_0 Z1 x0 x1 w R = Wp P 21 D142 [] b142_0 [([true, false], fun e w => E1 e (.tmp 0) fun x0 => E1 e (.tmp 1) fun x1 => E1 e (.tmp 4) fun x4 => Z1 x0 x1 x4 w)] (Q142_0 R) [(0, some x0), (1, some x1)] w := by kernel_rfl
theorem q142_0 (x0 x1 : Value) (w : World) (R : Value → World → Prop) (h : S142_0 x0 x1 w R) : Runs P 21 (subC [] b142_0) (postC P 21 [] b142_0 (Q142_0 R)) [(0, some x0), (1, some x1)] w :=
  Wp_use mixed (e142_0 (fun x0 x1 x4 w => S142_1 x0 x1 x4 w R) x0 x1 w R) h (fun _ _ _ h => h) ⟨(fun e w h => let ⟨y0, h0, h⟩ := E1.elim h; let ⟨y1, h1, h⟩ := E1.elim h; let ⟨y4, h4, h⟩ := E1.elim h; (q142_1 y0 y1 y4 w R h).more (sub_cons h0 (sub_cons h1 (sub_cons h4 (sub_nil))))), trivial⟩
theorem c142 (x0 x1 : Value) (w : World) (R : Value → World → Prop) (h : S142_0 x0 x1 w R) : CallF P 142 #[x0, x1] w R :=
  call_of_runs (args := [x0, x1]) (c := b142_0) (by kernel_rfl) func142 rfl (by kernel_rfl) (q142_0 x0 x1 w R h)

/-! ### 87 "(*crier/crierroom.Count).Packet" -/
noncomputable abbrev b87_0 : Code := (f87.body).getD .skip
abbrev D87 : Plans := []
abbrev Q87_0 (R : Value → World → Prop) : Post := retQ P f87.results.toList R
def S87_0 (x0 x1 : Value) (w : World) (R : Value → World → Prop) : Prop :=
 XV P (Instr.box 29 x1) w fun v3 w1 =>
 LB P 29 9 4 v3 w1 fun v6 w3 =>
 CallF P 137 #[x0, v6] w3 fun v7 w4 =>
 LB P 29 9 8 v3 w4 fun v10 w6 =>
 CallF P 137 #[x0, v10] w6 fun v11 w7 =>
 LB P 29 22 10 v3 w7 fun v14 w9 =>
 CallF P 138 #[x0, v14] w9 fun v15 w10 =>
 LB P 29 24 6 v3 w10 fun v18 w12 =>
 CallF P 139 #[x0, v18] w12 fun v19 w13 =>
 LB P 29 24 14 v3 w13 fun v22 w15 =>
 CallF P 139 #[x0, v22] w15 fun v23 w16 =>
 LB P 29 25 16 v3 w16 fun v26 w18 =>
 CallF P 140 #[x0, v26] w18 fun v27 w19 =>
 LB P 29 26 17 v3 w19 fun v30 w21 =>
 XV P (Builtin.len_ #[26] 3 #[v30]) w21 fun v31 w22 =>
 CallF P 141 #[x0, v31] w22 fun v32 w23 =>
 LB P 29 27 18 v3 w23 fun v35 w25 =>
 CallF P 142 #[x0, v35] w25 fun v36 w26 =>
 R (.tuple #[]) w26
theorem e87_0 (x0 x1 : Value) (w : World) (R : Value → World → Prop) : S87_0 x0 x1 w R = Wp P 37 D87 [] b87_0 [] (Q87_0 R) [(0, some x0), (1, some x1)] w := by kernel_rfl
theorem q87_0 (x0 x1 : Value) (w : World) (R : Value → World → Prop) (h : S87_0 x0 x1 w R) : Runs P 37 (subC [] b87_0) (postC P 37 [] b87_0 (Q87_0 R)) [(0, some x0), (1, some x1)] w :=
  Wp_use mixed (e87_0 x0 x1 w R) h (fun _ _ _ h => h) trivial
theorem c87 (x0 x1 : Value) (w : World) (R : Value → World → Prop) (h : S87_0 x0 x1 w R) : CallF P 87 #[x0, x1] w R :=
  call_of_runs (args := [x0, x1]) (c := b87_0) (by kernel_rfl) func87 rfl (by kernel_rfl) (q87_0 x0 x1 w R h)

/-! ### 17 "(*crier/crierroom.Count).Packets" -/
noncomputable abbrev b17_0 : Code := (f17.body).getD .skip
abbrev D17 : Plans := []
abbrev Q17_0 (R : Value → World → Prop) : Post := retQ P f17.results.toList R
def S17_2 (x0 x1 x4 : Value) (w : World) (K1 : Value → Value → Value → World → Prop) (R : Value → World → Prop) : Prop :=
 XV P (Builtin.len_ #[65] 3 #[x1]) w fun v7 w1 =>
 XV P (binS .lss 3 false x4 v7) w1 fun v8 w2 =>
 gd v8 true (
  CallF P 18 #[x0] w2 fun v11 w3 =>
  condW v11 (
   LI P 65 29 x1 x4 w3 fun v19 w5 =>
   CallF P 87 #[x0, v19] w5 fun v20 w6 =>
   XV P (binS .add 3 true x4 (.int .i64 1)) w6 fun v14 w7 =>
   K1 x0 x1 v14 w7) (
   R (.tuple #[]) w3)) (
  R (.tuple #[]) w2)
def S17_1 (x0 x1 x4 : Value) (w : World) (R : Value → World → Prop) : Prop :=
 LoopP (fun (s : Value × Value × Value) w K => S17_2 s.1 s.2.1 s.2.2 w (fun x0 x1 x4 w => K (x0, x1, x4) w) R) (x0, x1, x4) w
def B17_0 (Z1 : Value → Value → Value → World → Prop) (x0 x1 : Value) (w : World) (R : Value → World → Prop) : Prop :=
 Z1 x0 x1 (.int .i64 0) w
def S17_0 (x0 x1 : Value) (w : World) (R : Value → World → Prop) : Prop := B17_0 (fun x0 x1 x4 w => S17_1 x0 x1 x4 w R) x0 x1 w R
noncomputable abbrev b17_1 : Code := match subC [true, false] b17_0 with | .loop x => x | _ => .skip
abbrev V17_1 (K : Value → Value → Value → World → Prop) (e : Env) (w : World) : Prop := E1 e (.tmp 0) fun x0 => E1 e (.tmp 1) fun x1 => E1 e (.tmp 4) fun x4 => K x0 x1 x4 w
abbrev Q17_1 (K1 : Value → Value → Value → World → Prop) (R : Value → World → Prop) : Post := thenQ (V17_1 K1) (postC P 21 [true, false] b17_0 (Q17_0 R))
theorem e17_2 (x0 x1 x4 : Value) (w : World) (K1 : Value → Value → Value → World → Prop) (R : Value → World → Prop) : S17_2 x0 x1 x4 w K1 R = Wp P 21 D17 [] b17_1 [] (thenQ (V17_1 K1) (postW P 21 D17 [true, false] b17_0 [] (Q17_0 R))) [(0, some x0), (1, some x1), (4, some x4)] w := by kernel_rfl
theorem q17_2 (x0 x1 x4 : Value) (w : World) (K1 : Value → Value → Value → World → Prop) (R : Value → World → Prop) (h : S17_2 x0 x1 x4 w K1 R) : Runs P 21 (subC [] b17_1) (postC P 21 [] b17_1 (Q17_1 K1 R)) [(0, some x0), (1, some x1), (4, some x4)] w :=
  Wp_use mixed (e17_2 x0 x1 x4 w K1 R) h (thenQ_le (postW_le mixed _ _ _ _ _ (fun _ _ _ h => h) trivial)) trivial
theorem q17_1 (x0 x1 x4 : Value) (w : World) (R : Value → World → Prop) (h : S17_1 x0 x1 x4 w R) : Runs P 21 (subC [true, false] b17_0) (postC P 21 [true, false] b17_0 (Q17_0 R)) [(0, some x0), (1, some x1), (4, some x4)] w :=
  Runs.loop (σ := Value × Value × Value) (fun s => [(0, some s.1), (1, some s.2.1), (4, some s.2.2)]) (fun e k => E1 e (.tmp 0) fun x0 => E1 e (.tmp 1) fun x1 => E1 e (.tmp 4) fun x4 => k (x0, x1, x4)) (fun e k h => let ⟨y0, h0, h⟩ := E1.elim h; let ⟨y1, h1, h⟩ := E1.elim h; let ⟨y4, h4, h⟩ := E1.elim h; ⟨(y0, y1, y4), h, (sub_cons h0 (sub_cons h1 (sub_cons h4 (sub_nil))))⟩) (fun s w K h => q17_2 s.1 s.2.1 s.2.2 w (fun x0 x1 x4 w => K (x0, x1, x4) w) R h) h
theorem e17_0 (Z1 : Value → Value → Value → World → Prop) (x0 x1 : Value) (w : World) (R : Value → World → Prop) : B17_0 Z1 x0 x1 w R = Wp P 21 D17 [] b17_0 [([true, false], fun e w => E1 e (.tmp 0) fun x0 => E1 e (.tmp 1) fun x1 => E1 e (.tmp 4) fun x4 => Z1 x0 x1 x4 w)] (Q17_0 R) [(0, some x0), (1, some x1)] w := by kernel_rfl
theorem q17_0 (x0 x1 : Value) (w : World) (R : Value → World → Prop) (h : S17_0 x0 x1 w R) : Runs P 21 (subC [] b17_0) (postC P 21 [] b17_0 (Q17_0 R)) [(0, some x0), (1, some x1)] w :=
  Wp_use mixed (e17_0 (fun x0 x1 x4 w => S17_1 x0 x1 x4 w R) x0 x1 w R) h (fun _ _ _ h => h) ⟨(fun e w h => let ⟨y0, h0, h⟩ := E1.elim h; let ⟨y1, h1, h⟩ := E1.elim h; let ⟨y4, h4, h⟩ := E1.elim h; (q17_1 y0 y1 y4 w R h).more (sub_cons h0 (sub_cons h1 (sub_cons h4 (sub_nil))))), trivial⟩
theorem c17 (x0 x1 : Value) (w : World) (R : Value → World → Prop) (h : S17_0 x0 x1 w R) : CallF P 17 #[x0, x1] w R :=
  call_of_runs (args := [x0, x1]) (c := b17_0) (by kernel_rfl) func17 rfl (by kernel_rfl) (q17_0 x0 x1 w R h)

/-! ### 5 "crier/crierlaw2.few" -/
noncomputable abbrev b5_0 : Code := (f5.body).getD .skip
abbrev D5 : Plans := []
abbrev Q5_0 (R : Value → World → Prop) : Post := retQ P f5.results.toList R
def S5_0 (x0 : Value) (w : World) (R : Value → World → Prop) : Prop :=
 CallF P 16 #[(.int .i64 300000)] w fun v4 w1 =>
 CallF P 17 #[v4, x0] w1 fun v7 w2 =>
 CallF P 18 #[v4] w2 fun v9 w3 =>
 R v9 w3
theorem e5_0 (x0 : Value) (w : World) (R : Value → World → Prop) : S5_0 x0 w R = Wp P 10 D5 [] b5_0 [] (Q5_0 R) [(0, some x0)] w := by kernel_rfl
theorem q5_0 (x0 : Value) (w : World) (R : Value → World → Prop) (h : S5_0 x0 w R) : Runs P 10 (subC [] b5_0) (postC P 10 [] b5_0 (Q5_0 R)) [(0, some x0)] w :=
  Wp_use mixed (e5_0 x0 w R) h (fun _ _ _ h => h) trivial
theorem c5 (x0 : Value) (w : World) (R : Value → World → Prop) (h : S5_0 x0 w R) : CallF P 5 #[x0] w R :=
  call_of_runs (args := [x0]) (c := b5_0) (by kernel_rfl) func5 rfl (by kernel_rfl) (q5_0 x0 w R h)

end Go.Proofs.YtdgffjkcpbolmaaGreatDoor.X
