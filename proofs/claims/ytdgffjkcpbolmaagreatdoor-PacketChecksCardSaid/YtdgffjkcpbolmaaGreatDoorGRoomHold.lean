/- Shallow forms of Go functions, written by the tool fx.py of this session, each with the proof that the call does what its form says. No condition. -/
import Derived.Test.YtdgffjkcpbolmaaGreatDoorFxP
namespace Go.Proofs.YtdgffjkcpbolmaaGreatDoor.X
open Go Go.RowKit Go.Proofs.Tryz Go.Proofs.YtdgffjkcpbolmaaGreatDoor.Fx
set_option linter.unusedVariables false
set_option linter.constructorNameAsVariable false
set_option maxRecDepth 100000
/-! ### 62 "(*crier/crierroom.Room).holdBytes" -/
noncomputable abbrev b62_0 : Code := (f62.body).getD .skip
abbrev D62 : Plans := []
abbrev Q62_0 (R : Value → World → Prop) : Post := retQ P f62.results.toList R
def S62_4 (x0 x3 x4 x5 : Value) (w : World) (K1 : Value → Value → World → Prop) (K2 : Value → Value → Value → Value → World → Prop) (R : Value → World → Prop) : Prop :=
 LF P 51 33 0 x0 w fun v28 w3 =>
 LI P 33 22 v28 x3 w3 fun v31 w5 =>
 XV P (Builtin.len_ #[22] 3 #[v31]) w5 fun v32 w6 =>
 XV P (binS .lss 3 false x5 v32) w6 fun v33 w7 =>
 condW v33 (
  LF P 51 33 0 x0 w7 fun v39 w10 =>
  LI P 33 22 v39 x3 w10 fun v42 w12 =>
  LI P 22 5 v42 x5 w12 fun v45 w14 =>
  XV P (binS .sub 3 false x5 x4) w14 fun v49 w15 =>
  CallF P 117 #[v49] w15 fun v50 w16 =>
  XV P (convert 3 5 v50) w16 fun v51 w17 =>
  XV P (binS .neq 5 false v45 v51) w17 fun v52 w18 =>
  condW v52 (
   R (.bool false) w18) (
   XV P (binS .add 3 true x5 (.int .i64 1)) w18 fun v35 w19 =>
   K2 x0 x3 x4 v35 w19)) (
  XV P (binS .add 3 true x3 (.int .i64 1)) w7 fun v15 w20 =>
  K1 x0 v15 w20)
def S62_3 (x0 x3 x4 x5 : Value) (w : World) (K1 : Value → Value → World → Prop) (R : Value → World → Prop) : Prop :=
 LoopP (fun (s : Value × Value × Value × Value) w K => S62_4 s.1 s.2.1 s.2.2.1 s.2.2.2 w K1 (fun x0 x3 x4 x5 w => K (x0, x3, x4, x5) w) R) (x0, x3, x4, x5) w
def B62_2 (Z3 : Value → Value → Value → Value → World → Prop) (x0 x3 : Value) (w : World) (K1 : Value → Value → World → Prop) (R : Value → World → Prop) : Prop :=
 LF P 51 33 0 x0 w fun v11 w3 =>
 XV P (Builtin.len_ #[33] 3 #[v11]) w3 fun v12 w4 =>
 XV P (binS .lss 3 false x3 v12) w4 fun v13 w5 =>
 condW v13 (
  LF P 51 26 1 x0 w5 fun v19 w8 =>
  LI P 26 3 v19 x3 w8 fun v22 w10 =>
  Z3 x0 x3 v22 v22 w10) (
  R (.bool true) w5)
def S62_2 (x0 x3 : Value) (w : World) (K1 : Value → Value → World → Prop) (R : Value → World → Prop) : Prop := B62_2 (fun x0 x3 x4 x5 w => S62_3 x0 x3 x4 x5 w K1 R) x0 x3 w K1 R
def S62_1 (x0 x3 : Value) (w : World) (R : Value → World → Prop) : Prop :=
 LoopP (fun (s : Value × Value) w K => S62_2 s.1 s.2 w (fun x0 x3 w => K (x0, x3) w) R) (x0, x3) w
def B62_0 (Z1 : Value → Value → World → Prop) (x0 : Value) (w : World) (R : Value → World → Prop) : Prop :=
 Z1 x0 (.int .i64 0) w
def S62_0 (x0 : Value) (w : World) (R : Value → World → Prop) : Prop := B62_0 (fun x0 x3 w => S62_1 x0 x3 w R) x0 w R
noncomputable abbrev b62_1 : Code := match subC [true, false, true, false] b62_0 with | .loop x => x | _ => .skip
abbrev V62_1 (K : Value → Value → World → Prop) (e : Env) (w : World) : Prop := E1 e (.tmp 0) fun x0 => E1 e (.tmp 3) fun x3 => K x0 x3 w
abbrev Q62_1 (K1 : Value → Value → World → Prop) (R : Value → World → Prop) : Post := thenQ (V62_1 K1) (postC P 53 [true, false, true, false] b62_0 (Q62_0 R))
noncomputable abbrev b62_2 : Code := match subC [true, false, false, true, true, false] b62_1 with | .loop x => x | _ => .skip
abbrev V62_2 (K : Value → Value → Value → Value → World → Prop) (e : Env) (w : World) : Prop := E1 e (.tmp 0) fun x0 => E1 e (.tmp 3) fun x3 => E1 e (.tmp 4) fun x4 => E1 e (.tmp 5) fun x5 => K x0 x3 x4 x5 w
abbrev Q62_2 (K1 : Value → Value → World → Prop) (K2 : Value → Value → Value → Value → World → Prop) (R : Value → World → Prop) : Post := thenQ (V62_2 K2) (postC P 53 [true, false, false, true, true, false] b62_1 (Q62_1 K1 R))
theorem e62_4 (x0 x3 x4 x5 : Value) (w : World) (K1 : Value → Value → World → Prop) (K2 : Value → Value → Value → Value → World → Prop) (R : Value → World → Prop) : S62_4 x0 x3 x4 x5 w K1 K2 R = Wp P 53 D62 [] b62_2 [] (thenQ (V62_2 K2) (postW P 53 D62 [true, false, false, true, true, false] b62_1 [] (thenQ (V62_1 K1) (postW P 53 D62 [true, false, true, false] b62_0 [] (Q62_0 R))))) [(0, some x0), (3, some x3), (4, some x4), (5, some x5)] w := by kernel_rfl
theorem q62_4 (x0 x3 x4 x5 : Value) (w : World) (K1 : Value → Value → World → Prop) (K2 : Value → Value → Value → Value → World → Prop) (R : Value → World → Prop) (h : S62_4 x0 x3 x4 x5 w K1 K2 R) : Runs P 53 (subC [] b62_2) (postC P 53 [] b62_2 (Q62_2 K1 K2 R)) [(0, some x0), (3, some x3), (4, some x4), (5, some x5)] w :=
  Wp_use mixed (e62_4 x0 x3 x4 x5 w K1 K2 R) h (thenQ_le (postW_le mixed _ _ _ _ _ (thenQ_le (postW_le mixed _ _ _ _ _ (fun _ _ _ h => h) trivial)) trivial)) trivial
theorem q62_3 (x0 x3 x4 x5 : Value) (w : World) (K1 : Value → Value → World → Prop) (R : Value → World → Prop) (h : S62_3 x0 x3 x4 x5 w K1 R) : Runs P 53 (subC [true, false, false, true, true, false] b62_1) (postC P 53 [true, false, false, true, true, false] b62_1 (Q62_1 K1 R)) [(0, some x0), (3, some x3), (4, some x4), (5, some x5)] w :=
  Runs.loop (σ := Value × Value × Value × Value) (fun s => [(0, some s.1), (3, some s.2.1), (4, some s.2.2.1), (5, some s.2.2.2)]) (fun e k => E1 e (.tmp 0) fun x0 => E1 e (.tmp 3) fun x3 => E1 e (.tmp 4) fun x4 => E1 e (.tmp 5) fun x5 => k (x0, x3, x4, x5)) (fun e k h => let ⟨y0, h0, h⟩ := E1.elim h; let ⟨y3, h3, h⟩ := E1.elim h; let ⟨y4, h4, h⟩ := E1.elim h; let ⟨y5, h5, h⟩ := E1.elim h; ⟨(y0, y3, y4, y5), h, (sub_cons h0 (sub_cons h3 (sub_cons h4 (sub_cons h5 (sub_nil)))))⟩) (fun s w K h => q62_4 s.1 s.2.1 s.2.2.1 s.2.2.2 w K1 (fun x0 x3 x4 x5 w => K (x0, x3, x4, x5) w) R h) h
theorem e62_2 (Z3 : Value → Value → Value → Value → World → Prop) (x0 x3 : Value) (w : World) (K1 : Value → Value → World → Prop) (R : Value → World → Prop) : B62_2 Z3 x0 x3 w K1 R = Wp P 53 D62 [] b62_1 [([true, false, false, true, true, false], fun e w => E1 e (.tmp 0) fun x0 => E1 e (.tmp 3) fun x3 => E1 e (.tmp 4) fun x4 => E1 e (.tmp 5) fun x5 => Z3 x0 x3 x4 x5 w)] (thenQ (V62_1 K1) (postW P 53 D62 [true, false, true, false] b62_0 [] (Q62_0 R))) [(0, some x0), (3, some x3)] w := by kernel_rfl
theorem q62_2 (x0 x3 : Value) (w : World) (K1 : Value → Value → World → Prop) (R : Value → World → Prop) (h : S62_2 x0 x3 w K1 R) : Runs P 53 (subC [] b62_1) (postC P 53 [] b62_1 (Q62_1 K1 R)) [(0, some x0), (3, some x3)] w :=
  Wp_use mixed (e62_2 (fun x0 x3 x4 x5 w => S62_3 x0 x3 x4 x5 w K1 R) x0 x3 w K1 R) h (thenQ_le (postW_le mixed _ _ _ _ _ (fun _ _ _ h => h) trivial)) ⟨(fun e w h => let ⟨y0, h0, h⟩ := E1.elim h; let ⟨y3, h3, h⟩ := E1.elim h; let ⟨y4, h4, h⟩ := E1.elim h; let ⟨y5, h5, h⟩ := E1.elim h; (q62_3 y0 y3 y4 y5 w K1 R h).more (sub_cons h0 (sub_cons h3 (sub_cons h4 (sub_cons h5 (sub_nil)))))), trivial⟩
theorem q62_1 (x0 x3 : Value) (w : World) (R : Value → World → Prop) (h : S62_1 x0 x3 w R) : Runs P 53 (subC [true, false, true, false] b62_0) (postC P 53 [true, false, true, false] b62_0 (Q62_0 R)) [(0, some x0), (3, some x3)] w :=
  Runs.loop (σ := Value × Value) (fun s => [(0, some s.1), (3, some s.2)]) (fun e k => E1 e (.tmp 0) fun x0 => E1 e (.tmp 3) fun x3 => k (x0, x3)) (fun e k h => let ⟨y0, h0, h⟩ := E1.elim h; let ⟨y3, h3, h⟩ := E1.elim h; ⟨(y0, y3), h, (sub_cons h0 (sub_cons h3 (sub_nil)))⟩) (fun s w K h => q62_2 s.1 s.2 w (fun x0 x3 w => K (x0, x3) w) R h) h
theorem e62_0 (Z1 : Value → Value → World → Prop) (x0 : Value) (w : World) (R : Value → World → Prop) : B62_0 Z1 x0 w R = Wp P 53 D62 [] b62_0 [([true, false, true, false], fun e w => E1 e (.tmp 0) fun x0 => E1 e (.tmp 3) fun x3 => Z1 x0 x3 w)] (Q62_0 R) [(0, some x0)] w := by kernel_rfl
theorem q62_0 (x0 : Value) (w : World) (R : Value → World → Prop) (h : S62_0 x0 w R) : Runs P 53 (subC [] b62_0) (postC P 53 [] b62_0 (Q62_0 R)) [(0, some x0)] w :=
  Wp_use mixed (e62_0 (fun x0 x3 w => S62_1 x0 x3 w R) x0 w R) h (fun _ _ _ h => h) ⟨(fun e w h => let ⟨y0, h0, h⟩ := E1.elim h; let ⟨y3, h3, h⟩ := E1.elim h; (q62_1 y0 y3 w R h).more (sub_cons h0 (sub_cons h3 (sub_nil)))), trivial⟩
theorem c62 (x0 : Value) (w : World) (R : Value → World → Prop) (h : S62_0 x0 w R) : CallF P 62 #[x0] w R :=
  call_of_runs (args := [x0]) (c := b62_0) (by kernel_rfl) func62 rfl (by kernel_rfl) (q62_0 x0 w R h)

/-! ### 63 "(*crier/crierroom.Room).holdInts" -/
noncomputable abbrev b63_0 : Code := (f63.body).getD .skip
abbrev D63 : Plans := []
abbrev Q63_0 (R : Value → World → Prop) : Post := retQ P f63.results.toList R
def S63_4 (x0 x3 x4 x5 : Value) (w : World) (K1 : Value → Value → World → Prop) (K2 : Value → Value → Value → Value → World → Prop) (R : Value → World → Prop) : Prop :=
 LF P 51 34 2 x0 w fun v28 w3 =>
 LI P 34 26 v28 x3 w3 fun v31 w5 =>
 XV P (Builtin.len_ #[26] 3 #[v31]) w5 fun v32 w6 =>
 XV P (binS .lss 3 false x5 v32) w6 fun v33 w7 =>
 condW v33 (
  LF P 51 34 2 x0 w7 fun v39 w10 =>
  LI P 34 26 v39 x3 w10 fun v42 w12 =>
  LI P 26 3 v42 x5 w12 fun v45 w14 =>
  XV P (binS .sub 3 false x5 x4) w14 fun v49 w15 =>
  CallF P 117 #[v49] w15 fun v50 w16 =>
  XV P (binS .neq 3 false v45 v50) w16 fun v51 w17 =>
  condW v51 (
   R (.bool false) w17) (
   XV P (binS .add 3 true x5 (.int .i64 1)) w17 fun v35 w18 =>
   K2 x0 x3 x4 v35 w18)) (
  XV P (binS .add 3 true x3 (.int .i64 1)) w7 fun v15 w19 =>
  K1 x0 v15 w19)
def S63_3 (x0 x3 x4 x5 : Value) (w : World) (K1 : Value → Value → World → Prop) (R : Value → World → Prop) : Prop :=
 LoopP (fun (s : Value × Value × Value × Value) w K => S63_4 s.1 s.2.1 s.2.2.1 s.2.2.2 w K1 (fun x0 x3 x4 x5 w => K (x0, x3, x4, x5) w) R) (x0, x3, x4, x5) w
def B63_2 (Z3 : Value → Value → Value → Value → World → Prop) (x0 x3 : Value) (w : World) (K1 : Value → Value → World → Prop) (R : Value → World → Prop) : Prop :=
 LF P 51 34 2 x0 w fun v11 w3 =>
 XV P (Builtin.len_ #[34] 3 #[v11]) w3 fun v12 w4 =>
 XV P (binS .lss 3 false x3 v12) w4 fun v13 w5 =>
 condW v13 (
  LF P 51 26 3 x0 w5 fun v19 w8 =>
  LI P 26 3 v19 x3 w8 fun v22 w10 =>
  Z3 x0 x3 v22 v22 w10) (
  R (.bool true) w5)
def S63_2 (x0 x3 : Value) (w : World) (K1 : Value → Value → World → Prop) (R : Value → World → Prop) : Prop := B63_2 (fun x0 x3 x4 x5 w => S63_3 x0 x3 x4 x5 w K1 R) x0 x3 w K1 R
def S63_1 (x0 x3 : Value) (w : World) (R : Value → World → Prop) : Prop :=
 LoopP (fun (s : Value × Value) w K => S63_2 s.1 s.2 w (fun x0 x3 w => K (x0, x3) w) R) (x0, x3) w
def B63_0 (Z1 : Value → Value → World → Prop) (x0 : Value) (w : World) (R : Value → World → Prop) : Prop :=
 Z1 x0 (.int .i64 0) w
def S63_0 (x0 : Value) (w : World) (R : Value → World → Prop) : Prop := B63_0 (fun x0 x3 w => S63_1 x0 x3 w R) x0 w R
noncomputable abbrev b63_1 : Code := match subC [true, false, true, false] b63_0 with | .loop x => x | _ => .skip
abbrev V63_1 (K : Value → Value → World → Prop) (e : Env) (w : World) : Prop := E1 e (.tmp 0) fun x0 => E1 e (.tmp 3) fun x3 => K x0 x3 w
abbrev Q63_1 (K1 : Value → Value → World → Prop) (R : Value → World → Prop) : Post := thenQ (V63_1 K1) (postC P 52 [true, false, true, false] b63_0 (Q63_0 R))
noncomputable abbrev b63_2 : Code := match subC [true, false, false, true, true, false] b63_1 with | .loop x => x | _ => .skip
abbrev V63_2 (K : Value → Value → Value → Value → World → Prop) (e : Env) (w : World) : Prop := E1 e (.tmp 0) fun x0 => E1 e (.tmp 3) fun x3 => E1 e (.tmp 4) fun x4 => E1 e (.tmp 5) fun x5 => K x0 x3 x4 x5 w
abbrev Q63_2 (K1 : Value → Value → World → Prop) (K2 : Value → Value → Value → Value → World → Prop) (R : Value → World → Prop) : Post := thenQ (V63_2 K2) (postC P 52 [true, false, false, true, true, false] b63_1 (Q63_1 K1 R))
theorem e63_4 (x0 x3 x4 x5 : Value) (w : World) (K1 : Value → Value → World → Prop) (K2 : Value → Value → Value → Value → World → Prop) (R : Value → World → Prop) : S63_4 x0 x3 x4 x5 w K1 K2 R = Wp P 52 D63 [] b63_2 [] (thenQ (V63_2 K2) (postW P 52 D63 [true, false, false, true, true, false] b63_1 [] (thenQ (V63_1 K1) (postW P 52 D63 [true, false, true, false] b63_0 [] (Q63_0 R))))) [(0, some x0), (3, some x3), (4, some x4), (5, some x5)] w := by kernel_rfl
theorem q63_4 (x0 x3 x4 x5 : Value) (w : World) (K1 : Value → Value → World → Prop) (K2 : Value → Value → Value → Value → World → Prop) (R : Value → World → Prop) (h : S63_4 x0 x3 x4 x5 w K1 K2 R) : Runs P 52 (subC [] b63_2) (postC P 52 [] b63_2 (Q63_2 K1 K2 R)) [(0, some x0), (3, some x3), (4, some x4), (5, some x5)] w :=
  Wp_use mixed (e63_4 x0 x3 x4 x5 w K1 K2 R) h (thenQ_le (postW_le mixed _ _ _ _ _ (thenQ_le (postW_le mixed _ _ _ _ _ (fun _ _ _ h => h) trivial)) trivial)) trivial
theorem q63_3 (x0 x3 x4 x5 : Value) (w : World) (K1 : Value → Value → World → Prop) (R : Value → World → Prop) (h : S63_3 x0 x3 x4 x5 w K1 R) : Runs P 52 (subC [true, false, false, true, true, false] b63_1) (postC P 52 [true, false, false, true, true, false] b63_1 (Q63_1 K1 R)) [(0, some x0), (3, some x3), (4, some x4), (5, some x5)] w :=
  Runs.loop (σ := Value × Value × Value × Value) (fun s => [(0, some s.1), (3, some s.2.1), (4, some s.2.2.1), (5, some s.2.2.2)]) (fun e k => E1 e (.tmp 0) fun x0 => E1 e (.tmp 3) fun x3 => E1 e (.tmp 4) fun x4 => E1 e (.tmp 5) fun x5 => k (x0, x3, x4, x5)) (fun e k h => let ⟨y0, h0, h⟩ := E1.elim h; let ⟨y3, h3, h⟩ := E1.elim h; let ⟨y4, h4, h⟩ := E1.elim h; let ⟨y5, h5, h⟩ := E1.elim h; ⟨(y0, y3, y4, y5), h, (sub_cons h0 (sub_cons h3 (sub_cons h4 (sub_cons h5 (sub_nil)))))⟩) (fun s w K h => q63_4 s.1 s.2.1 s.2.2.1 s.2.2.2 w K1 (fun x0 x3 x4 x5 w => K (x0, x3, x4, x5) w) R h) h
theorem e63_2 (Z3 : Value → Value → Value → Value → World → Prop) (x0 x3 : Value) (w : World) (K1 : Value → Value → World → Prop) (R : Value → World → Prop) : B63_2 Z3 x0 x3 w K1 R = Wp P 52 D63 [] b63_1 [([true, false, false, true, true, false], fun e w => E1 e (.tmp 0) fun x0 => E1 e (.tmp 3) fun x3 => E1 e (.tmp 4) fun x4 => E1 e (.tmp 5) fun x5 => Z3 x0 x3 x4 x5 w)] (thenQ (V63_1 K1) (postW P 52 D63 [true, false, true, false] b63_0 [] (Q63_0 R))) [(0, some x0), (3, some x3)] w := by kernel_rfl
theorem q63_2 (x0 x3 : Value) (w : World) (K1 : Value → Value → World → Prop) (R : Value → World → Prop) (h : S63_2 x0 x3 w K1 R) : Runs P 52 (subC [] b63_1) (postC P 52 [] b63_1 (Q63_1 K1 R)) [(0, some x0), (3, some x3)] w :=
  Wp_use mixed (e63_2 (fun x0 x3 x4 x5 w => S63_3 x0 x3 x4 x5 w K1 R) x0 x3 w K1 R) h (thenQ_le (postW_le mixed _ _ _ _ _ (fun _ _ _ h => h) trivial)) ⟨(fun e w h => let ⟨y0, h0, h⟩ := E1.elim h; let ⟨y3, h3, h⟩ := E1.elim h; let ⟨y4, h4, h⟩ := E1.elim h; let ⟨y5, h5, h⟩ := E1.elim h; (q63_3 y0 y3 y4 y5 w K1 R h).more (sub_cons h0 (sub_cons h3 (sub_cons h4 (sub_cons h5 (sub_nil)))))), trivial⟩
theorem q63_1 (x0 x3 : Value) (w : World) (R : Value → World → Prop) (h : S63_1 x0 x3 w R) : Runs P 52 (subC [true, false, true, false] b63_0) (postC P 52 [true, false, true, false] b63_0 (Q63_0 R)) [(0, some x0), (3, some x3)] w :=
  Runs.loop (σ := Value × Value) (fun s => [(0, some s.1), (3, some s.2)]) (fun e k => E1 e (.tmp 0) fun x0 => E1 e (.tmp 3) fun x3 => k (x0, x3)) (fun e k h => let ⟨y0, h0, h⟩ := E1.elim h; let ⟨y3, h3, h⟩ := E1.elim h; ⟨(y0, y3), h, (sub_cons h0 (sub_cons h3 (sub_nil)))⟩) (fun s w K h => q63_2 s.1 s.2 w (fun x0 x3 w => K (x0, x3) w) R h) h
theorem e63_0 (Z1 : Value → Value → World → Prop) (x0 : Value) (w : World) (R : Value → World → Prop) : B63_0 Z1 x0 w R = Wp P 52 D63 [] b63_0 [([true, false, true, false], fun e w => E1 e (.tmp 0) fun x0 => E1 e (.tmp 3) fun x3 => Z1 x0 x3 w)] (Q63_0 R) [(0, some x0)] w := by kernel_rfl
theorem q63_0 (x0 : Value) (w : World) (R : Value → World → Prop) (h : S63_0 x0 w R) : Runs P 52 (subC [] b63_0) (postC P 52 [] b63_0 (Q63_0 R)) [(0, some x0)] w :=
  Wp_use mixed (e63_0 (fun x0 x3 w => S63_1 x0 x3 w R) x0 w R) h (fun _ _ _ h => h) ⟨(fun e w h => let ⟨y0, h0, h⟩ := E1.elim h; let ⟨y3, h3, h⟩ := E1.elim h; (q63_1 y0 y3 w R h).more (sub_cons h0 (sub_cons h3 (sub_nil)))), trivial⟩
theorem c63 (x0 : Value) (w : World) (R : Value → World → Prop) (h : S63_0 x0 w R) : CallF P 63 #[x0] w R :=
  call_of_runs (args := [x0]) (c := b63_0) (by kernel_rfl) func63 rfl (by kernel_rfl) (q63_0 x0 w R h)

/-! ### 64 "(*crier/crierroom.Room).holdTexts" -/
noncomputable abbrev b64_0 : Code := (f64.body).getD .skip
abbrev D64 : Plans := []
abbrev Q64_0 (R : Value → World → Prop) : Post := retQ P f64.results.toList R
def S64_4 (x0 x3 x4 x5 : Value) (w : World) (K1 : Value → Value → World → Prop) (K2 : Value → Value → Value → Value → World → Prop) (R : Value → World → Prop) : Prop :=
 LF P 51 35 4 x0 w fun v28 w3 =>
 LI P 35 27 v28 x3 w3 fun v31 w5 =>
 XV P (Builtin.len_ #[27] 3 #[v31]) w5 fun v32 w6 =>
 XV P (binS .lss 3 false x5 v32) w6 fun v33 w7 =>
 condW v33 (
  LF P 51 35 4 x0 w7 fun v39 w10 =>
  LI P 35 27 v39 x3 w10 fun v42 w12 =>
  LI P 27 9 v42 x5 w12 fun v45 w14 =>
  XV P (binS .sub 3 false x5 x4) w14 fun v49 w15 =>
  CallF P 118 #[v49] w15 fun v50 w16 =>
  XV P (binS .neq 9 false v45 v50) w16 fun v51 w17 =>
  condW v51 (
   R (.bool false) w17) (
   XV P (binS .add 3 true x5 (.int .i64 1)) w17 fun v35 w18 =>
   K2 x0 x3 x4 v35 w18)) (
  XV P (binS .add 3 true x3 (.int .i64 1)) w7 fun v15 w19 =>
  K1 x0 v15 w19)
def S64_3 (x0 x3 x4 x5 : Value) (w : World) (K1 : Value → Value → World → Prop) (R : Value → World → Prop) : Prop :=
 LoopP (fun (s : Value × Value × Value × Value) w K => S64_4 s.1 s.2.1 s.2.2.1 s.2.2.2 w K1 (fun x0 x3 x4 x5 w => K (x0, x3, x4, x5) w) R) (x0, x3, x4, x5) w
def B64_2 (Z3 : Value → Value → Value → Value → World → Prop) (x0 x3 : Value) (w : World) (K1 : Value → Value → World → Prop) (R : Value → World → Prop) : Prop :=
 LF P 51 35 4 x0 w fun v11 w3 =>
 XV P (Builtin.len_ #[35] 3 #[v11]) w3 fun v12 w4 =>
 XV P (binS .lss 3 false x3 v12) w4 fun v13 w5 =>
 condW v13 (
  LF P 51 26 5 x0 w5 fun v19 w8 =>
  LI P 26 3 v19 x3 w8 fun v22 w10 =>
  Z3 x0 x3 v22 v22 w10) (
  R (.bool true) w5)
def S64_2 (x0 x3 : Value) (w : World) (K1 : Value → Value → World → Prop) (R : Value → World → Prop) : Prop := B64_2 (fun x0 x3 x4 x5 w => S64_3 x0 x3 x4 x5 w K1 R) x0 x3 w K1 R
def S64_1 (x0 x3 : Value) (w : World) (R : Value → World → Prop) : Prop :=
 LoopP (fun (s : Value × Value) w K => S64_2 s.1 s.2 w (fun x0 x3 w => K (x0, x3) w) R) (x0, x3) w
def B64_0 (Z1 : Value → Value → World → Prop) (x0 : Value) (w : World) (R : Value → World → Prop) : Prop :=
 Z1 x0 (.int .i64 0) w
def S64_0 (x0 : Value) (w : World) (R : Value → World → Prop) : Prop := B64_0 (fun x0 x3 w => S64_1 x0 x3 w R) x0 w R
noncomputable abbrev b64_1 : Code := match subC [true, false, true, false] b64_0 with | .loop x => x | _ => .skip
abbrev V64_1 (K : Value → Value → World → Prop) (e : Env) (w : World) : Prop := E1 e (.tmp 0) fun x0 => E1 e (.tmp 3) fun x3 => K x0 x3 w
abbrev Q64_1 (K1 : Value → Value → World → Prop) (R : Value → World → Prop) : Post := thenQ (V64_1 K1) (postC P 52 [true, false, true, false] b64_0 (Q64_0 R))
noncomputable abbrev b64_2 : Code := match subC [true, false, false, true, true, false] b64_1 with | .loop x => x | _ => .skip
abbrev V64_2 (K : Value → Value → Value → Value → World → Prop) (e : Env) (w : World) : Prop := E1 e (.tmp 0) fun x0 => E1 e (.tmp 3) fun x3 => E1 e (.tmp 4) fun x4 => E1 e (.tmp 5) fun x5 => K x0 x3 x4 x5 w
abbrev Q64_2 (K1 : Value → Value → World → Prop) (K2 : Value → Value → Value → Value → World → Prop) (R : Value → World → Prop) : Post := thenQ (V64_2 K2) (postC P 52 [true, false, false, true, true, false] b64_1 (Q64_1 K1 R))
theorem e64_4 (x0 x3 x4 x5 : Value) (w : World) (K1 : Value → Value → World → Prop) (K2 : Value → Value → Value → Value → World → Prop) (R : Value → World → Prop) : S64_4 x0 x3 x4 x5 w K1 K2 R = Wp P 52 D64 [] b64_2 [] (thenQ (V64_2 K2) (postW P 52 D64 [true, false, false, true, true, false] b64_1 [] (thenQ (V64_1 K1) (postW P 52 D64 [true, false, true, false] b64_0 [] (Q64_0 R))))) [(0, some x0), (3, some x3), (4, some x4), (5, some x5)] w := by kernel_rfl
theorem q64_4 (x0 x3 x4 x5 : Value) (w : World) (K1 : Value → Value → World → Prop) (K2 : Value → Value → Value → Value → World → Prop) (R : Value → World → Prop) (h : S64_4 x0 x3 x4 x5 w K1 K2 R) : Runs P 52 (subC [] b64_2) (postC P 52 [] b64_2 (Q64_2 K1 K2 R)) [(0, some x0), (3, some x3), (4, some x4), (5, some x5)] w :=
  Wp_use mixed (e64_4 x0 x3 x4 x5 w K1 K2 R) h (thenQ_le (postW_le mixed _ _ _ _ _ (thenQ_le (postW_le mixed _ _ _ _ _ (fun _ _ _ h => h) trivial)) trivial)) trivial
theorem q64_3 (x0 x3 x4 x5 : Value) (w : World) (K1 : Value → Value → World → Prop) (R : Value → World → Prop) (h : S64_3 x0 x3 x4 x5 w K1 R) : Runs P 52 (subC [true, false, false, true, true, false] b64_1) (postC P 52 [true, false, false, true, true, false] b64_1 (Q64_1 K1 R)) [(0, some x0), (3, some x3), (4, some x4), (5, some x5)] w :=
  Runs.loop (σ := Value × Value × Value × Value) (fun s => [(0, some s.1), (3, some s.2.1), (4, some s.2.2.1), (5, some s.2.2.2)]) (fun e k => E1 e (.tmp 0) fun x0 => E1 e (.tmp 3) fun x3 => E1 e (.tmp 4) fun x4 => E1 e (.tmp 5) fun x5 => k (x0, x3, x4, x5)) (fun e k h => let ⟨y0, h0, h⟩ := E1.elim h; let ⟨y3, h3, h⟩ := E1.elim h; let ⟨y4, h4, h⟩ := E1.elim h; let ⟨y5, h5, h⟩ := E1.elim h; ⟨(y0, y3, y4, y5), h, (sub_cons h0 (sub_cons h3 (sub_cons h4 (sub_cons h5 (sub_nil)))))⟩) (fun s w K h => q64_4 s.1 s.2.1 s.2.2.1 s.2.2.2 w K1 (fun x0 x3 x4 x5 w => K (x0, x3, x4, x5) w) R h) h
theorem e64_2 (Z3 : Value → Value → Value → Value → World → Prop) (x0 x3 : Value) (w : World) (K1 : Value → Value → World → Prop) (R : Value → World → Prop) : B64_2 Z3 x0 x3 w K1 R = Wp P 52 D64 [] b64_1 [([true, false, false, true, true, false], fun e w => E1 e (.tmp 0) fun x0 => E1 e (.tmp 3) fun x3 => E1 e (.tmp 4) fun x4 => E1 e (.tmp 5) fun x5 => Z3 x0 x3 x4 x5 w)] (thenQ (V64_1 K1) (postW P 52 D64 [true, false, true, false] b64_0 [] (Q64_0 R))) [(0, some x0), (3, some x3)] w := by kernel_rfl
theorem q64_2 (x0 x3 : Value) (w : World) (K1 : Value → Value → World → Prop) (R : Value → World → Prop) (h : S64_2 x0 x3 w K1 R) : Runs P 52 (subC [] b64_1) (postC P 52 [] b64_1 (Q64_1 K1 R)) [(0, some x0), (3, some x3)] w :=
  Wp_use mixed (e64_2 (fun x0 x3 x4 x5 w => S64_3 x0 x3 x4 x5 w K1 R) x0 x3 w K1 R) h (thenQ_le (postW_le mixed _ _ _ _ _ (fun _ _ _ h => h) trivial)) ⟨(fun e w h => let ⟨y0, h0, h⟩ := E1.elim h; let ⟨y3, h3, h⟩ := E1.elim h; let ⟨y4, h4, h⟩ := E1.elim h; let ⟨y5, h5, h⟩ := E1.elim h; (q64_3 y0 y3 y4 y5 w K1 R h).more (sub_cons h0 (sub_cons h3 (sub_cons h4 (sub_cons h5 (sub_nil)))))), trivial⟩
theorem q64_1 (x0 x3 : Value) (w : World) (R : Value → World → Prop) (h : S64_1 x0 x3 w R) : Runs P 52 (subC [true, false, true, false] b64_0) (postC P 52 [true, false, true, false] b64_0 (Q64_0 R)) [(0, some x0), (3, some x3)] w :=
  Runs.loop (σ := Value × Value) (fun s => [(0, some s.1), (3, some s.2)]) (fun e k => E1 e (.tmp 0) fun x0 => E1 e (.tmp 3) fun x3 => k (x0, x3)) (fun e k h => let ⟨y0, h0, h⟩ := E1.elim h; let ⟨y3, h3, h⟩ := E1.elim h; ⟨(y0, y3), h, (sub_cons h0 (sub_cons h3 (sub_nil)))⟩) (fun s w K h => q64_2 s.1 s.2 w (fun x0 x3 w => K (x0, x3) w) R h) h
theorem e64_0 (Z1 : Value → Value → World → Prop) (x0 : Value) (w : World) (R : Value → World → Prop) : B64_0 Z1 x0 w R = Wp P 52 D64 [] b64_0 [([true, false, true, false], fun e w => E1 e (.tmp 0) fun x0 => E1 e (.tmp 3) fun x3 => Z1 x0 x3 w)] (Q64_0 R) [(0, some x0)] w := by kernel_rfl
theorem q64_0 (x0 : Value) (w : World) (R : Value → World → Prop) (h : S64_0 x0 w R) : Runs P 52 (subC [] b64_0) (postC P 52 [] b64_0 (Q64_0 R)) [(0, some x0)] w :=
  Wp_use mixed (e64_0 (fun x0 x3 w => S64_1 x0 x3 w R) x0 w R) h (fun _ _ _ h => h) ⟨(fun e w h => let ⟨y0, h0, h⟩ := E1.elim h; let ⟨y3, h3, h⟩ := E1.elim h; (q64_1 y0 y3 w R h).more (sub_cons h0 (sub_cons h3 (sub_nil)))), trivial⟩
theorem c64 (x0 : Value) (w : World) (R : Value → World → Prop) (h : S64_0 x0 w R) : CallF P 64 #[x0] w R :=
  call_of_runs (args := [x0]) (c := b64_0) (by kernel_rfl) func64 rfl (by kernel_rfl) (q64_0 x0 w R h)

/-! ### 65 "(*crier/crierroom.Room).holdAsks" -/
noncomputable abbrev b65_0 : Code := (f65.body).getD .skip
abbrev D65 : Plans := [(9, [(0, false), (1, false), (2, false), (3, false), (4, true), (5, false), (6, false)], 7)]
abbrev Q65_0 (R : Value → World → Prop) : Post := retQ P f65.results.toList R
def S65_4 (x0 x3 x4 x5 : Value) (w : World) (K1 : Value → Value → World → Prop) (K2 : Value → Value → Value → Value → World → Prop) (R : Value → World → Prop) : Prop :=
 LF P 51 36 6 x0 w fun v28 w3 =>
 LI P 36 25 v28 x3 w3 fun v31 w5 =>
 XV P (Builtin.len_ #[25] 3 #[v31]) w5 fun v32 w6 =>
 XV P (binS .lss 3 false x5 v32) w6 fun v33 w7 =>
 condW v33 (
  LF P 51 36 6 x0 w7 fun v39 w10 =>
  LI P 36 25 v39 x3 w10 fun v42 w12 =>
  LI P 25 73 v42 x5 w12 fun v45 w14 =>
  XV P (Instr.alloc 73 true (.tuple #[])) w14 fun v6 w15 =>
  XU P (Instr.storeAt 73 v6 v45) w15 fun w16 =>
  XS P (Ext (World.drew w16)) (Instr.loadAt 73 v6) fun v46 =>
  XS P (Ext (World.drew w16)) (binS .sub 3 false x5 x4) fun v49 =>
  CallF P 118 #[v49] (World.drew w16) fun v50 w17 =>
  Ext (World.drew w16) w17 ∧
  XS P (Ext (World.drew w16)) (Instr.build 73 #[(0, v50)]) fun v51 =>
  XS P (Ext (World.drew w16)) (binS .neq 73 false v46 v51) fun v52 =>
  condW v52 (
   R (.bool false) w17) (
   XV P (binS .add 3 true x5 (.int .i64 1)) w17 fun v35 w18 =>
   K2 x0 x3 x4 v35 w18)) (
  XV P (binS .add 3 true x3 (.int .i64 1)) w7 fun v15 w19 =>
  K1 x0 v15 w19)
def S65_3 (x0 x3 x4 x5 : Value) (w : World) (K1 : Value → Value → World → Prop) (R : Value → World → Prop) : Prop :=
 LoopP (fun (s : Value × Value × Value × Value) w K => S65_4 s.1 s.2.1 s.2.2.1 s.2.2.2 w K1 (fun x0 x3 x4 x5 w => K (x0, x3, x4, x5) w) R) (x0, x3, x4, x5) w
def B65_2 (Z3 : Value → Value → Value → Value → World → Prop) (x0 x3 : Value) (w : World) (K1 : Value → Value → World → Prop) (R : Value → World → Prop) : Prop :=
 LF P 51 36 6 x0 w fun v11 w3 =>
 XV P (Builtin.len_ #[36] 3 #[v11]) w3 fun v12 w4 =>
 XV P (binS .lss 3 false x3 v12) w4 fun v13 w5 =>
 condW v13 (
  LF P 51 26 7 x0 w5 fun v19 w8 =>
  LI P 26 3 v19 x3 w8 fun v22 w10 =>
  Z3 x0 x3 v22 v22 w10) (
  R (.bool true) w5)
def S65_2 (x0 x3 : Value) (w : World) (K1 : Value → Value → World → Prop) (R : Value → World → Prop) : Prop := B65_2 (fun x0 x3 x4 x5 w => S65_3 x0 x3 x4 x5 w K1 R) x0 x3 w K1 R
def S65_1 (x0 x3 : Value) (w : World) (R : Value → World → Prop) : Prop :=
 LoopP (fun (s : Value × Value) w K => S65_2 s.1 s.2 w (fun x0 x3 w => K (x0, x3) w) R) (x0, x3) w
def B65_0 (Z1 : Value → Value → World → Prop) (x0 : Value) (w : World) (R : Value → World → Prop) : Prop :=
 Z1 x0 (.int .i64 0) w
def S65_0 (x0 : Value) (w : World) (R : Value → World → Prop) : Prop := B65_0 (fun x0 x3 w => S65_1 x0 x3 w R) x0 w R
noncomputable abbrev b65_1 : Code := match subC [true, false, true, false] b65_0 with | .loop x => x | _ => .skip
abbrev V65_1 (K : Value → Value → World → Prop) (e : Env) (w : World) : Prop := E1 e (.tmp 0) fun x0 => E1 e (.tmp 3) fun x3 => K x0 x3 w
abbrev Q65_1 (K1 : Value → Value → World → Prop) (R : Value → World → Prop) : Post := thenQ (V65_1 K1) (postC P 53 [true, false, true, false] b65_0 (Q65_0 R))
noncomputable abbrev b65_2 : Code := match subC [true, false, false, true, true, false] b65_1 with | .loop x => x | _ => .skip
abbrev V65_2 (K : Value → Value → Value → Value → World → Prop) (e : Env) (w : World) : Prop := E1 e (.tmp 0) fun x0 => E1 e (.tmp 3) fun x3 => E1 e (.tmp 4) fun x4 => E1 e (.tmp 5) fun x5 => K x0 x3 x4 x5 w
abbrev Q65_2 (K1 : Value → Value → World → Prop) (K2 : Value → Value → Value → Value → World → Prop) (R : Value → World → Prop) : Post := thenQ (V65_2 K2) (postC P 53 [true, false, false, true, true, false] b65_1 (Q65_1 K1 R))
theorem e65_4 (x0 x3 x4 x5 : Value) (w : World) (K1 : Value → Value → World → Prop) (K2 : Value → Value → Value → Value → World → Prop) (R : Value → World → Prop) : S65_4 x0 x3 x4 x5 w K1 K2 R = Wp P 53 D65 [] b65_2 [] (thenQ (V65_2 K2) (postW P 53 D65 [true, false, false, true, true, false] b65_1 [] (thenQ (V65_1 K1) (postW P 53 D65 [true, false, true, false] b65_0 [] (Q65_0 R))))) [(0, some x0), (3, some x3), (4, some x4), (5, some x5)] w := by kernel_rfl
theorem q65_4 (x0 x3 x4 x5 : Value) (w : World) (K1 : Value → Value → World → Prop) (K2 : Value → Value → Value → Value → World → Prop) (R : Value → World → Prop) (h : S65_4 x0 x3 x4 x5 w K1 K2 R) : Runs P 53 (subC [] b65_2) (postC P 53 [] b65_2 (Q65_2 K1 K2 R)) [(0, some x0), (3, some x3), (4, some x4), (5, some x5)] w :=
  Wp_use mixed (e65_4 x0 x3 x4 x5 w K1 K2 R) h (thenQ_le (postW_le mixed _ _ _ _ _ (thenQ_le (postW_le mixed _ _ _ _ _ (fun _ _ _ h => h) trivial)) trivial)) trivial
theorem q65_3 (x0 x3 x4 x5 : Value) (w : World) (K1 : Value → Value → World → Prop) (R : Value → World → Prop) (h : S65_3 x0 x3 x4 x5 w K1 R) : Runs P 53 (subC [true, false, false, true, true, false] b65_1) (postC P 53 [true, false, false, true, true, false] b65_1 (Q65_1 K1 R)) [(0, some x0), (3, some x3), (4, some x4), (5, some x5)] w :=
  Runs.loop (σ := Value × Value × Value × Value) (fun s => [(0, some s.1), (3, some s.2.1), (4, some s.2.2.1), (5, some s.2.2.2)]) (fun e k => E1 e (.tmp 0) fun x0 => E1 e (.tmp 3) fun x3 => E1 e (.tmp 4) fun x4 => E1 e (.tmp 5) fun x5 => k (x0, x3, x4, x5)) (fun e k h => let ⟨y0, h0, h⟩ := E1.elim h; let ⟨y3, h3, h⟩ := E1.elim h; let ⟨y4, h4, h⟩ := E1.elim h; let ⟨y5, h5, h⟩ := E1.elim h; ⟨(y0, y3, y4, y5), h, (sub_cons h0 (sub_cons h3 (sub_cons h4 (sub_cons h5 (sub_nil)))))⟩) (fun s w K h => q65_4 s.1 s.2.1 s.2.2.1 s.2.2.2 w K1 (fun x0 x3 x4 x5 w => K (x0, x3, x4, x5) w) R h) h
theorem e65_2 (Z3 : Value → Value → Value → Value → World → Prop) (x0 x3 : Value) (w : World) (K1 : Value → Value → World → Prop) (R : Value → World → Prop) : B65_2 Z3 x0 x3 w K1 R = Wp P 53 D65 [] b65_1 [([true, false, false, true, true, false], fun e w => E1 e (.tmp 0) fun x0 => E1 e (.tmp 3) fun x3 => E1 e (.tmp 4) fun x4 => E1 e (.tmp 5) fun x5 => Z3 x0 x3 x4 x5 w)] (thenQ (V65_1 K1) (postW P 53 D65 [true, false, true, false] b65_0 [] (Q65_0 R))) [(0, some x0), (3, some x3)] w := by kernel_rfl
theorem q65_2 (x0 x3 : Value) (w : World) (K1 : Value → Value → World → Prop) (R : Value → World → Prop) (h : S65_2 x0 x3 w K1 R) : Runs P 53 (subC [] b65_1) (postC P 53 [] b65_1 (Q65_1 K1 R)) [(0, some x0), (3, some x3)] w :=
  Wp_use mixed (e65_2 (fun x0 x3 x4 x5 w => S65_3 x0 x3 x4 x5 w K1 R) x0 x3 w K1 R) h (thenQ_le (postW_le mixed _ _ _ _ _ (fun _ _ _ h => h) trivial)) ⟨(fun e w h => let ⟨y0, h0, h⟩ := E1.elim h; let ⟨y3, h3, h⟩ := E1.elim h; let ⟨y4, h4, h⟩ := E1.elim h; let ⟨y5, h5, h⟩ := E1.elim h; (q65_3 y0 y3 y4 y5 w K1 R h).more (sub_cons h0 (sub_cons h3 (sub_cons h4 (sub_cons h5 (sub_nil)))))), trivial⟩
theorem q65_1 (x0 x3 : Value) (w : World) (R : Value → World → Prop) (h : S65_1 x0 x3 w R) : Runs P 53 (subC [true, false, true, false] b65_0) (postC P 53 [true, false, true, false] b65_0 (Q65_0 R)) [(0, some x0), (3, some x3)] w :=
  Runs.loop (σ := Value × Value) (fun s => [(0, some s.1), (3, some s.2)]) (fun e k => E1 e (.tmp 0) fun x0 => E1 e (.tmp 3) fun x3 => k (x0, x3)) (fun e k h => let ⟨y0, h0, h⟩ := E1.elim h; let ⟨y3, h3, h⟩ := E1.elim h; ⟨(y0, y3), h, (sub_cons h0 (sub_cons h3 (sub_nil)))⟩) (fun s w K h => q65_2 s.1 s.2 w (fun x0 x3 w => K (x0, x3) w) R h) h
theorem e65_0 (Z1 : Value → Value → World → Prop) (x0 : Value) (w : World) (R : Value → World → Prop) : B65_0 Z1 x0 w R = Wp P 53 D65 [] b65_0 [([true, false, true, false], fun e w => E1 e (.tmp 0) fun x0 => E1 e (.tmp 3) fun x3 => Z1 x0 x3 w)] (Q65_0 R) [(0, some x0)] w := by kernel_rfl
theorem q65_0 (x0 : Value) (w : World) (R : Value → World → Prop) (h : S65_0 x0 w R) : Runs P 53 (subC [] b65_0) (postC P 53 [] b65_0 (Q65_0 R)) [(0, some x0)] w :=
  Wp_use mixed (e65_0 (fun x0 x3 w => S65_1 x0 x3 w R) x0 w R) h (fun _ _ _ h => h) ⟨(fun e w h => let ⟨y0, h0, h⟩ := E1.elim h; let ⟨y3, h3, h⟩ := E1.elim h; (q65_1 y0 y3 w R h).more (sub_cons h0 (sub_cons h3 (sub_nil)))), trivial⟩
theorem c65 (x0 : Value) (w : World) (R : Value → World → Prop) (h : S65_0 x0 w R) : CallF P 65 #[x0] w R :=
  call_of_runs (args := [x0]) (c := b65_0) (by kernel_rfl) func65 rfl (by kernel_rfl) (q65_0 x0 w R h)

/-! ### 66 "(*crier/crierroom.Room).holdUsers" -/
noncomputable abbrev b66_0 : Code := (f66.body).getD .skip
abbrev D66 : Plans := [(9, [(0, false), (1, false), (2, false), (3, false), (4, true), (5, false), (6, false)], 7)]
abbrev Q66_0 (R : Value → World → Prop) : Post := retQ P f66.results.toList R
def S66_4 (x0 x3 x4 x5 : Value) (w : World) (K1 : Value → Value → World → Prop) (K2 : Value → Value → Value → Value → World → Prop) (R : Value → World → Prop) : Prop :=
 LF P 51 37 8 x0 w fun v28 w3 =>
 LI P 37 103 v28 x3 w3 fun v31 w5 =>
 XV P (Builtin.len_ #[103] 3 #[v31]) w5 fun v32 w6 =>
 XV P (binS .lss 3 false x5 v32) w6 fun v33 w7 =>
 condW v33 (
  LF P 51 37 8 x0 w7 fun v39 w10 =>
  LI P 37 103 v39 x3 w10 fun v42 w12 =>
  LI P 103 134 v42 x5 w12 fun v45 w14 =>
  XV P (Instr.alloc 134 true (.tuple #[])) w14 fun v6 w15 =>
  XU P (Instr.storeAt 134 v6 v45) w15 fun w16 =>
  XS P (Ext (World.drew w16)) (Instr.loadAt 134 v6) fun v46 =>
  XS P (Ext (World.drew w16)) (binS .sub 3 false x5 x4) fun v49 =>
  CallF P 118 #[v49] (World.drew w16) fun v50 w17 =>
  Ext (World.drew w16) w17 ∧
  XS P (Ext (World.drew w16)) (Instr.build 134 #[(0, v50)]) fun v51 =>
  XS P (Ext (World.drew w16)) (binS .neq 134 false v46 v51) fun v52 =>
  condW v52 (
   R (.bool false) w17) (
   XV P (binS .add 3 true x5 (.int .i64 1)) w17 fun v35 w18 =>
   K2 x0 x3 x4 v35 w18)) (
  XV P (binS .add 3 true x3 (.int .i64 1)) w7 fun v15 w19 =>
  K1 x0 v15 w19)
def S66_3 (x0 x3 x4 x5 : Value) (w : World) (K1 : Value → Value → World → Prop) (R : Value → World → Prop) : Prop :=
 LoopP (fun (s : Value × Value × Value × Value) w K => S66_4 s.1 s.2.1 s.2.2.1 s.2.2.2 w K1 (fun x0 x3 x4 x5 w => K (x0, x3, x4, x5) w) R) (x0, x3, x4, x5) w
def B66_2 (Z3 : Value → Value → Value → Value → World → Prop) (x0 x3 : Value) (w : World) (K1 : Value → Value → World → Prop) (R : Value → World → Prop) : Prop :=
 LF P 51 37 8 x0 w fun v11 w3 =>
 XV P (Builtin.len_ #[37] 3 #[v11]) w3 fun v12 w4 =>
 XV P (binS .lss 3 false x3 v12) w4 fun v13 w5 =>
 condW v13 (
  LF P 51 26 9 x0 w5 fun v19 w8 =>
  LI P 26 3 v19 x3 w8 fun v22 w10 =>
  Z3 x0 x3 v22 v22 w10) (
  R (.bool true) w5)
def S66_2 (x0 x3 : Value) (w : World) (K1 : Value → Value → World → Prop) (R : Value → World → Prop) : Prop := B66_2 (fun x0 x3 x4 x5 w => S66_3 x0 x3 x4 x5 w K1 R) x0 x3 w K1 R
def S66_1 (x0 x3 : Value) (w : World) (R : Value → World → Prop) : Prop :=
 LoopP (fun (s : Value × Value) w K => S66_2 s.1 s.2 w (fun x0 x3 w => K (x0, x3) w) R) (x0, x3) w
def B66_0 (Z1 : Value → Value → World → Prop) (x0 : Value) (w : World) (R : Value → World → Prop) : Prop :=
 Z1 x0 (.int .i64 0) w
def S66_0 (x0 : Value) (w : World) (R : Value → World → Prop) : Prop := B66_0 (fun x0 x3 w => S66_1 x0 x3 w R) x0 w R
noncomputable abbrev b66_1 : Code := match subC [true, false, true, false] b66_0 with | .loop x => x | _ => .skip
abbrev V66_1 (K : Value → Value → World → Prop) (e : Env) (w : World) : Prop := E1 e (.tmp 0) fun x0 => E1 e (.tmp 3) fun x3 => K x0 x3 w
abbrev Q66_1 (K1 : Value → Value → World → Prop) (R : Value → World → Prop) : Post := thenQ (V66_1 K1) (postC P 53 [true, false, true, false] b66_0 (Q66_0 R))
noncomputable abbrev b66_2 : Code := match subC [true, false, false, true, true, false] b66_1 with | .loop x => x | _ => .skip
abbrev V66_2 (K : Value → Value → Value → Value → World → Prop) (e : Env) (w : World) : Prop := E1 e (.tmp 0) fun x0 => E1 e (.tmp 3) fun x3 => E1 e (.tmp 4) fun x4 => E1 e (.tmp 5) fun x5 => K x0 x3 x4 x5 w
abbrev Q66_2 (K1 : Value → Value → World → Prop) (K2 : Value → Value → Value → Value → World → Prop) (R : Value → World → Prop) : Post := thenQ (V66_2 K2) (postC P 53 [true, false, false, true, true, false] b66_1 (Q66_1 K1 R))
theorem e66_4 (x0 x3 x4 x5 : Value) (w : World) (K1 : Value → Value → World → Prop) (K2 : Value → Value → Value → Value → World → Prop) (R : Value → World → Prop) : S66_4 x0 x3 x4 x5 w K1 K2 R = Wp P 53 D66 [] b66_2 [] (thenQ (V66_2 K2) (postW P 53 D66 [true, false, false, true, true, false] b66_1 [] (thenQ (V66_1 K1) (postW P 53 D66 [true, false, true, false] b66_0 [] (Q66_0 R))))) [(0, some x0), (3, some x3), (4, some x4), (5, some x5)] w := by kernel_rfl
theorem q66_4 (x0 x3 x4 x5 : Value) (w : World) (K1 : Value → Value → World → Prop) (K2 : Value → Value → Value → Value → World → Prop) (R : Value → World → Prop) (h : S66_4 x0 x3 x4 x5 w K1 K2 R) : Runs P 53 (subC [] b66_2) (postC P 53 [] b66_2 (Q66_2 K1 K2 R)) [(0, some x0), (3, some x3), (4, some x4), (5, some x5)] w :=
  Wp_use mixed (e66_4 x0 x3 x4 x5 w K1 K2 R) h (thenQ_le (postW_le mixed _ _ _ _ _ (thenQ_le (postW_le mixed _ _ _ _ _ (fun _ _ _ h => h) trivial)) trivial)) trivial
theorem q66_3 (x0 x3 x4 x5 : Value) (w : World) (K1 : Value → Value → World → Prop) (R : Value → World → Prop) (h : S66_3 x0 x3 x4 x5 w K1 R) : Runs P 53 (subC [true, false, false, true, true, false] b66_1) (postC P 53 [true, false, false, true, true, false] b66_1 (Q66_1 K1 R)) [(0, some x0), (3, some x3), (4, some x4), (5, some x5)] w :=
  Runs.loop (σ := Value × Value × Value × Value) (fun s => [(0, some s.1), (3, some s.2.1), (4, some s.2.2.1), (5, some s.2.2.2)]) (fun e k => E1 e (.tmp 0) fun x0 => E1 e (.tmp 3) fun x3 => E1 e (.tmp 4) fun x4 => E1 e (.tmp 5) fun x5 => k (x0, x3, x4, x5)) (fun e k h => let ⟨y0, h0, h⟩ := E1.elim h; let ⟨y3, h3, h⟩ := E1.elim h; let ⟨y4, h4, h⟩ := E1.elim h; let ⟨y5, h5, h⟩ := E1.elim h; ⟨(y0, y3, y4, y5), h, (sub_cons h0 (sub_cons h3 (sub_cons h4 (sub_cons h5 (sub_nil)))))⟩) (fun s w K h => q66_4 s.1 s.2.1 s.2.2.1 s.2.2.2 w K1 (fun x0 x3 x4 x5 w => K (x0, x3, x4, x5) w) R h) h
theorem e66_2 (Z3 : Value → Value → Value → Value → World → Prop) (x0 x3 : Value) (w : World) (K1 : Value → Value → World → Prop) (R : Value → World → Prop) : B66_2 Z3 x0 x3 w K1 R = Wp P 53 D66 [] b66_1 [([true, false, false, true, true, false], fun e w => E1 e (.tmp 0) fun x0 => E1 e (.tmp 3) fun x3 => E1 e (.tmp 4) fun x4 => E1 e (.tmp 5) fun x5 => Z3 x0 x3 x4 x5 w)] (thenQ (V66_1 K1) (postW P 53 D66 [true, false, true, false] b66_0 [] (Q66_0 R))) [(0, some x0), (3, some x3)] w := by kernel_rfl
theorem q66_2 (x0 x3 : Value) (w : World) (K1 : Value → Value → World → Prop) (R : Value → World → Prop) (h : S66_2 x0 x3 w K1 R) : Runs P 53 (subC [] b66_1) (postC P 53 [] b66_1 (Q66_1 K1 R)) [(0, some x0), (3, some x3)] w :=
  Wp_use mixed (e66_2 (fun x0 x3 x4 x5 w => S66_3 x0 x3 x4 x5 w K1 R) x0 x3 w K1 R) h (thenQ_le (postW_le mixed _ _ _ _ _ (fun _ _ _ h => h) trivial)) ⟨(fun e w h => let ⟨y0, h0, h⟩ := E1.elim h; let ⟨y3, h3, h⟩ := E1.elim h; let ⟨y4, h4, h⟩ := E1.elim h; let ⟨y5, h5, h⟩ := E1.elim h; (q66_3 y0 y3 y4 y5 w K1 R h).more (sub_cons h0 (sub_cons h3 (sub_cons h4 (sub_cons h5 (sub_nil)))))), trivial⟩
theorem q66_1 (x0 x3 : Value) (w : World) (R : Value → World → Prop) (h : S66_1 x0 x3 w R) : Runs P 53 (subC [true, false, true, false] b66_0) (postC P 53 [true, false, true, false] b66_0 (Q66_0 R)) [(0, some x0), (3, some x3)] w :=
  Runs.loop (σ := Value × Value) (fun s => [(0, some s.1), (3, some s.2)]) (fun e k => E1 e (.tmp 0) fun x0 => E1 e (.tmp 3) fun x3 => k (x0, x3)) (fun e k h => let ⟨y0, h0, h⟩ := E1.elim h; let ⟨y3, h3, h⟩ := E1.elim h; ⟨(y0, y3), h, (sub_cons h0 (sub_cons h3 (sub_nil)))⟩) (fun s w K h => q66_2 s.1 s.2 w (fun x0 x3 w => K (x0, x3) w) R h) h
theorem e66_0 (Z1 : Value → Value → World → Prop) (x0 : Value) (w : World) (R : Value → World → Prop) : B66_0 Z1 x0 w R = Wp P 53 D66 [] b66_0 [([true, false, true, false], fun e w => E1 e (.tmp 0) fun x0 => E1 e (.tmp 3) fun x3 => Z1 x0 x3 w)] (Q66_0 R) [(0, some x0)] w := by kernel_rfl
theorem q66_0 (x0 : Value) (w : World) (R : Value → World → Prop) (h : S66_0 x0 w R) : Runs P 53 (subC [] b66_0) (postC P 53 [] b66_0 (Q66_0 R)) [(0, some x0)] w :=
  Wp_use mixed (e66_0 (fun x0 x3 w => S66_1 x0 x3 w R) x0 w R) h (fun _ _ _ h => h) ⟨(fun e w h => let ⟨y0, h0, h⟩ := E1.elim h; let ⟨y3, h3, h⟩ := E1.elim h; (q66_1 y0 y3 w R h).more (sub_cons h0 (sub_cons h3 (sub_nil)))), trivial⟩
theorem c66 (x0 : Value) (w : World) (R : Value → World → Prop) (h : S66_0 x0 w R) : CallF P 66 #[x0] w R :=
  call_of_runs (args := [x0]) (c := b66_0) (by kernel_rfl) func66 rfl (by kernel_rfl) (q66_0 x0 w R h)

/-! ### 67 "(*crier/crierroom.Room).holdWhos" -/
noncomputable abbrev b67_0 : Code := (f67.body).getD .skip
abbrev D67 : Plans := [(9, [(0, false), (1, false), (2, false), (3, false), (4, true), (5, false), (6, false)], 7)]
abbrev Q67_0 (R : Value → World → Prop) : Post := retQ P f67.results.toList R
def S67_4 (x0 x3 x4 x5 : Value) (w : World) (K1 : Value → Value → World → Prop) (K2 : Value → Value → Value → Value → World → Prop) (R : Value → World → Prop) : Prop :=
 LF P 51 38 10 x0 w fun v28 w3 =>
 LI P 38 105 v28 x3 w3 fun v31 w5 =>
 XV P (Builtin.len_ #[105] 3 #[v31]) w5 fun v32 w6 =>
 XV P (binS .lss 3 false x5 v32) w6 fun v33 w7 =>
 condW v33 (
  LF P 51 38 10 x0 w7 fun v39 w10 =>
  LI P 38 105 v39 x3 w10 fun v42 w12 =>
  LI P 105 136 v42 x5 w12 fun v45 w14 =>
  XV P (Instr.alloc 136 true (.tuple #[])) w14 fun v6 w15 =>
  XU P (Instr.storeAt 136 v6 v45) w15 fun w16 =>
  XS P (Ext (World.drew w16)) (Instr.loadAt 136 v6) fun v46 =>
  XS P (Ext (World.drew w16)) (binS .sub 3 false x5 x4) fun v49 =>
  CallF P 118 #[v49] (World.drew w16) fun v50 w17 =>
  Ext (World.drew w16) w17 ∧
  XS P (Ext (World.drew w16)) (Instr.build 136 #[(0, v50)]) fun v51 =>
  XS P (Ext (World.drew w16)) (binS .neq 136 false v46 v51) fun v52 =>
  condW v52 (
   R (.bool false) w17) (
   XV P (binS .add 3 true x5 (.int .i64 1)) w17 fun v35 w18 =>
   K2 x0 x3 x4 v35 w18)) (
  XV P (binS .add 3 true x3 (.int .i64 1)) w7 fun v15 w19 =>
  K1 x0 v15 w19)
def S67_3 (x0 x3 x4 x5 : Value) (w : World) (K1 : Value → Value → World → Prop) (R : Value → World → Prop) : Prop :=
 LoopP (fun (s : Value × Value × Value × Value) w K => S67_4 s.1 s.2.1 s.2.2.1 s.2.2.2 w K1 (fun x0 x3 x4 x5 w => K (x0, x3, x4, x5) w) R) (x0, x3, x4, x5) w
def B67_2 (Z3 : Value → Value → Value → Value → World → Prop) (x0 x3 : Value) (w : World) (K1 : Value → Value → World → Prop) (R : Value → World → Prop) : Prop :=
 LF P 51 38 10 x0 w fun v11 w3 =>
 XV P (Builtin.len_ #[38] 3 #[v11]) w3 fun v12 w4 =>
 XV P (binS .lss 3 false x3 v12) w4 fun v13 w5 =>
 condW v13 (
  LF P 51 26 11 x0 w5 fun v19 w8 =>
  LI P 26 3 v19 x3 w8 fun v22 w10 =>
  Z3 x0 x3 v22 v22 w10) (
  R (.bool true) w5)
def S67_2 (x0 x3 : Value) (w : World) (K1 : Value → Value → World → Prop) (R : Value → World → Prop) : Prop := B67_2 (fun x0 x3 x4 x5 w => S67_3 x0 x3 x4 x5 w K1 R) x0 x3 w K1 R
def S67_1 (x0 x3 : Value) (w : World) (R : Value → World → Prop) : Prop :=
 LoopP (fun (s : Value × Value) w K => S67_2 s.1 s.2 w (fun x0 x3 w => K (x0, x3) w) R) (x0, x3) w
def B67_0 (Z1 : Value → Value → World → Prop) (x0 : Value) (w : World) (R : Value → World → Prop) : Prop :=
 Z1 x0 (.int .i64 0) w
def S67_0 (x0 : Value) (w : World) (R : Value → World → Prop) : Prop := B67_0 (fun x0 x3 w => S67_1 x0 x3 w R) x0 w R
noncomputable abbrev b67_1 : Code := match subC [true, false, true, false] b67_0 with | .loop x => x | _ => .skip
abbrev V67_1 (K : Value → Value → World → Prop) (e : Env) (w : World) : Prop := E1 e (.tmp 0) fun x0 => E1 e (.tmp 3) fun x3 => K x0 x3 w
abbrev Q67_1 (K1 : Value → Value → World → Prop) (R : Value → World → Prop) : Post := thenQ (V67_1 K1) (postC P 53 [true, false, true, false] b67_0 (Q67_0 R))
noncomputable abbrev b67_2 : Code := match subC [true, false, false, true, true, false] b67_1 with | .loop x => x | _ => .skip
abbrev V67_2 (K : Value → Value → Value → Value → World → Prop) (e : Env) (w : World) : Prop := E1 e (.tmp 0) fun x0 => E1 e (.tmp 3) fun x3 => E1 e (.tmp 4) fun x4 => E1 e (.tmp 5) fun x5 => K x0 x3 x4 x5 w
abbrev Q67_2 (K1 : Value → Value → World → Prop) (K2 : Value → Value → Value → Value → World → Prop) (R : Value → World → Prop) : Post := thenQ (V67_2 K2) (postC P 53 [true, false, false, true, true, false] b67_1 (Q67_1 K1 R))
theorem e67_4 (x0 x3 x4 x5 : Value) (w : World) (K1 : Value → Value → World → Prop) (K2 : Value → Value → Value → Value → World → Prop) (R : Value → World → Prop) : S67_4 x0 x3 x4 x5 w K1 K2 R = Wp P 53 D67 [] b67_2 [] (thenQ (V67_2 K2) (postW P 53 D67 [true, false, false, true, true, false] b67_1 [] (thenQ (V67_1 K1) (postW P 53 D67 [true, false, true, false] b67_0 [] (Q67_0 R))))) [(0, some x0), (3, some x3), (4, some x4), (5, some x5)] w := by kernel_rfl
theorem q67_4 (x0 x3 x4 x5 : Value) (w : World) (K1 : Value → Value → World → Prop) (K2 : Value → Value → Value → Value → World → Prop) (R : Value → World → Prop) (h : S67_4 x0 x3 x4 x5 w K1 K2 R) : Runs P 53 (subC [] b67_2) (postC P 53 [] b67_2 (Q67_2 K1 K2 R)) [(0, some x0), (3, some x3), (4, some x4), (5, some x5)] w :=
  Wp_use mixed (e67_4 x0 x3 x4 x5 w K1 K2 R) h (thenQ_le (postW_le mixed _ _ _ _ _ (thenQ_le (postW_le mixed _ _ _ _ _ (fun _ _ _ h => h) trivial)) trivial)) trivial
theorem q67_3 (x0 x3 x4 x5 : Value) (w : World) (K1 : Value → Value → World → Prop) (R : Value → World → Prop) (h : S67_3 x0 x3 x4 x5 w K1 R) : Runs P 53 (subC [true, false, false, true, true, false] b67_1) (postC P 53 [true, false, false, true, true, false] b67_1 (Q67_1 K1 R)) [(0, some x0), (3, some x3), (4, some x4), (5, some x5)] w :=
  Runs.loop (σ := Value × Value × Value × Value) (fun s => [(0, some s.1), (3, some s.2.1), (4, some s.2.2.1), (5, some s.2.2.2)]) (fun e k => E1 e (.tmp 0) fun x0 => E1 e (.tmp 3) fun x3 => E1 e (.tmp 4) fun x4 => E1 e (.tmp 5) fun x5 => k (x0, x3, x4, x5)) (fun e k h => let ⟨y0, h0, h⟩ := E1.elim h; let ⟨y3, h3, h⟩ := E1.elim h; let ⟨y4, h4, h⟩ := E1.elim h; let ⟨y5, h5, h⟩ := E1.elim h; ⟨(y0, y3, y4, y5), h, (sub_cons h0 (sub_cons h3 (sub_cons h4 (sub_cons h5 (sub_nil)))))⟩) (fun s w K h => q67_4 s.1 s.2.1 s.2.2.1 s.2.2.2 w K1 (fun x0 x3 x4 x5 w => K (x0, x3, x4, x5) w) R h) h
theorem e67_2 (Z3 : Value → Value → Value → Value → World → Prop) (x0 x3 : Value) (w : World) (K1 : Value → Value → World → Prop) (R : Value → World → Prop) : B67_2 Z3 x0 x3 w K1 R = Wp P 53 D67 [] b67_1 [([true, false, false, true, true, false], fun e w => E1 e (.tmp 0) fun x0 => E1 e (.tmp 3) fun x3 => E1 e (.tmp 4) fun x4 => E1 e (.tmp 5) fun x5 => Z3 x0 x3 x4 x5 w)] (thenQ (V67_1 K1) (postW P 53 D67 [true, false, true, false] b67_0 [] (Q67_0 R))) [(0, some x0), (3, some x3)] w := by kernel_rfl
theorem q67_2 (x0 x3 : Value) (w : World) (K1 : Value → Value → World → Prop) (R : Value → World → Prop) (h : S67_2 x0 x3 w K1 R) : Runs P 53 (subC [] b67_1) (postC P 53 [] b67_1 (Q67_1 K1 R)) [(0, some x0), (3, some x3)] w :=
  Wp_use mixed (e67_2 (fun x0 x3 x4 x5 w => S67_3 x0 x3 x4 x5 w K1 R) x0 x3 w K1 R) h (thenQ_le (postW_le mixed _ _ _ _ _ (fun _ _ _ h => h) trivial)) ⟨(fun e w h => let ⟨y0, h0, h⟩ := E1.elim h; let ⟨y3, h3, h⟩ := E1.elim h; let ⟨y4, h4, h⟩ := E1.elim h; let ⟨y5, h5, h⟩ := E1.elim h; (q67_3 y0 y3 y4 y5 w K1 R h).more (sub_cons h0 (sub_cons h3 (sub_cons h4 (sub_cons h5 (sub_nil)))))), trivial⟩
theorem q67_1 (x0 x3 : Value) (w : World) (R : Value → World → Prop) (h : S67_1 x0 x3 w R) : Runs P 53 (subC [true, false, true, false] b67_0) (postC P 53 [true, false, true, false] b67_0 (Q67_0 R)) [(0, some x0), (3, some x3)] w :=
  Runs.loop (σ := Value × Value) (fun s => [(0, some s.1), (3, some s.2)]) (fun e k => E1 e (.tmp 0) fun x0 => E1 e (.tmp 3) fun x3 => k (x0, x3)) (fun e k h => let ⟨y0, h0, h⟩ := E1.elim h; let ⟨y3, h3, h⟩ := E1.elim h; ⟨(y0, y3), h, (sub_cons h0 (sub_cons h3 (sub_nil)))⟩) (fun s w K h => q67_2 s.1 s.2 w (fun x0 x3 w => K (x0, x3) w) R h) h
theorem e67_0 (Z1 : Value → Value → World → Prop) (x0 : Value) (w : World) (R : Value → World → Prop) : B67_0 Z1 x0 w R = Wp P 53 D67 [] b67_0 [([true, false, true, false], fun e w => E1 e (.tmp 0) fun x0 => E1 e (.tmp 3) fun x3 => Z1 x0 x3 w)] (Q67_0 R) [(0, some x0)] w := by kernel_rfl
theorem q67_0 (x0 : Value) (w : World) (R : Value → World → Prop) (h : S67_0 x0 w R) : Runs P 53 (subC [] b67_0) (postC P 53 [] b67_0 (Q67_0 R)) [(0, some x0)] w :=
  Wp_use mixed (e67_0 (fun x0 x3 w => S67_1 x0 x3 w R) x0 w R) h (fun _ _ _ h => h) ⟨(fun e w h => let ⟨y0, h0, h⟩ := E1.elim h; let ⟨y3, h3, h⟩ := E1.elim h; (q67_1 y0 y3 w R h).more (sub_cons h0 (sub_cons h3 (sub_nil)))), trivial⟩
theorem c67 (x0 : Value) (w : World) (R : Value → World → Prop) (h : S67_0 x0 w R) : CallF P 67 #[x0] w R :=
  call_of_runs (args := [x0]) (c := b67_0) (by kernel_rfl) func67 rfl (by kernel_rfl) (q67_0 x0 w R h)

/-! ### 68 "(*crier/crierroom.Room).holdChunks" -/
noncomputable abbrev b68_0 : Code := (f68.body).getD .skip
abbrev D68 : Plans := [(9, [(0, false), (1, false), (2, false), (3, false), (4, false), (5, false), (6, false), (7, false), (8, false), (9, false), (10, true), (11, false), (12, false), (13, false)], 14)]
abbrev Q68_0 (R : Value → World → Prop) : Post := retQ P f68.results.toList R
def S68_4 (x0 x3 x4 x5 : Value) (w : World) (K1 : Value → Value → World → Prop) (K2 : Value → Value → Value → Value → World → Prop) (R : Value → World → Prop) : Prop :=
 LF P 51 39 12 x0 w fun v28 w3 =>
 LI P 39 33 v28 x3 w3 fun v31 w5 =>
 XV P (Builtin.len_ #[33] 3 #[v31]) w5 fun v32 w6 =>
 XV P (binS .lss 3 false x5 v32) w6 fun v33 w7 =>
 condW v33 (
  LF P 51 39 12 x0 w7 fun v39 w10 =>
  LI P 39 33 v39 x3 w10 fun v42 w12 =>
  LI P 33 22 v42 x5 w12 fun v45 w14 =>
  XS P (Ext (World.drew w14)) (Builtin.len_ #[22] 3 #[v45]) fun v47 =>
  XS P (Ext (World.drew w14)) (binS .neq 3 true v47 (.int .i64 1)) fun v48 =>
  gd v48 false (
   LIS P (Ext (World.drew w14)) 22 5 v45 (.int .i64 0) fun v52 =>
   XS P (Ext (World.drew w14)) (binS .sub 3 false x5 x4) fun v55 =>
   CallF P 117 #[v55] (World.drew w14) fun v56 w15 =>
   Ext (World.drew w14) w15 ∧
   XS P (Ext (World.drew w14)) (convert 3 5 v56) fun v57 =>
   XS P (Ext (World.drew w14)) (binS .neq 5 false v52 v57) fun v58 =>
   condW v58 (
    R (.bool false) w15) (
    XV P (binS .add 3 true x5 (.int .i64 1)) w15 fun v35 w16 =>
    K2 x0 x3 x4 v35 w16)) (
   R (.bool false) (World.drew w14))) (
  XV P (binS .add 3 true x3 (.int .i64 1)) w7 fun v15 w17 =>
  K1 x0 v15 w17)
def S68_3 (x0 x3 x4 x5 : Value) (w : World) (K1 : Value → Value → World → Prop) (R : Value → World → Prop) : Prop :=
 LoopP (fun (s : Value × Value × Value × Value) w K => S68_4 s.1 s.2.1 s.2.2.1 s.2.2.2 w K1 (fun x0 x3 x4 x5 w => K (x0, x3, x4, x5) w) R) (x0, x3, x4, x5) w
def B68_2 (Z3 : Value → Value → Value → Value → World → Prop) (x0 x3 : Value) (w : World) (K1 : Value → Value → World → Prop) (R : Value → World → Prop) : Prop :=
 LF P 51 39 12 x0 w fun v11 w3 =>
 XV P (Builtin.len_ #[39] 3 #[v11]) w3 fun v12 w4 =>
 XV P (binS .lss 3 false x3 v12) w4 fun v13 w5 =>
 condW v13 (
  LF P 51 26 13 x0 w5 fun v19 w8 =>
  LI P 26 3 v19 x3 w8 fun v22 w10 =>
  Z3 x0 x3 v22 v22 w10) (
  R (.bool true) w5)
def S68_2 (x0 x3 : Value) (w : World) (K1 : Value → Value → World → Prop) (R : Value → World → Prop) : Prop := B68_2 (fun x0 x3 x4 x5 w => S68_3 x0 x3 x4 x5 w K1 R) x0 x3 w K1 R
def S68_1 (x0 x3 : Value) (w : World) (R : Value → World → Prop) : Prop :=
 LoopP (fun (s : Value × Value) w K => S68_2 s.1 s.2 w (fun x0 x3 w => K (x0, x3) w) R) (x0, x3) w
def B68_0 (Z1 : Value → Value → World → Prop) (x0 : Value) (w : World) (R : Value → World → Prop) : Prop :=
 Z1 x0 (.int .i64 0) w
def S68_0 (x0 : Value) (w : World) (R : Value → World → Prop) : Prop := B68_0 (fun x0 x3 w => S68_1 x0 x3 w R) x0 w R
noncomputable abbrev b68_1 : Code := match subC [true, false, true, false] b68_0 with | .loop x => x | _ => .skip
abbrev V68_1 (K : Value → Value → World → Prop) (e : Env) (w : World) : Prop := E1 e (.tmp 0) fun x0 => E1 e (.tmp 3) fun x3 => K x0 x3 w
abbrev Q68_1 (K1 : Value → Value → World → Prop) (R : Value → World → Prop) : Post := thenQ (V68_1 K1) (postC P 60 [true, false, true, false] b68_0 (Q68_0 R))
noncomputable abbrev b68_2 : Code := match subC [true, false, false, true, true, false] b68_1 with | .loop x => x | _ => .skip
abbrev V68_2 (K : Value → Value → Value → Value → World → Prop) (e : Env) (w : World) : Prop := E1 e (.tmp 0) fun x0 => E1 e (.tmp 3) fun x3 => E1 e (.tmp 4) fun x4 => E1 e (.tmp 5) fun x5 => K x0 x3 x4 x5 w
abbrev Q68_2 (K1 : Value → Value → World → Prop) (K2 : Value → Value → Value → Value → World → Prop) (R : Value → World → Prop) : Post := thenQ (V68_2 K2) (postC P 60 [true, false, false, true, true, false] b68_1 (Q68_1 K1 R))
theorem e68_4 (x0 x3 x4 x5 : Value) (w : World) (K1 : Value → Value → World → Prop) (K2 : Value → Value → Value → Value → World → Prop) (R : Value → World → Prop) : S68_4 x0 x3 x4 x5 w K1 K2 R = Wp P 60 D68 [] b68_2 [] (thenQ (V68_2 K2) (postW P 60 D68 [true, false, false, true, true, false] b68_1 [] (thenQ (V68_1 K1) (postW P 60 D68 [true, false, true, false] b68_0 [] (Q68_0 R))))) [(0, some x0), (3, some x3), (4, some x4), (5, some x5)] w := by kernel_rfl
theorem q68_4 (x0 x3 x4 x5 : Value) (w : World) (K1 : Value → Value → World → Prop) (K2 : Value → Value → Value → Value → World → Prop) (R : Value → World → Prop) (h : S68_4 x0 x3 x4 x5 w K1 K2 R) : Runs P 60 (subC [] b68_2) (postC P 60 [] b68_2 (Q68_2 K1 K2 R)) [(0, some x0), (3, some x3), (4, some x4), (5, some x5)] w :=
  Wp_use mixed (e68_4 x0 x3 x4 x5 w K1 K2 R) h (thenQ_le (postW_le mixed _ _ _ _ _ (thenQ_le (postW_le mixed _ _ _ _ _ (fun _ _ _ h => h) trivial)) trivial)) trivial
theorem q68_3 (x0 x3 x4 x5 : Value) (w : World) (K1 : Value → Value → World → Prop) (R : Value → World → Prop) (h : S68_3 x0 x3 x4 x5 w K1 R) : Runs P 60 (subC [true, false, false, true, true, false] b68_1) (postC P 60 [true, false, false, true, true, false] b68_1 (Q68_1 K1 R)) [(0, some x0), (3, some x3), (4, some x4), (5, some x5)] w :=
  Runs.loop (σ := Value × Value × Value × Value) (fun s => [(0, some s.1), (3, some s.2.1), (4, some s.2.2.1), (5, some s.2.2.2)]) (fun e k => E1 e (.tmp 0) fun x0 => E1 e (.tmp 3) fun x3 => E1 e (.tmp 4) fun x4 => E1 e (.tmp 5) fun x5 => k (x0, x3, x4, x5)) (fun e k h => let ⟨y0, h0, h⟩ := E1.elim h; let ⟨y3, h3, h⟩ := E1.elim h; let ⟨y4, h4, h⟩ := E1.elim h; let ⟨y5, h5, h⟩ := E1.elim h; ⟨(y0, y3, y4, y5), h, (sub_cons h0 (sub_cons h3 (sub_cons h4 (sub_cons h5 (sub_nil)))))⟩) (fun s w K h => q68_4 s.1 s.2.1 s.2.2.1 s.2.2.2 w K1 (fun x0 x3 x4 x5 w => K (x0, x3, x4, x5) w) R h) h
theorem e68_2 (Z3 : Value → Value → Value → Value → World → Prop) (x0 x3 : Value) (w : World) (K1 : Value → Value → World → Prop) (R : Value → World → Prop) : B68_2 Z3 x0 x3 w K1 R = Wp P 60 D68 [] b68_1 [([true, false, false, true, true, false], fun e w => E1 e (.tmp 0) fun x0 => E1 e (.tmp 3) fun x3 => E1 e (.tmp 4) fun x4 => E1 e (.tmp 5) fun x5 => Z3 x0 x3 x4 x5 w)] (thenQ (V68_1 K1) (postW P 60 D68 [true, false, true, false] b68_0 [] (Q68_0 R))) [(0, some x0), (3, some x3)] w := by kernel_rfl
theorem q68_2 (x0 x3 : Value) (w : World) (K1 : Value → Value → World → Prop) (R : Value → World → Prop) (h : S68_2 x0 x3 w K1 R) : Runs P 60 (subC [] b68_1) (postC P 60 [] b68_1 (Q68_1 K1 R)) [(0, some x0), (3, some x3)] w :=
  Wp_use mixed (e68_2 (fun x0 x3 x4 x5 w => S68_3 x0 x3 x4 x5 w K1 R) x0 x3 w K1 R) h (thenQ_le (postW_le mixed _ _ _ _ _ (fun _ _ _ h => h) trivial)) ⟨(fun e w h => let ⟨y0, h0, h⟩ := E1.elim h; let ⟨y3, h3, h⟩ := E1.elim h; let ⟨y4, h4, h⟩ := E1.elim h; let ⟨y5, h5, h⟩ := E1.elim h; (q68_3 y0 y3 y4 y5 w K1 R h).more (sub_cons h0 (sub_cons h3 (sub_cons h4 (sub_cons h5 (sub_nil)))))), trivial⟩
theorem q68_1 (x0 x3 : Value) (w : World) (R : Value → World → Prop) (h : S68_1 x0 x3 w R) : Runs P 60 (subC [true, false, true, false] b68_0) (postC P 60 [true, false, true, false] b68_0 (Q68_0 R)) [(0, some x0), (3, some x3)] w :=
  Runs.loop (σ := Value × Value) (fun s => [(0, some s.1), (3, some s.2)]) (fun e k => E1 e (.tmp 0) fun x0 => E1 e (.tmp 3) fun x3 => k (x0, x3)) (fun e k h => let ⟨y0, h0, h⟩ := E1.elim h; let ⟨y3, h3, h⟩ := E1.elim h; ⟨(y0, y3), h, (sub_cons h0 (sub_cons h3 (sub_nil)))⟩) (fun s w K h => q68_2 s.1 s.2 w (fun x0 x3 w => K (x0, x3) w) R h) h
theorem e68_0 (Z1 : Value → Value → World → Prop) (x0 : Value) (w : World) (R : Value → World → Prop) : B68_0 Z1 x0 w R = Wp P 60 D68 [] b68_0 [([true, false, true, false], fun e w => E1 e (.tmp 0) fun x0 => E1 e (.tmp 3) fun x3 => Z1 x0 x3 w)] (Q68_0 R) [(0, some x0)] w := by kernel_rfl
theorem q68_0 (x0 : Value) (w : World) (R : Value → World → Prop) (h : S68_0 x0 w R) : Runs P 60 (subC [] b68_0) (postC P 60 [] b68_0 (Q68_0 R)) [(0, some x0)] w :=
  Wp_use mixed (e68_0 (fun x0 x3 w => S68_1 x0 x3 w R) x0 w R) h (fun _ _ _ h => h) ⟨(fun e w h => let ⟨y0, h0, h⟩ := E1.elim h; let ⟨y3, h3, h⟩ := E1.elim h; (q68_1 y0 y3 w R h).more (sub_cons h0 (sub_cons h3 (sub_nil)))), trivial⟩
theorem c68 (x0 : Value) (w : World) (R : Value → World → Prop) (h : S68_0 x0 w R) : CallF P 68 #[x0] w R :=
  call_of_runs (args := [x0]) (c := b68_0) (by kernel_rfl) func68 rfl (by kernel_rfl) (q68_0 x0 w R h)

/-! ### 69 "(*crier/crierroom.Room).holdMessages" -/
noncomputable abbrev b69_0 : Code := (f69.body).getD .skip
abbrev D69 : Plans := [(9, [(0, false), (1, false), (2, false), (3, false), (4, false), (5, true), (6, false), (7, false), (8, false), (9, false), (10, false), (11, false), (12, false), (13, false), (14, false), (15, false), (16, false), (17, false)], 18)]
abbrev Q69_0 (R : Value → World → Prop) : Post := retQ P f69.results.toList R
def S69_4 (x0 x3 x4 x5 : Value) (w : World) (K1 : Value → Value → World → Prop) (K2 : Value → Value → Value → Value → World → Prop) (R : Value → World → Prop) : Prop :=
 LF P 51 40 14 x0 w fun v28 w3 =>
 LI P 40 108 v28 x3 w3 fun v31 w5 =>
 XV P (Builtin.len_ #[108] 3 #[v31]) w5 fun v32 w6 =>
 XV P (binS .lss 3 false x5 v32) w6 fun v33 w7 =>
 condW v33 (
  LF P 51 40 14 x0 w7 fun v39 w10 =>
  LI P 40 108 v39 x3 w10 fun v42 w12 =>
  LI P 108 24 v42 x5 w12 fun v45 w14 =>
  XV P (Instr.alloc 24 true (.tuple #[])) w14 fun v6 w15 =>
  XU P (Instr.storeAt 24 v6 v45) w15 fun w16 =>
  LBS P (Ext (World.drew w16)) 24 9 0 v6 fun v47 =>
  XS P (Ext (World.drew w16)) (binS .sub 3 false x5 x4) fun v50 =>
  CallF P 118 #[v50] (World.drew w16) fun v51 w17 =>
  Ext (World.drew w16) w17 ∧
  XS P (Ext (World.drew w16)) (binS .neq 9 false v47 v51) fun v52 =>
  gd v52 false (
   LBS P (Ext (World.drew w16)) 24 3 2 v6 fun v55 =>
   XS P (Ext (World.drew w16)) (binS .neq 3 true v55 (.int .i64 0)) fun v56 =>
   gd v56 false (
    LBS P (Ext (World.drew w16)) 24 22 1 v6 fun v60 =>
    XS P (Ext (World.drew w16)) (Builtin.len_ #[22] 3 #[v60]) fun v61 =>
    XS P (Ext (World.drew w16)) (binS .neq 3 true v61 (.int .i64 0)) fun v62 =>
    condW v62 (
     R (.bool false) w17) (
     XV P (binS .add 3 true x5 (.int .i64 1)) w17 fun v35 w18 =>
     K2 x0 x3 x4 v35 w18)) (
    R (.bool false) w17)) (
   R (.bool false) w17)) (
  XV P (binS .add 3 true x3 (.int .i64 1)) w7 fun v15 w19 =>
  K1 x0 v15 w19)
def S69_3 (x0 x3 x4 x5 : Value) (w : World) (K1 : Value → Value → World → Prop) (R : Value → World → Prop) : Prop :=
 LoopP (fun (s : Value × Value × Value × Value) w K => S69_4 s.1 s.2.1 s.2.2.1 s.2.2.2 w K1 (fun x0 x3 x4 x5 w => K (x0, x3, x4, x5) w) R) (x0, x3, x4, x5) w
def B69_2 (Z3 : Value → Value → Value → Value → World → Prop) (x0 x3 : Value) (w : World) (K1 : Value → Value → World → Prop) (R : Value → World → Prop) : Prop :=
 LF P 51 40 14 x0 w fun v11 w3 =>
 XV P (Builtin.len_ #[40] 3 #[v11]) w3 fun v12 w4 =>
 XV P (binS .lss 3 false x3 v12) w4 fun v13 w5 =>
 condW v13 (
  LF P 51 26 15 x0 w5 fun v19 w8 =>
  LI P 26 3 v19 x3 w8 fun v22 w10 =>
  Z3 x0 x3 v22 v22 w10) (
  R (.bool true) w5)
def S69_2 (x0 x3 : Value) (w : World) (K1 : Value → Value → World → Prop) (R : Value → World → Prop) : Prop := B69_2 (fun x0 x3 x4 x5 w => S69_3 x0 x3 x4 x5 w K1 R) x0 x3 w K1 R
def S69_1 (x0 x3 : Value) (w : World) (R : Value → World → Prop) : Prop :=
 LoopP (fun (s : Value × Value) w K => S69_2 s.1 s.2 w (fun x0 x3 w => K (x0, x3) w) R) (x0, x3) w
def B69_0 (Z1 : Value → Value → World → Prop) (x0 : Value) (w : World) (R : Value → World → Prop) : Prop :=
 Z1 x0 (.int .i64 0) w
def S69_0 (x0 : Value) (w : World) (R : Value → World → Prop) : Prop := B69_0 (fun x0 x3 w => S69_1 x0 x3 w R) x0 w R
noncomputable abbrev b69_1 : Code := match subC [true, false, true, false] b69_0 with | .loop x => x | _ => .skip
abbrev V69_1 (K : Value → Value → World → Prop) (e : Env) (w : World) : Prop := E1 e (.tmp 0) fun x0 => E1 e (.tmp 3) fun x3 => K x0 x3 w
abbrev Q69_1 (K1 : Value → Value → World → Prop) (R : Value → World → Prop) : Post := thenQ (V69_1 K1) (postC P 64 [true, false, true, false] b69_0 (Q69_0 R))
noncomputable abbrev b69_2 : Code := match subC [true, false, false, true, true, false] b69_1 with | .loop x => x | _ => .skip
abbrev V69_2 (K : Value → Value → Value → Value → World → Prop) (e : Env) (w : World) : Prop := E1 e (.tmp 0) fun x0 => E1 e (.tmp 3) fun x3 => E1 e (.tmp 4) fun x4 => E1 e (.tmp 5) fun x5 => K x0 x3 x4 x5 w
abbrev Q69_2 (K1 : Value → Value → World → Prop) (K2 : Value → Value → Value → Value → World → Prop) (R : Value → World → Prop) : Post := thenQ (V69_2 K2) (postC P 64 [true, false, false, true, true, false] b69_1 (Q69_1 K1 R))
theorem e69_4 (x0 x3 x4 x5 : Value) (w : World) (K1 : Value → Value → World → Prop) (K2 : Value → Value → Value → Value → World → Prop) (R : Value → World → Prop) : S69_4 x0 x3 x4 x5 w K1 K2 R = Wp P 64 D69 [] b69_2 [] (thenQ (V69_2 K2) (postW P 64 D69 [true, false, false, true, true, false] b69_1 [] (thenQ (V69_1 K1) (postW P 64 D69 [true, false, true, false] b69_0 [] (Q69_0 R))))) [(0, some x0), (3, some x3), (4, some x4), (5, some x5)] w := by kernel_rfl
theorem q69_4 (x0 x3 x4 x5 : Value) (w : World) (K1 : Value → Value → World → Prop) (K2 : Value → Value → Value → Value → World → Prop) (R : Value → World → Prop) (h : S69_4 x0 x3 x4 x5 w K1 K2 R) : Runs P 64 (subC [] b69_2) (postC P 64 [] b69_2 (Q69_2 K1 K2 R)) [(0, some x0), (3, some x3), (4, some x4), (5, some x5)] w :=
  Wp_use mixed (e69_4 x0 x3 x4 x5 w K1 K2 R) h (thenQ_le (postW_le mixed _ _ _ _ _ (thenQ_le (postW_le mixed _ _ _ _ _ (fun _ _ _ h => h) trivial)) trivial)) trivial
theorem q69_3 (x0 x3 x4 x5 : Value) (w : World) (K1 : Value → Value → World → Prop) (R : Value → World → Prop) (h : S69_3 x0 x3 x4 x5 w K1 R) : Runs P 64 (subC [true, false, false, true, true, false] b69_1) (postC P 64 [true, false, false, true, true, false] b69_1 (Q69_1 K1 R)) [(0, some x0), (3, some x3), (4, some x4), (5, some x5)] w :=
  Runs.loop (σ := Value × Value × Value × Value) (fun s => [(0, some s.1), (3, some s.2.1), (4, some s.2.2.1), (5, some s.2.2.2)]) (fun e k => E1 e (.tmp 0) fun x0 => E1 e (.tmp 3) fun x3 => E1 e (.tmp 4) fun x4 => E1 e (.tmp 5) fun x5 => k (x0, x3, x4, x5)) (fun e k h => let ⟨y0, h0, h⟩ := E1.elim h; let ⟨y3, h3, h⟩ := E1.elim h; let ⟨y4, h4, h⟩ := E1.elim h; let ⟨y5, h5, h⟩ := E1.elim h; ⟨(y0, y3, y4, y5), h, (sub_cons h0 (sub_cons h3 (sub_cons h4 (sub_cons h5 (sub_nil)))))⟩) (fun s w K h => q69_4 s.1 s.2.1 s.2.2.1 s.2.2.2 w K1 (fun x0 x3 x4 x5 w => K (x0, x3, x4, x5) w) R h) h
theorem e69_2 (Z3 : Value → Value → Value → Value → World → Prop) (x0 x3 : Value) (w : World) (K1 : Value → Value → World → Prop) (R : Value → World → Prop) : B69_2 Z3 x0 x3 w K1 R = Wp P 64 D69 [] b69_1 [([true, false, false, true, true, false], fun e w => E1 e (.tmp 0) fun x0 => E1 e (.tmp 3) fun x3 => E1 e (.tmp 4) fun x4 => E1 e (.tmp 5) fun x5 => Z3 x0 x3 x4 x5 w)] (thenQ (V69_1 K1) (postW P 64 D69 [true, false, true, false] b69_0 [] (Q69_0 R))) [(0, some x0), (3, some x3)] w := by kernel_rfl
theorem q69_2 (x0 x3 : Value) (w : World) (K1 : Value → Value → World → Prop) (R : Value → World → Prop) (h : S69_2 x0 x3 w K1 R) : Runs P 64 (subC [] b69_1) (postC P 64 [] b69_1 (Q69_1 K1 R)) [(0, some x0), (3, some x3)] w :=
  Wp_use mixed (e69_2 (fun x0 x3 x4 x5 w => S69_3 x0 x3 x4 x5 w K1 R) x0 x3 w K1 R) h (thenQ_le (postW_le mixed _ _ _ _ _ (fun _ _ _ h => h) trivial)) ⟨(fun e w h => let ⟨y0, h0, h⟩ := E1.elim h; let ⟨y3, h3, h⟩ := E1.elim h; let ⟨y4, h4, h⟩ := E1.elim h; let ⟨y5, h5, h⟩ := E1.elim h; (q69_3 y0 y3 y4 y5 w K1 R h).more (sub_cons h0 (sub_cons h3 (sub_cons h4 (sub_cons h5 (sub_nil)))))), trivial⟩
theorem q69_1 (x0 x3 : Value) (w : World) (R : Value → World → Prop) (h : S69_1 x0 x3 w R) : Runs P 64 (subC [true, false, true, false] b69_0) (postC P 64 [true, false, true, false] b69_0 (Q69_0 R)) [(0, some x0), (3, some x3)] w :=
  Runs.loop (σ := Value × Value) (fun s => [(0, some s.1), (3, some s.2)]) (fun e k => E1 e (.tmp 0) fun x0 => E1 e (.tmp 3) fun x3 => k (x0, x3)) (fun e k h => let ⟨y0, h0, h⟩ := E1.elim h; let ⟨y3, h3, h⟩ := E1.elim h; ⟨(y0, y3), h, (sub_cons h0 (sub_cons h3 (sub_nil)))⟩) (fun s w K h => q69_2 s.1 s.2 w (fun x0 x3 w => K (x0, x3) w) R h) h
theorem e69_0 (Z1 : Value → Value → World → Prop) (x0 : Value) (w : World) (R : Value → World → Prop) : B69_0 Z1 x0 w R = Wp P 64 D69 [] b69_0 [([true, false, true, false], fun e w => E1 e (.tmp 0) fun x0 => E1 e (.tmp 3) fun x3 => Z1 x0 x3 w)] (Q69_0 R) [(0, some x0)] w := by kernel_rfl
theorem q69_0 (x0 : Value) (w : World) (R : Value → World → Prop) (h : S69_0 x0 w R) : Runs P 64 (subC [] b69_0) (postC P 64 [] b69_0 (Q69_0 R)) [(0, some x0)] w :=
  Wp_use mixed (e69_0 (fun x0 x3 w => S69_1 x0 x3 w R) x0 w R) h (fun _ _ _ h => h) ⟨(fun e w h => let ⟨y0, h0, h⟩ := E1.elim h; let ⟨y3, h3, h⟩ := E1.elim h; (q69_1 y0 y3 w R h).more (sub_cons h0 (sub_cons h3 (sub_nil)))), trivial⟩
theorem c69 (x0 : Value) (w : World) (R : Value → World → Prop) (h : S69_0 x0 w R) : CallF P 69 #[x0] w R :=
  call_of_runs (args := [x0]) (c := b69_0) (by kernel_rfl) func69 rfl (by kernel_rfl) (q69_0 x0 w R h)

/-! ### 70 "(*crier/crierroom.Room).holdFlights" -/
noncomputable abbrev b70_0 : Code := (f70.body).getD .skip
abbrev D70 : Plans := [(9, [(0, false), (1, false), (2, false), (3, false), (4, false), (5, true), (6, false), (7, false), (8, false), (9, false), (10, false), (11, false), (12, false), (13, false), (14, false), (15, false), (16, false), (17, false)], 18)]
abbrev Q70_0 (R : Value → World → Prop) : Post := retQ P f70.results.toList R
def S70_4 (x0 x3 x4 x5 : Value) (w : World) (K1 : Value → Value → World → Prop) (K2 : Value → Value → Value → Value → World → Prop) (R : Value → World → Prop) : Prop :=
 LF P 51 41 16 x0 w fun v28 w3 =>
 LI P 41 111 v28 x3 w3 fun v31 w5 =>
 XV P (Builtin.len_ #[111] 3 #[v31]) w5 fun v32 w6 =>
 XV P (binS .lss 3 false x5 v32) w6 fun v33 w7 =>
 condW v33 (
  LF P 51 41 16 x0 w7 fun v39 w10 =>
  LI P 41 111 v39 x3 w10 fun v42 w12 =>
  LI P 111 138 v42 x5 w12 fun v45 w14 =>
  XV P (Instr.alloc 138 true (.tuple #[])) w14 fun v6 w15 =>
  XU P (Instr.storeAt 138 v6 v45) w15 fun w16 =>
  LBS P (Ext (World.drew w16)) 138 3 0 v6 fun v47 =>
  XS P (Ext (World.drew w16)) (binS .sub 3 false x5 x4) fun v50 =>
  CallF P 117 #[v50] (World.drew w16) fun v51 w17 =>
  Ext (World.drew w16) w17 ∧
  XS P (Ext (World.drew w16)) (binS .neq 3 false v47 v51) fun v52 =>
  gd v52 false (
   LBS P (Ext (World.drew w16)) 138 4 2 v6 fun v55 =>
   gd v55 false (
    XS P (Ext (World.drew w16)) (Instr.fieldAt 138 v6 1) fun v58 =>
    LBS P (Ext (World.drew w16)) 24 22 1 v58 fun v60 =>
    XS P (Ext (World.drew w16)) (Builtin.len_ #[22] 3 #[v60]) fun v61 =>
    XS P (Ext (World.drew w16)) (binS .neq 3 true v61 (.int .i64 0)) fun v62 =>
    condW v62 (
     R (.bool false) w17) (
     XV P (binS .add 3 true x5 (.int .i64 1)) w17 fun v35 w18 =>
     K2 x0 x3 x4 v35 w18)) (
    R (.bool false) w17)) (
   R (.bool false) w17)) (
  XV P (binS .add 3 true x3 (.int .i64 1)) w7 fun v15 w19 =>
  K1 x0 v15 w19)
def S70_3 (x0 x3 x4 x5 : Value) (w : World) (K1 : Value → Value → World → Prop) (R : Value → World → Prop) : Prop :=
 LoopP (fun (s : Value × Value × Value × Value) w K => S70_4 s.1 s.2.1 s.2.2.1 s.2.2.2 w K1 (fun x0 x3 x4 x5 w => K (x0, x3, x4, x5) w) R) (x0, x3, x4, x5) w
def B70_2 (Z3 : Value → Value → Value → Value → World → Prop) (x0 x3 : Value) (w : World) (K1 : Value → Value → World → Prop) (R : Value → World → Prop) : Prop :=
 LF P 51 41 16 x0 w fun v11 w3 =>
 XV P (Builtin.len_ #[41] 3 #[v11]) w3 fun v12 w4 =>
 XV P (binS .lss 3 false x3 v12) w4 fun v13 w5 =>
 condW v13 (
  LF P 51 26 17 x0 w5 fun v19 w8 =>
  LI P 26 3 v19 x3 w8 fun v22 w10 =>
  Z3 x0 x3 v22 v22 w10) (
  R (.bool true) w5)
def S70_2 (x0 x3 : Value) (w : World) (K1 : Value → Value → World → Prop) (R : Value → World → Prop) : Prop := B70_2 (fun x0 x3 x4 x5 w => S70_3 x0 x3 x4 x5 w K1 R) x0 x3 w K1 R
def S70_1 (x0 x3 : Value) (w : World) (R : Value → World → Prop) : Prop :=
 LoopP (fun (s : Value × Value) w K => S70_2 s.1 s.2 w (fun x0 x3 w => K (x0, x3) w) R) (x0, x3) w
def B70_0 (Z1 : Value → Value → World → Prop) (x0 : Value) (w : World) (R : Value → World → Prop) : Prop :=
 Z1 x0 (.int .i64 0) w
def S70_0 (x0 : Value) (w : World) (R : Value → World → Prop) : Prop := B70_0 (fun x0 x3 w => S70_1 x0 x3 w R) x0 w R
noncomputable abbrev b70_1 : Code := match subC [true, false, true, false] b70_0 with | .loop x => x | _ => .skip
abbrev V70_1 (K : Value → Value → World → Prop) (e : Env) (w : World) : Prop := E1 e (.tmp 0) fun x0 => E1 e (.tmp 3) fun x3 => K x0 x3 w
abbrev Q70_1 (K1 : Value → Value → World → Prop) (R : Value → World → Prop) : Post := thenQ (V70_1 K1) (postC P 64 [true, false, true, false] b70_0 (Q70_0 R))
noncomputable abbrev b70_2 : Code := match subC [true, false, false, true, true, false] b70_1 with | .loop x => x | _ => .skip
abbrev V70_2 (K : Value → Value → Value → Value → World → Prop) (e : Env) (w : World) : Prop := E1 e (.tmp 0) fun x0 => E1 e (.tmp 3) fun x3 => E1 e (.tmp 4) fun x4 => E1 e (.tmp 5) fun x5 => K x0 x3 x4 x5 w
abbrev Q70_2 (K1 : Value → Value → World → Prop) (K2 : Value → Value → Value → Value → World → Prop) (R : Value → World → Prop) : Post := thenQ (V70_2 K2) (postC P 64 [true, false, false, true, true, false] b70_1 (Q70_1 K1 R))
theorem e70_4 (x0 x3 x4 x5 : Value) (w : World) (K1 : Value → Value → World → Prop) (K2 : Value → Value → Value → Value → World → Prop) (R : Value → World → Prop) : S70_4 x0 x3 x4 x5 w K1 K2 R = Wp P 64 D70 [] b70_2 [] (thenQ (V70_2 K2) (postW P 64 D70 [true, false, false, true, true, false] b70_1 [] (thenQ (V70_1 K1) (postW P 64 D70 [true, false, true, false] b70_0 [] (Q70_0 R))))) [(0, some x0), (3, some x3), (4, some x4), (5, some x5)] w := by kernel_rfl
theorem q70_4 (x0 x3 x4 x5 : Value) (w : World) (K1 : Value → Value → World → Prop) (K2 : Value → Value → Value → Value → World → Prop) (R : Value → World → Prop) (h : S70_4 x0 x3 x4 x5 w K1 K2 R) : Runs P 64 (subC [] b70_2) (postC P 64 [] b70_2 (Q70_2 K1 K2 R)) [(0, some x0), (3, some x3), (4, some x4), (5, some x5)] w :=
  Wp_use mixed (e70_4 x0 x3 x4 x5 w K1 K2 R) h (thenQ_le (postW_le mixed _ _ _ _ _ (thenQ_le (postW_le mixed _ _ _ _ _ (fun _ _ _ h => h) trivial)) trivial)) trivial
theorem q70_3 (x0 x3 x4 x5 : Value) (w : World) (K1 : Value → Value → World → Prop) (R : Value → World → Prop) (h : S70_3 x0 x3 x4 x5 w K1 R) : Runs P 64 (subC [true, false, false, true, true, false] b70_1) (postC P 64 [true, false, false, true, true, false] b70_1 (Q70_1 K1 R)) [(0, some x0), (3, some x3), (4, some x4), (5, some x5)] w :=
  Runs.loop (σ := Value × Value × Value × Value) (fun s => [(0, some s.1), (3, some s.2.1), (4, some s.2.2.1), (5, some s.2.2.2)]) (fun e k => E1 e (.tmp 0) fun x0 => E1 e (.tmp 3) fun x3 => E1 e (.tmp 4) fun x4 => E1 e (.tmp 5) fun x5 => k (x0, x3, x4, x5)) (fun e k h => let ⟨y0, h0, h⟩ := E1.elim h; let ⟨y3, h3, h⟩ := E1.elim h; let ⟨y4, h4, h⟩ := E1.elim h; let ⟨y5, h5, h⟩ := E1.elim h; ⟨(y0, y3, y4, y5), h, (sub_cons h0 (sub_cons h3 (sub_cons h4 (sub_cons h5 (sub_nil)))))⟩) (fun s w K h => q70_4 s.1 s.2.1 s.2.2.1 s.2.2.2 w K1 (fun x0 x3 x4 x5 w => K (x0, x3, x4, x5) w) R h) h
theorem e70_2 (Z3 : Value → Value → Value → Value → World → Prop) (x0 x3 : Value) (w : World) (K1 : Value → Value → World → Prop) (R : Value → World → Prop) : B70_2 Z3 x0 x3 w K1 R = Wp P 64 D70 [] b70_1 [([true, false, false, true, true, false], fun e w => E1 e (.tmp 0) fun x0 => E1 e (.tmp 3) fun x3 => E1 e (.tmp 4) fun x4 => E1 e (.tmp 5) fun x5 => Z3 x0 x3 x4 x5 w)] (thenQ (V70_1 K1) (postW P 64 D70 [true, false, true, false] b70_0 [] (Q70_0 R))) [(0, some x0), (3, some x3)] w := by kernel_rfl
theorem q70_2 (x0 x3 : Value) (w : World) (K1 : Value → Value → World → Prop) (R : Value → World → Prop) (h : S70_2 x0 x3 w K1 R) : Runs P 64 (subC [] b70_1) (postC P 64 [] b70_1 (Q70_1 K1 R)) [(0, some x0), (3, some x3)] w :=
  Wp_use mixed (e70_2 (fun x0 x3 x4 x5 w => S70_3 x0 x3 x4 x5 w K1 R) x0 x3 w K1 R) h (thenQ_le (postW_le mixed _ _ _ _ _ (fun _ _ _ h => h) trivial)) ⟨(fun e w h => let ⟨y0, h0, h⟩ := E1.elim h; let ⟨y3, h3, h⟩ := E1.elim h; let ⟨y4, h4, h⟩ := E1.elim h; let ⟨y5, h5, h⟩ := E1.elim h; (q70_3 y0 y3 y4 y5 w K1 R h).more (sub_cons h0 (sub_cons h3 (sub_cons h4 (sub_cons h5 (sub_nil)))))), trivial⟩
theorem q70_1 (x0 x3 : Value) (w : World) (R : Value → World → Prop) (h : S70_1 x0 x3 w R) : Runs P 64 (subC [true, false, true, false] b70_0) (postC P 64 [true, false, true, false] b70_0 (Q70_0 R)) [(0, some x0), (3, some x3)] w :=
  Runs.loop (σ := Value × Value) (fun s => [(0, some s.1), (3, some s.2)]) (fun e k => E1 e (.tmp 0) fun x0 => E1 e (.tmp 3) fun x3 => k (x0, x3)) (fun e k h => let ⟨y0, h0, h⟩ := E1.elim h; let ⟨y3, h3, h⟩ := E1.elim h; ⟨(y0, y3), h, (sub_cons h0 (sub_cons h3 (sub_nil)))⟩) (fun s w K h => q70_2 s.1 s.2 w (fun x0 x3 w => K (x0, x3) w) R h) h
theorem e70_0 (Z1 : Value → Value → World → Prop) (x0 : Value) (w : World) (R : Value → World → Prop) : B70_0 Z1 x0 w R = Wp P 64 D70 [] b70_0 [([true, false, true, false], fun e w => E1 e (.tmp 0) fun x0 => E1 e (.tmp 3) fun x3 => Z1 x0 x3 w)] (Q70_0 R) [(0, some x0)] w := by kernel_rfl
theorem q70_0 (x0 : Value) (w : World) (R : Value → World → Prop) (h : S70_0 x0 w R) : Runs P 64 (subC [] b70_0) (postC P 64 [] b70_0 (Q70_0 R)) [(0, some x0)] w :=
  Wp_use mixed (e70_0 (fun x0 x3 w => S70_1 x0 x3 w R) x0 w R) h (fun _ _ _ h => h) ⟨(fun e w h => let ⟨y0, h0, h⟩ := E1.elim h; let ⟨y3, h3, h⟩ := E1.elim h; (q70_1 y0 y3 w R h).more (sub_cons h0 (sub_cons h3 (sub_nil)))), trivial⟩
theorem c70 (x0 : Value) (w : World) (R : Value → World → Prop) (h : S70_0 x0 w R) : CallF P 70 #[x0] w R :=
  call_of_runs (args := [x0]) (c := b70_0) (by kernel_rfl) func70 rfl (by kernel_rfl) (q70_0 x0 w R h)

/-! ### 71 "(*crier/crierroom.Room).holdPackets" -/
noncomputable abbrev b71_0 : Code := (f71.body).getD .skip
abbrev D71 : Plans := [(9, [(0, false), (1, false), (2, false), (3, false), (4, false), (5, true), (6, false), (7, false), (8, false), (9, false), (10, false), (11, false), (12, false), (13, false), (14, false), (15, false), (16, false), (17, false), (18, false)], 19)]
abbrev Q71_0 (R : Value → World → Prop) : Post := retQ P f71.results.toList R
def S71_4 (x0 x3 x4 x5 : Value) (w : World) (K1 : Value → Value → World → Prop) (K2 : Value → Value → Value → Value → World → Prop) (R : Value → World → Prop) : Prop :=
 LF P 51 42 18 x0 w fun v28 w3 =>
 LI P 42 65 v28 x3 w3 fun v31 w5 =>
 XV P (Builtin.len_ #[65] 3 #[v31]) w5 fun v32 w6 =>
 XV P (binS .lss 3 false x5 v32) w6 fun v33 w7 =>
 condW v33 (
  LF P 51 42 18 x0 w7 fun v39 w10 =>
  LI P 42 65 v39 x3 w10 fun v42 w12 =>
  LI P 65 29 v42 x5 w12 fun v45 w14 =>
  XV P (Instr.alloc 29 true (.tuple #[])) w14 fun v6 w15 =>
  XU P (Instr.storeAt 29 v6 v45) w15 fun w16 =>
  LBS P (Ext (World.drew w16)) 29 3 15 v6 fun v47 =>
  XS P (Ext (World.drew w16)) (binS .sub 3 false x5 x4) fun v50 =>
  CallF P 117 #[v50] (World.drew w16) fun v51 w17 =>
  Ext (World.drew w16) w17 ∧
  XS P (Ext (World.drew w16)) (binS .neq 3 false v47 v51) fun v52 =>
  gd v52 false (
   LBS P (Ext (World.drew w16)) 29 3 0 v6 fun v55 =>
   XS P (Ext (World.drew w16)) (binS .neq 3 true v55 (.int .i64 0)) fun v56 =>
   gd v56 false (
    XS P (Ext (World.drew w16)) (Instr.fieldAt 29 v6 14) fun v59 =>
    LBS P (Ext (World.drew w16)) 24 22 1 v59 fun v61 =>
    XS P (Ext (World.drew w16)) (Builtin.len_ #[22] 3 #[v61]) fun v62 =>
    XS P (Ext (World.drew w16)) (binS .neq 3 true v62 (.int .i64 0)) fun v63 =>
    condW v63 (
     R (.bool false) w17) (
     XV P (binS .add 3 true x5 (.int .i64 1)) w17 fun v35 w18 =>
     K2 x0 x3 x4 v35 w18)) (
    R (.bool false) w17)) (
   R (.bool false) w17)) (
  XV P (binS .add 3 true x3 (.int .i64 1)) w7 fun v15 w19 =>
  K1 x0 v15 w19)
def S71_3 (x0 x3 x4 x5 : Value) (w : World) (K1 : Value → Value → World → Prop) (R : Value → World → Prop) : Prop :=
 LoopP (fun (s : Value × Value × Value × Value) w K => S71_4 s.1 s.2.1 s.2.2.1 s.2.2.2 w K1 (fun x0 x3 x4 x5 w => K (x0, x3, x4, x5) w) R) (x0, x3, x4, x5) w
def B71_2 (Z3 : Value → Value → Value → Value → World → Prop) (x0 x3 : Value) (w : World) (K1 : Value → Value → World → Prop) (R : Value → World → Prop) : Prop :=
 LF P 51 42 18 x0 w fun v11 w3 =>
 XV P (Builtin.len_ #[42] 3 #[v11]) w3 fun v12 w4 =>
 XV P (binS .lss 3 false x3 v12) w4 fun v13 w5 =>
 condW v13 (
  LF P 51 26 19 x0 w5 fun v19 w8 =>
  LI P 26 3 v19 x3 w8 fun v22 w10 =>
  Z3 x0 x3 v22 v22 w10) (
  R (.bool true) w5)
def S71_2 (x0 x3 : Value) (w : World) (K1 : Value → Value → World → Prop) (R : Value → World → Prop) : Prop := B71_2 (fun x0 x3 x4 x5 w => S71_3 x0 x3 x4 x5 w K1 R) x0 x3 w K1 R
def S71_1 (x0 x3 : Value) (w : World) (R : Value → World → Prop) : Prop :=
 LoopP (fun (s : Value × Value) w K => S71_2 s.1 s.2 w (fun x0 x3 w => K (x0, x3) w) R) (x0, x3) w
def B71_0 (Z1 : Value → Value → World → Prop) (x0 : Value) (w : World) (R : Value → World → Prop) : Prop :=
 Z1 x0 (.int .i64 0) w
def S71_0 (x0 : Value) (w : World) (R : Value → World → Prop) : Prop := B71_0 (fun x0 x3 w => S71_1 x0 x3 w R) x0 w R
noncomputable abbrev b71_1 : Code := match subC [true, false, true, false] b71_0 with | .loop x => x | _ => .skip
abbrev V71_1 (K : Value → Value → World → Prop) (e : Env) (w : World) : Prop := E1 e (.tmp 0) fun x0 => E1 e (.tmp 3) fun x3 => K x0 x3 w
abbrev Q71_1 (K1 : Value → Value → World → Prop) (R : Value → World → Prop) : Post := thenQ (V71_1 K1) (postC P 65 [true, false, true, false] b71_0 (Q71_0 R))
noncomputable abbrev b71_2 : Code := match subC [true, false, false, true, true, false] b71_1 with | .loop x => x | _ => .skip
abbrev V71_2 (K : Value → Value → Value → Value → World → Prop) (e : Env) (w : World) : Prop := E1 e (.tmp 0) fun x0 => E1 e (.tmp 3) fun x3 => E1 e (.tmp 4) fun x4 => E1 e (.tmp 5) fun x5 => K x0 x3 x4 x5 w
abbrev Q71_2 (K1 : Value → Value → World → Prop) (K2 : Value → Value → Value → Value → World → Prop) (R : Value → World → Prop) : Post := thenQ (V71_2 K2) (postC P 65 [true, false, false, true, true, false] b71_1 (Q71_1 K1 R))
theorem e71_4 (x0 x3 x4 x5 : Value) (w : World) (K1 : Value → Value → World → Prop) (K2 : Value → Value → Value → Value → World → Prop) (R : Value → World → Prop) : S71_4 x0 x3 x4 x5 w K1 K2 R = Wp P 65 D71 [] b71_2 [] (thenQ (V71_2 K2) (postW P 65 D71 [true, false, false, true, true, false] b71_1 [] (thenQ (V71_1 K1) (postW P 65 D71 [true, false, true, false] b71_0 [] (Q71_0 R))))) [(0, some x0), (3, some x3), (4, some x4), (5, some x5)] w := by kernel_rfl
theorem q71_4 (x0 x3 x4 x5 : Value) (w : World) (K1 : Value → Value → World → Prop) (K2 : Value → Value → Value → Value → World → Prop) (R : Value → World → Prop) (h : S71_4 x0 x3 x4 x5 w K1 K2 R) : Runs P 65 (subC [] b71_2) (postC P 65 [] b71_2 (Q71_2 K1 K2 R)) [(0, some x0), (3, some x3), (4, some x4), (5, some x5)] w :=
  Wp_use mixed (e71_4 x0 x3 x4 x5 w K1 K2 R) h (thenQ_le (postW_le mixed _ _ _ _ _ (thenQ_le (postW_le mixed _ _ _ _ _ (fun _ _ _ h => h) trivial)) trivial)) trivial
theorem q71_3 (x0 x3 x4 x5 : Value) (w : World) (K1 : Value → Value → World → Prop) (R : Value → World → Prop) (h : S71_3 x0 x3 x4 x5 w K1 R) : Runs P 65 (subC [true, false, false, true, true, false] b71_1) (postC P 65 [true, false, false, true, true, false] b71_1 (Q71_1 K1 R)) [(0, some x0), (3, some x3), (4, some x4), (5, some x5)] w :=
  Runs.loop (σ := Value × Value × Value × Value) (fun s => [(0, some s.1), (3, some s.2.1), (4, some s.2.2.1), (5, some s.2.2.2)]) (fun e k => E1 e (.tmp 0) fun x0 => E1 e (.tmp 3) fun x3 => E1 e (.tmp 4) fun x4 => E1 e (.tmp 5) fun x5 => k (x0, x3, x4, x5)) (fun e k h => let ⟨y0, h0, h⟩ := E1.elim h; let ⟨y3, h3, h⟩ := E1.elim h; let ⟨y4, h4, h⟩ := E1.elim h; let ⟨y5, h5, h⟩ := E1.elim h; ⟨(y0, y3, y4, y5), h, (sub_cons h0 (sub_cons h3 (sub_cons h4 (sub_cons h5 (sub_nil)))))⟩) (fun s w K h => q71_4 s.1 s.2.1 s.2.2.1 s.2.2.2 w K1 (fun x0 x3 x4 x5 w => K (x0, x3, x4, x5) w) R h) h
theorem e71_2 (Z3 : Value → Value → Value → Value → World → Prop) (x0 x3 : Value) (w : World) (K1 : Value → Value → World → Prop) (R : Value → World → Prop) : B71_2 Z3 x0 x3 w K1 R = Wp P 65 D71 [] b71_1 [([true, false, false, true, true, false], fun e w => E1 e (.tmp 0) fun x0 => E1 e (.tmp 3) fun x3 => E1 e (.tmp 4) fun x4 => E1 e (.tmp 5) fun x5 => Z3 x0 x3 x4 x5 w)] (thenQ (V71_1 K1) (postW P 65 D71 [true, false, true, false] b71_0 [] (Q71_0 R))) [(0, some x0), (3, some x3)] w := by kernel_rfl
theorem q71_2 (x0 x3 : Value) (w : World) (K1 : Value → Value → World → Prop) (R : Value → World → Prop) (h : S71_2 x0 x3 w K1 R) : Runs P 65 (subC [] b71_1) (postC P 65 [] b71_1 (Q71_1 K1 R)) [(0, some x0), (3, some x3)] w :=
  Wp_use mixed (e71_2 (fun x0 x3 x4 x5 w => S71_3 x0 x3 x4 x5 w K1 R) x0 x3 w K1 R) h (thenQ_le (postW_le mixed _ _ _ _ _ (fun _ _ _ h => h) trivial)) ⟨(fun e w h => let ⟨y0, h0, h⟩ := E1.elim h; let ⟨y3, h3, h⟩ := E1.elim h; let ⟨y4, h4, h⟩ := E1.elim h; let ⟨y5, h5, h⟩ := E1.elim h; (q71_3 y0 y3 y4 y5 w K1 R h).more (sub_cons h0 (sub_cons h3 (sub_cons h4 (sub_cons h5 (sub_nil)))))), trivial⟩
theorem q71_1 (x0 x3 : Value) (w : World) (R : Value → World → Prop) (h : S71_1 x0 x3 w R) : Runs P 65 (subC [true, false, true, false] b71_0) (postC P 65 [true, false, true, false] b71_0 (Q71_0 R)) [(0, some x0), (3, some x3)] w :=
  Runs.loop (σ := Value × Value) (fun s => [(0, some s.1), (3, some s.2)]) (fun e k => E1 e (.tmp 0) fun x0 => E1 e (.tmp 3) fun x3 => k (x0, x3)) (fun e k h => let ⟨y0, h0, h⟩ := E1.elim h; let ⟨y3, h3, h⟩ := E1.elim h; ⟨(y0, y3), h, (sub_cons h0 (sub_cons h3 (sub_nil)))⟩) (fun s w K h => q71_2 s.1 s.2 w (fun x0 x3 w => K (x0, x3) w) R h) h
theorem e71_0 (Z1 : Value → Value → World → Prop) (x0 : Value) (w : World) (R : Value → World → Prop) : B71_0 Z1 x0 w R = Wp P 65 D71 [] b71_0 [([true, false, true, false], fun e w => E1 e (.tmp 0) fun x0 => E1 e (.tmp 3) fun x3 => Z1 x0 x3 w)] (Q71_0 R) [(0, some x0)] w := by kernel_rfl
theorem q71_0 (x0 : Value) (w : World) (R : Value → World → Prop) (h : S71_0 x0 w R) : Runs P 65 (subC [] b71_0) (postC P 65 [] b71_0 (Q71_0 R)) [(0, some x0)] w :=
  Wp_use mixed (e71_0 (fun x0 x3 w => S71_1 x0 x3 w R) x0 w R) h (fun _ _ _ h => h) ⟨(fun e w h => let ⟨y0, h0, h⟩ := E1.elim h; let ⟨y3, h3, h⟩ := E1.elim h; (q71_1 y0 y3 w R h).more (sub_cons h0 (sub_cons h3 (sub_nil)))), trivial⟩
theorem c71 (x0 : Value) (w : World) (R : Value → World → Prop) (h : S71_0 x0 w R) : CallF P 71 #[x0] w R :=
  call_of_runs (args := [x0]) (c := b71_0) (by kernel_rfl) func71 rfl (by kernel_rfl) (q71_0 x0 w R h)

/-! ### 72 "(*crier/crierroom.Room).holdInputs" -/
noncomputable abbrev b72_0 : Code := (f72.body).getD .skip
abbrev D72 : Plans := [(9, [(0, false), (1, false), (2, false), (3, false), (4, false), (5, true), (6, false), (7, false), (8, false), (9, false), (10, false), (11, false)], 12)]
abbrev Q72_0 (R : Value → World → Prop) : Post := retQ P f72.results.toList R
def S72_4 (x0 x3 x4 x5 : Value) (w : World) (K1 : Value → Value → World → Prop) (K2 : Value → Value → Value → Value → World → Prop) (R : Value → World → Prop) : Prop :=
 LF P 51 43 20 x0 w fun v28 w3 =>
 LI P 43 115 v28 x3 w3 fun v31 w5 =>
 XV P (Builtin.len_ #[115] 3 #[v31]) w5 fun v32 w6 =>
 XV P (binS .lss 3 false x5 v32) w6 fun v33 w7 =>
 condW v33 (
  LF P 51 43 20 x0 w7 fun v39 w10 =>
  LI P 43 115 v39 x3 w10 fun v42 w12 =>
  LI P 115 140 v42 x5 w12 fun v45 w14 =>
  XV P (Instr.alloc 140 true (.tuple #[])) w14 fun v6 w15 =>
  XU P (Instr.storeAt 140 v6 v45) w15 fun w16 =>
  LBS P (Ext (World.drew w16)) 140 3 2 v6 fun v47 =>
  XS P (Ext (World.drew w16)) (binS .sub 3 false x5 x4) fun v50 =>
  CallF P 117 #[v50] (World.drew w16) fun v51 w17 =>
  Ext (World.drew w16) w17 ∧
  XS P (Ext (World.drew w16)) (binS .neq 3 false v47 v51) fun v52 =>
  gd v52 false (
   LBS P (Ext (World.drew w16)) 140 3 0 v6 fun v55 =>
   XS P (Ext (World.drew w16)) (binS .neq 3 true v55 (.int .i64 0)) fun v56 =>
   condW v56 (
    R (.bool false) w17) (
    XV P (binS .add 3 true x5 (.int .i64 1)) w17 fun v35 w18 =>
    K2 x0 x3 x4 v35 w18)) (
   R (.bool false) w17)) (
  XV P (binS .add 3 true x3 (.int .i64 1)) w7 fun v15 w19 =>
  K1 x0 v15 w19)
def S72_3 (x0 x3 x4 x5 : Value) (w : World) (K1 : Value → Value → World → Prop) (R : Value → World → Prop) : Prop :=
 LoopP (fun (s : Value × Value × Value × Value) w K => S72_4 s.1 s.2.1 s.2.2.1 s.2.2.2 w K1 (fun x0 x3 x4 x5 w => K (x0, x3, x4, x5) w) R) (x0, x3, x4, x5) w
def B72_2 (Z3 : Value → Value → Value → Value → World → Prop) (x0 x3 : Value) (w : World) (K1 : Value → Value → World → Prop) (R : Value → World → Prop) : Prop :=
 LF P 51 43 20 x0 w fun v11 w3 =>
 XV P (Builtin.len_ #[43] 3 #[v11]) w3 fun v12 w4 =>
 XV P (binS .lss 3 false x3 v12) w4 fun v13 w5 =>
 condW v13 (
  LF P 51 26 21 x0 w5 fun v19 w8 =>
  LI P 26 3 v19 x3 w8 fun v22 w10 =>
  Z3 x0 x3 v22 v22 w10) (
  R (.bool true) w5)
def S72_2 (x0 x3 : Value) (w : World) (K1 : Value → Value → World → Prop) (R : Value → World → Prop) : Prop := B72_2 (fun x0 x3 x4 x5 w => S72_3 x0 x3 x4 x5 w K1 R) x0 x3 w K1 R
def S72_1 (x0 x3 : Value) (w : World) (R : Value → World → Prop) : Prop :=
 LoopP (fun (s : Value × Value) w K => S72_2 s.1 s.2 w (fun x0 x3 w => K (x0, x3) w) R) (x0, x3) w
def B72_0 (Z1 : Value → Value → World → Prop) (x0 : Value) (w : World) (R : Value → World → Prop) : Prop :=
 Z1 x0 (.int .i64 0) w
def S72_0 (x0 : Value) (w : World) (R : Value → World → Prop) : Prop := B72_0 (fun x0 x3 w => S72_1 x0 x3 w R) x0 w R
noncomputable abbrev b72_1 : Code := match subC [true, false, true, false] b72_0 with | .loop x => x | _ => .skip
abbrev V72_1 (K : Value → Value → World → Prop) (e : Env) (w : World) : Prop := E1 e (.tmp 0) fun x0 => E1 e (.tmp 3) fun x3 => K x0 x3 w
abbrev Q72_1 (K1 : Value → Value → World → Prop) (R : Value → World → Prop) : Post := thenQ (V72_1 K1) (postC P 58 [true, false, true, false] b72_0 (Q72_0 R))
noncomputable abbrev b72_2 : Code := match subC [true, false, false, true, true, false] b72_1 with | .loop x => x | _ => .skip
abbrev V72_2 (K : Value → Value → Value → Value → World → Prop) (e : Env) (w : World) : Prop := E1 e (.tmp 0) fun x0 => E1 e (.tmp 3) fun x3 => E1 e (.tmp 4) fun x4 => E1 e (.tmp 5) fun x5 => K x0 x3 x4 x5 w
abbrev Q72_2 (K1 : Value → Value → World → Prop) (K2 : Value → Value → Value → Value → World → Prop) (R : Value → World → Prop) : Post := thenQ (V72_2 K2) (postC P 58 [true, false, false, true, true, false] b72_1 (Q72_1 K1 R))
theorem e72_4 (x0 x3 x4 x5 : Value) (w : World) (K1 : Value → Value → World → Prop) (K2 : Value → Value → Value → Value → World → Prop) (R : Value → World → Prop) : S72_4 x0 x3 x4 x5 w K1 K2 R = Wp P 58 D72 [] b72_2 [] (thenQ (V72_2 K2) (postW P 58 D72 [true, false, false, true, true, false] b72_1 [] (thenQ (V72_1 K1) (postW P 58 D72 [true, false, true, false] b72_0 [] (Q72_0 R))))) [(0, some x0), (3, some x3), (4, some x4), (5, some x5)] w := by kernel_rfl
theorem q72_4 (x0 x3 x4 x5 : Value) (w : World) (K1 : Value → Value → World → Prop) (K2 : Value → Value → Value → Value → World → Prop) (R : Value → World → Prop) (h : S72_4 x0 x3 x4 x5 w K1 K2 R) : Runs P 58 (subC [] b72_2) (postC P 58 [] b72_2 (Q72_2 K1 K2 R)) [(0, some x0), (3, some x3), (4, some x4), (5, some x5)] w :=
  Wp_use mixed (e72_4 x0 x3 x4 x5 w K1 K2 R) h (thenQ_le (postW_le mixed _ _ _ _ _ (thenQ_le (postW_le mixed _ _ _ _ _ (fun _ _ _ h => h) trivial)) trivial)) trivial
theorem q72_3 (x0 x3 x4 x5 : Value) (w : World) (K1 : Value → Value → World → Prop) (R : Value → World → Prop) (h : S72_3 x0 x3 x4 x5 w K1 R) : Runs P 58 (subC [true, false, false, true, true, false] b72_1) (postC P 58 [true, false, false, true, true, false] b72_1 (Q72_1 K1 R)) [(0, some x0), (3, some x3), (4, some x4), (5, some x5)] w :=
  Runs.loop (σ := Value × Value × Value × Value) (fun s => [(0, some s.1), (3, some s.2.1), (4, some s.2.2.1), (5, some s.2.2.2)]) (fun e k => E1 e (.tmp 0) fun x0 => E1 e (.tmp 3) fun x3 => E1 e (.tmp 4) fun x4 => E1 e (.tmp 5) fun x5 => k (x0, x3, x4, x5)) (fun e k h => let ⟨y0, h0, h⟩ := E1.elim h; let ⟨y3, h3, h⟩ := E1.elim h; let ⟨y4, h4, h⟩ := E1.elim h; let ⟨y5, h5, h⟩ := E1.elim h; ⟨(y0, y3, y4, y5), h, (sub_cons h0 (sub_cons h3 (sub_cons h4 (sub_cons h5 (sub_nil)))))⟩) (fun s w K h => q72_4 s.1 s.2.1 s.2.2.1 s.2.2.2 w K1 (fun x0 x3 x4 x5 w => K (x0, x3, x4, x5) w) R h) h
theorem e72_2 (Z3 : Value → Value → Value → Value → World → Prop) (x0 x3 : Value) (w : World) (K1 : Value → Value → World → Prop) (R : Value → World → Prop) : B72_2 Z3 x0 x3 w K1 R = Wp P 58 D72 [] b72_1 [([true, false, false, true, true, false], fun e w => E1 e (.tmp 0) fun x0 => E1 e (.tmp 3) fun x3 => E1 e (.tmp 4) fun x4 => E1 e (.tmp 5) fun x5 => Z3 x0 x3 x4 x5 w)] (thenQ (V72_1 K1) (postW P 58 D72 [true, false, true, false] b72_0 [] (Q72_0 R))) [(0, some x0), (3, some x3)] w := by kernel_rfl
theorem q72_2 (x0 x3 : Value) (w : World) (K1 : Value → Value → World → Prop) (R : Value → World → Prop) (h : S72_2 x0 x3 w K1 R) : Runs P 58 (subC [] b72_1) (postC P 58 [] b72_1 (Q72_1 K1 R)) [(0, some x0), (3, some x3)] w :=
  Wp_use mixed (e72_2 (fun x0 x3 x4 x5 w => S72_3 x0 x3 x4 x5 w K1 R) x0 x3 w K1 R) h (thenQ_le (postW_le mixed _ _ _ _ _ (fun _ _ _ h => h) trivial)) ⟨(fun e w h => let ⟨y0, h0, h⟩ := E1.elim h; let ⟨y3, h3, h⟩ := E1.elim h; let ⟨y4, h4, h⟩ := E1.elim h; let ⟨y5, h5, h⟩ := E1.elim h; (q72_3 y0 y3 y4 y5 w K1 R h).more (sub_cons h0 (sub_cons h3 (sub_cons h4 (sub_cons h5 (sub_nil)))))), trivial⟩
theorem q72_1 (x0 x3 : Value) (w : World) (R : Value → World → Prop) (h : S72_1 x0 x3 w R) : Runs P 58 (subC [true, false, true, false] b72_0) (postC P 58 [true, false, true, false] b72_0 (Q72_0 R)) [(0, some x0), (3, some x3)] w :=
  Runs.loop (σ := Value × Value) (fun s => [(0, some s.1), (3, some s.2)]) (fun e k => E1 e (.tmp 0) fun x0 => E1 e (.tmp 3) fun x3 => k (x0, x3)) (fun e k h => let ⟨y0, h0, h⟩ := E1.elim h; let ⟨y3, h3, h⟩ := E1.elim h; ⟨(y0, y3), h, (sub_cons h0 (sub_cons h3 (sub_nil)))⟩) (fun s w K h => q72_2 s.1 s.2 w (fun x0 x3 w => K (x0, x3) w) R h) h
theorem e72_0 (Z1 : Value → Value → World → Prop) (x0 : Value) (w : World) (R : Value → World → Prop) : B72_0 Z1 x0 w R = Wp P 58 D72 [] b72_0 [([true, false, true, false], fun e w => E1 e (.tmp 0) fun x0 => E1 e (.tmp 3) fun x3 => Z1 x0 x3 w)] (Q72_0 R) [(0, some x0)] w := by kernel_rfl
theorem q72_0 (x0 : Value) (w : World) (R : Value → World → Prop) (h : S72_0 x0 w R) : Runs P 58 (subC [] b72_0) (postC P 58 [] b72_0 (Q72_0 R)) [(0, some x0)] w :=
  Wp_use mixed (e72_0 (fun x0 x3 w => S72_1 x0 x3 w R) x0 w R) h (fun _ _ _ h => h) ⟨(fun e w h => let ⟨y0, h0, h⟩ := E1.elim h; let ⟨y3, h3, h⟩ := E1.elim h; (q72_1 y0 y3 w R h).more (sub_cons h0 (sub_cons h3 (sub_nil)))), trivial⟩
theorem c72 (x0 : Value) (w : World) (R : Value → World → Prop) (h : S72_0 x0 w R) : CallF P 72 #[x0] w R :=
  call_of_runs (args := [x0]) (c := b72_0) (by kernel_rfl) func72 rfl (by kernel_rfl) (q72_0 x0 w R h)

/-! ### 73 "(*crier/crierroom.Room).holdEvents" -/
noncomputable abbrev b73_0 : Code := (f73.body).getD .skip
abbrev D73 : Plans := [(9, [(0, false), (1, false), (2, false), (3, false), (4, false), (5, true), (6, false), (7, false), (8, false), (9, false), (10, false), (11, false), (12, false), (13, false), (14, false), (15, false), (16, false), (17, false)], 18)]
abbrev Q73_0 (R : Value → World → Prop) : Post := retQ P f73.results.toList R
def S73_4 (x0 x3 x4 x5 : Value) (w : World) (K1 : Value → Value → World → Prop) (K2 : Value → Value → Value → Value → World → Prop) (R : Value → World → Prop) : Prop :=
 LF P 51 44 22 x0 w fun v28 w3 =>
 LI P 44 141 v28 x3 w3 fun v31 w5 =>
 XV P (Builtin.len_ #[141] 3 #[v31]) w5 fun v32 w6 =>
 XV P (binS .lss 3 false x5 v32) w6 fun v33 w7 =>
 condW v33 (
  LF P 51 44 22 x0 w7 fun v39 w10 =>
  LI P 44 141 v39 x3 w10 fun v42 w12 =>
  LI P 141 143 v42 x5 w12 fun v45 w14 =>
  XV P (Instr.alloc 143 true (.tuple #[])) w14 fun v6 w15 =>
  XU P (Instr.storeAt 143 v6 v45) w15 fun w16 =>
  LBS P (Ext (World.drew w16)) 143 3 1 v6 fun v47 =>
  XS P (Ext (World.drew w16)) (binS .sub 3 false x5 x4) fun v50 =>
  CallF P 117 #[v50] (World.drew w16) fun v51 w17 =>
  Ext (World.drew w16) w17 ∧
  XS P (Ext (World.drew w16)) (binS .neq 3 false v47 v51) fun v52 =>
  gd v52 false (
   LBS P (Ext (World.drew w16)) 143 3 0 v6 fun v55 =>
   XS P (Ext (World.drew w16)) (binS .neq 3 true v55 (.int .i64 0)) fun v56 =>
   gd v56 false (
    LBS P (Ext (World.drew w16)) 143 22 2 v6 fun v60 =>
    XS P (Ext (World.drew w16)) (Builtin.len_ #[22] 3 #[v60]) fun v61 =>
    XS P (Ext (World.drew w16)) (binS .neq 3 true v61 (.int .i64 0)) fun v62 =>
    condW v62 (
     R (.bool false) w17) (
     XV P (binS .add 3 true x5 (.int .i64 1)) w17 fun v35 w18 =>
     K2 x0 x3 x4 v35 w18)) (
    R (.bool false) w17)) (
   R (.bool false) w17)) (
  XV P (binS .add 3 true x3 (.int .i64 1)) w7 fun v15 w19 =>
  K1 x0 v15 w19)
def S73_3 (x0 x3 x4 x5 : Value) (w : World) (K1 : Value → Value → World → Prop) (R : Value → World → Prop) : Prop :=
 LoopP (fun (s : Value × Value × Value × Value) w K => S73_4 s.1 s.2.1 s.2.2.1 s.2.2.2 w K1 (fun x0 x3 x4 x5 w => K (x0, x3, x4, x5) w) R) (x0, x3, x4, x5) w
def B73_2 (Z3 : Value → Value → Value → Value → World → Prop) (x0 x3 : Value) (w : World) (K1 : Value → Value → World → Prop) (R : Value → World → Prop) : Prop :=
 LF P 51 44 22 x0 w fun v11 w3 =>
 XV P (Builtin.len_ #[44] 3 #[v11]) w3 fun v12 w4 =>
 XV P (binS .lss 3 false x3 v12) w4 fun v13 w5 =>
 condW v13 (
  LF P 51 26 23 x0 w5 fun v19 w8 =>
  LI P 26 3 v19 x3 w8 fun v22 w10 =>
  Z3 x0 x3 v22 v22 w10) (
  R (.bool true) w5)
def S73_2 (x0 x3 : Value) (w : World) (K1 : Value → Value → World → Prop) (R : Value → World → Prop) : Prop := B73_2 (fun x0 x3 x4 x5 w => S73_3 x0 x3 x4 x5 w K1 R) x0 x3 w K1 R
def S73_1 (x0 x3 : Value) (w : World) (R : Value → World → Prop) : Prop :=
 LoopP (fun (s : Value × Value) w K => S73_2 s.1 s.2 w (fun x0 x3 w => K (x0, x3) w) R) (x0, x3) w
def B73_0 (Z1 : Value → Value → World → Prop) (x0 : Value) (w : World) (R : Value → World → Prop) : Prop :=
 Z1 x0 (.int .i64 0) w
def S73_0 (x0 : Value) (w : World) (R : Value → World → Prop) : Prop := B73_0 (fun x0 x3 w => S73_1 x0 x3 w R) x0 w R
noncomputable abbrev b73_1 : Code := match subC [true, false, true, false] b73_0 with | .loop x => x | _ => .skip
abbrev V73_1 (K : Value → Value → World → Prop) (e : Env) (w : World) : Prop := E1 e (.tmp 0) fun x0 => E1 e (.tmp 3) fun x3 => K x0 x3 w
abbrev Q73_1 (K1 : Value → Value → World → Prop) (R : Value → World → Prop) : Post := thenQ (V73_1 K1) (postC P 64 [true, false, true, false] b73_0 (Q73_0 R))
noncomputable abbrev b73_2 : Code := match subC [true, false, false, true, true, false] b73_1 with | .loop x => x | _ => .skip
abbrev V73_2 (K : Value → Value → Value → Value → World → Prop) (e : Env) (w : World) : Prop := E1 e (.tmp 0) fun x0 => E1 e (.tmp 3) fun x3 => E1 e (.tmp 4) fun x4 => E1 e (.tmp 5) fun x5 => K x0 x3 x4 x5 w
abbrev Q73_2 (K1 : Value → Value → World → Prop) (K2 : Value → Value → Value → Value → World → Prop) (R : Value → World → Prop) : Post := thenQ (V73_2 K2) (postC P 64 [true, false, false, true, true, false] b73_1 (Q73_1 K1 R))
theorem e73_4 (x0 x3 x4 x5 : Value) (w : World) (K1 : Value → Value → World → Prop) (K2 : Value → Value → Value → Value → World → Prop) (R : Value → World → Prop) : S73_4 x0 x3 x4 x5 w K1 K2 R = Wp P 64 D73 [] b73_2 [] (thenQ (V73_2 K2) (postW P 64 D73 [true, false, false, true, true, false] b73_1 [] (thenQ (V73_1 K1) (postW P 64 D73 [true, false, true, false] b73_0 [] (Q73_0 R))))) [(0, some x0), (3, some x3), (4, some x4), (5, some x5)] w := by kernel_rfl
theorem q73_4 (x0 x3 x4 x5 : Value) (w : World) (K1 : Value → Value → World → Prop) (K2 : Value → Value → Value → Value → World → Prop) (R : Value → World → Prop) (h : S73_4 x0 x3 x4 x5 w K1 K2 R) : Runs P 64 (subC [] b73_2) (postC P 64 [] b73_2 (Q73_2 K1 K2 R)) [(0, some x0), (3, some x3), (4, some x4), (5, some x5)] w :=
  Wp_use mixed (e73_4 x0 x3 x4 x5 w K1 K2 R) h (thenQ_le (postW_le mixed _ _ _ _ _ (thenQ_le (postW_le mixed _ _ _ _ _ (fun _ _ _ h => h) trivial)) trivial)) trivial
theorem q73_3 (x0 x3 x4 x5 : Value) (w : World) (K1 : Value → Value → World → Prop) (R : Value → World → Prop) (h : S73_3 x0 x3 x4 x5 w K1 R) : Runs P 64 (subC [true, false, false, true, true, false] b73_1) (postC P 64 [true, false, false, true, true, false] b73_1 (Q73_1 K1 R)) [(0, some x0), (3, some x3), (4, some x4), (5, some x5)] w :=
  Runs.loop (σ := Value × Value × Value × Value) (fun s => [(0, some s.1), (3, some s.2.1), (4, some s.2.2.1), (5, some s.2.2.2)]) (fun e k => E1 e (.tmp 0) fun x0 => E1 e (.tmp 3) fun x3 => E1 e (.tmp 4) fun x4 => E1 e (.tmp 5) fun x5 => k (x0, x3, x4, x5)) (fun e k h => let ⟨y0, h0, h⟩ := E1.elim h; let ⟨y3, h3, h⟩ := E1.elim h; let ⟨y4, h4, h⟩ := E1.elim h; let ⟨y5, h5, h⟩ := E1.elim h; ⟨(y0, y3, y4, y5), h, (sub_cons h0 (sub_cons h3 (sub_cons h4 (sub_cons h5 (sub_nil)))))⟩) (fun s w K h => q73_4 s.1 s.2.1 s.2.2.1 s.2.2.2 w K1 (fun x0 x3 x4 x5 w => K (x0, x3, x4, x5) w) R h) h
theorem e73_2 (Z3 : Value → Value → Value → Value → World → Prop) (x0 x3 : Value) (w : World) (K1 : Value → Value → World → Prop) (R : Value → World → Prop) : B73_2 Z3 x0 x3 w K1 R = Wp P 64 D73 [] b73_1 [([true, false, false, true, true, false], fun e w => E1 e (.tmp 0) fun x0 => E1 e (.tmp 3) fun x3 => E1 e (.tmp 4) fun x4 => E1 e (.tmp 5) fun x5 => Z3 x0 x3 x4 x5 w)] (thenQ (V73_1 K1) (postW P 64 D73 [true, false, true, false] b73_0 [] (Q73_0 R))) [(0, some x0), (3, some x3)] w := by kernel_rfl
theorem q73_2 (x0 x3 : Value) (w : World) (K1 : Value → Value → World → Prop) (R : Value → World → Prop) (h : S73_2 x0 x3 w K1 R) : Runs P 64 (subC [] b73_1) (postC P 64 [] b73_1 (Q73_1 K1 R)) [(0, some x0), (3, some x3)] w :=
  Wp_use mixed (e73_2 (fun x0 x3 x4 x5 w => S73_3 x0 x3 x4 x5 w K1 R) x0 x3 w K1 R) h (thenQ_le (postW_le mixed _ _ _ _ _ (fun _ _ _ h => h) trivial)) ⟨(fun e w h => let ⟨y0, h0, h⟩ := E1.elim h; let ⟨y3, h3, h⟩ := E1.elim h; let ⟨y4, h4, h⟩ := E1.elim h; let ⟨y5, h5, h⟩ := E1.elim h; (q73_3 y0 y3 y4 y5 w K1 R h).more (sub_cons h0 (sub_cons h3 (sub_cons h4 (sub_cons h5 (sub_nil)))))), trivial⟩
theorem q73_1 (x0 x3 : Value) (w : World) (R : Value → World → Prop) (h : S73_1 x0 x3 w R) : Runs P 64 (subC [true, false, true, false] b73_0) (postC P 64 [true, false, true, false] b73_0 (Q73_0 R)) [(0, some x0), (3, some x3)] w :=
  Runs.loop (σ := Value × Value) (fun s => [(0, some s.1), (3, some s.2)]) (fun e k => E1 e (.tmp 0) fun x0 => E1 e (.tmp 3) fun x3 => k (x0, x3)) (fun e k h => let ⟨y0, h0, h⟩ := E1.elim h; let ⟨y3, h3, h⟩ := E1.elim h; ⟨(y0, y3), h, (sub_cons h0 (sub_cons h3 (sub_nil)))⟩) (fun s w K h => q73_2 s.1 s.2 w (fun x0 x3 w => K (x0, x3) w) R h) h
theorem e73_0 (Z1 : Value → Value → World → Prop) (x0 : Value) (w : World) (R : Value → World → Prop) : B73_0 Z1 x0 w R = Wp P 64 D73 [] b73_0 [([true, false, true, false], fun e w => E1 e (.tmp 0) fun x0 => E1 e (.tmp 3) fun x3 => Z1 x0 x3 w)] (Q73_0 R) [(0, some x0)] w := by kernel_rfl
theorem q73_0 (x0 : Value) (w : World) (R : Value → World → Prop) (h : S73_0 x0 w R) : Runs P 64 (subC [] b73_0) (postC P 64 [] b73_0 (Q73_0 R)) [(0, some x0)] w :=
  Wp_use mixed (e73_0 (fun x0 x3 w => S73_1 x0 x3 w R) x0 w R) h (fun _ _ _ h => h) ⟨(fun e w h => let ⟨y0, h0, h⟩ := E1.elim h; let ⟨y3, h3, h⟩ := E1.elim h; (q73_1 y0 y3 w R h).more (sub_cons h0 (sub_cons h3 (sub_nil)))), trivial⟩
theorem c73 (x0 : Value) (w : World) (R : Value → World → Prop) (h : S73_0 x0 w R) : CallF P 73 #[x0] w R :=
  call_of_runs (args := [x0]) (c := b73_0) (by kernel_rfl) func73 rfl (by kernel_rfl) (q73_0 x0 w R h)

/-! ### 74 "(*crier/crierroom.Room).holdSessions" -/
noncomputable abbrev b74_0 : Code := (f74.body).getD .skip
abbrev D74 : Plans := [(9, [(0, false), (1, false), (2, false), (3, false), (4, false), (5, true), (6, false), (7, false), (8, false), (9, false), (10, false), (11, false), (12, false), (13, false), (14, false), (15, false), (16, false)], 17)]
abbrev Q74_0 (R : Value → World → Prop) : Post := retQ P f74.results.toList R
def S74_4 (x0 x3 x4 x5 : Value) (w : World) (K1 : Value → Value → World → Prop) (K2 : Value → Value → Value → Value → World → Prop) (R : Value → World → Prop) : Prop :=
 LF P 51 45 24 x0 w fun v28 w3 =>
 LI P 45 119 v28 x3 w3 fun v31 w5 =>
 XV P (Builtin.len_ #[119] 3 #[v31]) w5 fun v32 w6 =>
 XV P (binS .lss 3 false x5 v32) w6 fun v33 w7 =>
 condW v33 (
  LF P 51 45 24 x0 w7 fun v39 w10 =>
  LI P 45 119 v39 x3 w10 fun v42 w12 =>
  LI P 119 147 v42 x5 w12 fun v45 w14 =>
  XV P (Instr.alloc 147 true (.tuple #[])) w14 fun v6 w15 =>
  XU P (Instr.storeAt 147 v6 v45) w15 fun w16 =>
  LBS P (Ext (World.drew w16)) 147 9 0 v6 fun v47 =>
  XS P (Ext (World.drew w16)) (binS .sub 3 false x5 x4) fun v50 =>
  CallF P 118 #[v50] (World.drew w16) fun v51 w17 =>
  Ext (World.drew w16) w17 ∧
  XS P (Ext (World.drew w16)) (binS .neq 9 false v47 v51) fun v52 =>
  gd v52 false (
   LBS P (Ext (World.drew w16)) 147 25 1 v6 fun v55 =>
   XS P (Ext (World.drew w16)) (Builtin.len_ #[25] 3 #[v55]) fun v56 =>
   LBS P (Ext (World.drew w16)) 147 26 3 v6 fun v58 =>
   XS P (Ext (World.drew w16)) (Builtin.len_ #[26] 3 #[v58]) fun v59 =>
   XS P (Ext (World.drew w16)) (binS .add 3 false v56 v59) fun v60 =>
   XS P (Ext (World.drew w16)) (binS .neq 3 true v60 (.int .i64 0)) fun v61 =>
   condW v61 (
    R (.bool false) w17) (
    XV P (binS .add 3 true x5 (.int .i64 1)) w17 fun v35 w18 =>
    K2 x0 x3 x4 v35 w18)) (
   R (.bool false) w17)) (
  XV P (binS .add 3 true x3 (.int .i64 1)) w7 fun v15 w19 =>
  K1 x0 v15 w19)
def S74_3 (x0 x3 x4 x5 : Value) (w : World) (K1 : Value → Value → World → Prop) (R : Value → World → Prop) : Prop :=
 LoopP (fun (s : Value × Value × Value × Value) w K => S74_4 s.1 s.2.1 s.2.2.1 s.2.2.2 w K1 (fun x0 x3 x4 x5 w => K (x0, x3, x4, x5) w) R) (x0, x3, x4, x5) w
def B74_2 (Z3 : Value → Value → Value → Value → World → Prop) (x0 x3 : Value) (w : World) (K1 : Value → Value → World → Prop) (R : Value → World → Prop) : Prop :=
 LF P 51 45 24 x0 w fun v11 w3 =>
 XV P (Builtin.len_ #[45] 3 #[v11]) w3 fun v12 w4 =>
 XV P (binS .lss 3 false x3 v12) w4 fun v13 w5 =>
 condW v13 (
  LF P 51 26 25 x0 w5 fun v19 w8 =>
  LI P 26 3 v19 x3 w8 fun v22 w10 =>
  Z3 x0 x3 v22 v22 w10) (
  R (.bool true) w5)
def S74_2 (x0 x3 : Value) (w : World) (K1 : Value → Value → World → Prop) (R : Value → World → Prop) : Prop := B74_2 (fun x0 x3 x4 x5 w => S74_3 x0 x3 x4 x5 w K1 R) x0 x3 w K1 R
def S74_1 (x0 x3 : Value) (w : World) (R : Value → World → Prop) : Prop :=
 LoopP (fun (s : Value × Value) w K => S74_2 s.1 s.2 w (fun x0 x3 w => K (x0, x3) w) R) (x0, x3) w
def B74_0 (Z1 : Value → Value → World → Prop) (x0 : Value) (w : World) (R : Value → World → Prop) : Prop :=
 Z1 x0 (.int .i64 0) w
def S74_0 (x0 : Value) (w : World) (R : Value → World → Prop) : Prop := B74_0 (fun x0 x3 w => S74_1 x0 x3 w R) x0 w R
noncomputable abbrev b74_1 : Code := match subC [true, false, true, false] b74_0 with | .loop x => x | _ => .skip
abbrev V74_1 (K : Value → Value → World → Prop) (e : Env) (w : World) : Prop := E1 e (.tmp 0) fun x0 => E1 e (.tmp 3) fun x3 => K x0 x3 w
abbrev Q74_1 (K1 : Value → Value → World → Prop) (R : Value → World → Prop) : Post := thenQ (V74_1 K1) (postC P 63 [true, false, true, false] b74_0 (Q74_0 R))
noncomputable abbrev b74_2 : Code := match subC [true, false, false, true, true, false] b74_1 with | .loop x => x | _ => .skip
abbrev V74_2 (K : Value → Value → Value → Value → World → Prop) (e : Env) (w : World) : Prop := E1 e (.tmp 0) fun x0 => E1 e (.tmp 3) fun x3 => E1 e (.tmp 4) fun x4 => E1 e (.tmp 5) fun x5 => K x0 x3 x4 x5 w
abbrev Q74_2 (K1 : Value → Value → World → Prop) (K2 : Value → Value → Value → Value → World → Prop) (R : Value → World → Prop) : Post := thenQ (V74_2 K2) (postC P 63 [true, false, false, true, true, false] b74_1 (Q74_1 K1 R))
theorem e74_4 (x0 x3 x4 x5 : Value) (w : World) (K1 : Value → Value → World → Prop) (K2 : Value → Value → Value → Value → World → Prop) (R : Value → World → Prop) : S74_4 x0 x3 x4 x5 w K1 K2 R = Wp P 63 D74 [] b74_2 [] (thenQ (V74_2 K2) (postW P 63 D74 [true, false, false, true, true, false] b74_1 [] (thenQ (V74_1 K1) (postW P 63 D74 [true, false, true, false] b74_0 [] (Q74_0 R))))) [(0, some x0), (3, some x3), (4, some x4), (5, some x5)] w := by kernel_rfl
theorem q74_4 (x0 x3 x4 x5 : Value) (w : World) (K1 : Value → Value → World → Prop) (K2 : Value → Value → Value → Value → World → Prop) (R : Value → World → Prop) (h : S74_4 x0 x3 x4 x5 w K1 K2 R) : Runs P 63 (subC [] b74_2) (postC P 63 [] b74_2 (Q74_2 K1 K2 R)) [(0, some x0), (3, some x3), (4, some x4), (5, some x5)] w :=
  Wp_use mixed (e74_4 x0 x3 x4 x5 w K1 K2 R) h (thenQ_le (postW_le mixed _ _ _ _ _ (thenQ_le (postW_le mixed _ _ _ _ _ (fun _ _ _ h => h) trivial)) trivial)) trivial
theorem q74_3 (x0 x3 x4 x5 : Value) (w : World) (K1 : Value → Value → World → Prop) (R : Value → World → Prop) (h : S74_3 x0 x3 x4 x5 w K1 R) : Runs P 63 (subC [true, false, false, true, true, false] b74_1) (postC P 63 [true, false, false, true, true, false] b74_1 (Q74_1 K1 R)) [(0, some x0), (3, some x3), (4, some x4), (5, some x5)] w :=
  Runs.loop (σ := Value × Value × Value × Value) (fun s => [(0, some s.1), (3, some s.2.1), (4, some s.2.2.1), (5, some s.2.2.2)]) (fun e k => E1 e (.tmp 0) fun x0 => E1 e (.tmp 3) fun x3 => E1 e (.tmp 4) fun x4 => E1 e (.tmp 5) fun x5 => k (x0, x3, x4, x5)) (fun e k h => let ⟨y0, h0, h⟩ := E1.elim h; let ⟨y3, h3, h⟩ := E1.elim h; let ⟨y4, h4, h⟩ := E1.elim h; let ⟨y5, h5, h⟩ := E1.elim h; ⟨(y0, y3, y4, y5), h, (sub_cons h0 (sub_cons h3 (sub_cons h4 (sub_cons h5 (sub_nil)))))⟩) (fun s w K h => q74_4 s.1 s.2.1 s.2.2.1 s.2.2.2 w K1 (fun x0 x3 x4 x5 w => K (x0, x3, x4, x5) w) R h) h
theorem e74_2 (Z3 : Value → Value → Value → Value → World → Prop) (x0 x3 : Value) (w : World) (K1 : Value → Value → World → Prop) (R : Value → World → Prop) : B74_2 Z3 x0 x3 w K1 R = Wp P 63 D74 [] b74_1 [([true, false, false, true, true, false], fun e w => E1 e (.tmp 0) fun x0 => E1 e (.tmp 3) fun x3 => E1 e (.tmp 4) fun x4 => E1 e (.tmp 5) fun x5 => Z3 x0 x3 x4 x5 w)] (thenQ (V74_1 K1) (postW P 63 D74 [true, false, true, false] b74_0 [] (Q74_0 R))) [(0, some x0), (3, some x3)] w := by kernel_rfl
theorem q74_2 (x0 x3 : Value) (w : World) (K1 : Value → Value → World → Prop) (R : Value → World → Prop) (h : S74_2 x0 x3 w K1 R) : Runs P 63 (subC [] b74_1) (postC P 63 [] b74_1 (Q74_1 K1 R)) [(0, some x0), (3, some x3)] w :=
  Wp_use mixed (e74_2 (fun x0 x3 x4 x5 w => S74_3 x0 x3 x4 x5 w K1 R) x0 x3 w K1 R) h (thenQ_le (postW_le mixed _ _ _ _ _ (fun _ _ _ h => h) trivial)) ⟨(fun e w h => let ⟨y0, h0, h⟩ := E1.elim h; let ⟨y3, h3, h⟩ := E1.elim h; let ⟨y4, h4, h⟩ := E1.elim h; let ⟨y5, h5, h⟩ := E1.elim h; (q74_3 y0 y3 y4 y5 w K1 R h).more (sub_cons h0 (sub_cons h3 (sub_cons h4 (sub_cons h5 (sub_nil)))))), trivial⟩
theorem q74_1 (x0 x3 : Value) (w : World) (R : Value → World → Prop) (h : S74_1 x0 x3 w R) : Runs P 63 (subC [true, false, true, false] b74_0) (postC P 63 [true, false, true, false] b74_0 (Q74_0 R)) [(0, some x0), (3, some x3)] w :=
  Runs.loop (σ := Value × Value) (fun s => [(0, some s.1), (3, some s.2)]) (fun e k => E1 e (.tmp 0) fun x0 => E1 e (.tmp 3) fun x3 => k (x0, x3)) (fun e k h => let ⟨y0, h0, h⟩ := E1.elim h; let ⟨y3, h3, h⟩ := E1.elim h; ⟨(y0, y3), h, (sub_cons h0 (sub_cons h3 (sub_nil)))⟩) (fun s w K h => q74_2 s.1 s.2 w (fun x0 x3 w => K (x0, x3) w) R h) h
theorem e74_0 (Z1 : Value → Value → World → Prop) (x0 : Value) (w : World) (R : Value → World → Prop) : B74_0 Z1 x0 w R = Wp P 63 D74 [] b74_0 [([true, false, true, false], fun e w => E1 e (.tmp 0) fun x0 => E1 e (.tmp 3) fun x3 => Z1 x0 x3 w)] (Q74_0 R) [(0, some x0)] w := by kernel_rfl
theorem q74_0 (x0 : Value) (w : World) (R : Value → World → Prop) (h : S74_0 x0 w R) : Runs P 63 (subC [] b74_0) (postC P 63 [] b74_0 (Q74_0 R)) [(0, some x0)] w :=
  Wp_use mixed (e74_0 (fun x0 x3 w => S74_1 x0 x3 w R) x0 w R) h (fun _ _ _ h => h) ⟨(fun e w h => let ⟨y0, h0, h⟩ := E1.elim h; let ⟨y3, h3, h⟩ := E1.elim h; (q74_1 y0 y3 w R h).more (sub_cons h0 (sub_cons h3 (sub_nil)))), trivial⟩
theorem c74 (x0 : Value) (w : World) (R : Value → World → Prop) (h : S74_0 x0 w R) : CallF P 74 #[x0] w R :=
  call_of_runs (args := [x0]) (c := b74_0) (by kernel_rfl) func74 rfl (by kernel_rfl) (q74_0 x0 w R h)

/-! ### 75 "(*crier/crierroom.Room).holdSteps" -/
noncomputable abbrev b75_0 : Code := (f75.body).getD .skip
abbrev D75 : Plans := [(9, [(0, false), (1, false), (2, false), (3, false), (4, false), (5, true), (6, false), (7, false), (8, false), (9, false), (10, false), (11, false)], 12)]
abbrev Q75_0 (R : Value → World → Prop) : Post := retQ P f75.results.toList R
def S75_4 (x0 x3 x4 x5 : Value) (w : World) (K1 : Value → Value → World → Prop) (K2 : Value → Value → Value → Value → World → Prop) (R : Value → World → Prop) : Prop :=
 LF P 51 46 26 x0 w fun v28 w3 =>
 LI P 46 131 v28 x3 w3 fun v31 w5 =>
 XV P (Builtin.len_ #[131] 3 #[v31]) w5 fun v32 w6 =>
 XV P (binS .lss 3 false x5 v32) w6 fun v33 w7 =>
 condW v33 (
  LF P 51 46 26 x0 w7 fun v39 w10 =>
  LI P 46 131 v39 x3 w10 fun v42 w12 =>
  LI P 131 151 v42 x5 w12 fun v45 w14 =>
  XV P (Instr.alloc 151 true (.tuple #[])) w14 fun v6 w15 =>
  XU P (Instr.storeAt 151 v6 v45) w15 fun w16 =>
  LBS P (Ext (World.drew w16)) 151 3 1 v6 fun v47 =>
  XS P (Ext (World.drew w16)) (binS .sub 3 false x5 x4) fun v50 =>
  CallF P 117 #[v50] (World.drew w16) fun v51 w17 =>
  Ext (World.drew w16) w17 ∧
  XS P (Ext (World.drew w16)) (binS .neq 3 false v47 v51) fun v52 =>
  gd v52 false (
   LBS P (Ext (World.drew w16)) 151 3 0 v6 fun v55 =>
   XS P (Ext (World.drew w16)) (binS .neq 3 true v55 (.int .i64 0)) fun v56 =>
   condW v56 (
    R (.bool false) w17) (
    XV P (binS .add 3 true x5 (.int .i64 1)) w17 fun v35 w18 =>
    K2 x0 x3 x4 v35 w18)) (
   R (.bool false) w17)) (
  XV P (binS .add 3 true x3 (.int .i64 1)) w7 fun v15 w19 =>
  K1 x0 v15 w19)
def S75_3 (x0 x3 x4 x5 : Value) (w : World) (K1 : Value → Value → World → Prop) (R : Value → World → Prop) : Prop :=
 LoopP (fun (s : Value × Value × Value × Value) w K => S75_4 s.1 s.2.1 s.2.2.1 s.2.2.2 w K1 (fun x0 x3 x4 x5 w => K (x0, x3, x4, x5) w) R) (x0, x3, x4, x5) w
def B75_2 (Z3 : Value → Value → Value → Value → World → Prop) (x0 x3 : Value) (w : World) (K1 : Value → Value → World → Prop) (R : Value → World → Prop) : Prop :=
 LF P 51 46 26 x0 w fun v11 w3 =>
 XV P (Builtin.len_ #[46] 3 #[v11]) w3 fun v12 w4 =>
 XV P (binS .lss 3 false x3 v12) w4 fun v13 w5 =>
 condW v13 (
  LF P 51 26 27 x0 w5 fun v19 w8 =>
  LI P 26 3 v19 x3 w8 fun v22 w10 =>
  Z3 x0 x3 v22 v22 w10) (
  R (.bool true) w5)
def S75_2 (x0 x3 : Value) (w : World) (K1 : Value → Value → World → Prop) (R : Value → World → Prop) : Prop := B75_2 (fun x0 x3 x4 x5 w => S75_3 x0 x3 x4 x5 w K1 R) x0 x3 w K1 R
def S75_1 (x0 x3 : Value) (w : World) (R : Value → World → Prop) : Prop :=
 LoopP (fun (s : Value × Value) w K => S75_2 s.1 s.2 w (fun x0 x3 w => K (x0, x3) w) R) (x0, x3) w
def B75_0 (Z1 : Value → Value → World → Prop) (x0 : Value) (w : World) (R : Value → World → Prop) : Prop :=
 Z1 x0 (.int .i64 0) w
def S75_0 (x0 : Value) (w : World) (R : Value → World → Prop) : Prop := B75_0 (fun x0 x3 w => S75_1 x0 x3 w R) x0 w R
noncomputable abbrev b75_1 : Code := match subC [true, false, true, false] b75_0 with | .loop x => x | _ => .skip
abbrev V75_1 (K : Value → Value → World → Prop) (e : Env) (w : World) : Prop := E1 e (.tmp 0) fun x0 => E1 e (.tmp 3) fun x3 => K x0 x3 w
abbrev Q75_1 (K1 : Value → Value → World → Prop) (R : Value → World → Prop) : Post := thenQ (V75_1 K1) (postC P 58 [true, false, true, false] b75_0 (Q75_0 R))
noncomputable abbrev b75_2 : Code := match subC [true, false, false, true, true, false] b75_1 with | .loop x => x | _ => .skip
abbrev V75_2 (K : Value → Value → Value → Value → World → Prop) (e : Env) (w : World) : Prop := E1 e (.tmp 0) fun x0 => E1 e (.tmp 3) fun x3 => E1 e (.tmp 4) fun x4 => E1 e (.tmp 5) fun x5 => K x0 x3 x4 x5 w
abbrev Q75_2 (K1 : Value → Value → World → Prop) (K2 : Value → Value → Value → Value → World → Prop) (R : Value → World → Prop) : Post := thenQ (V75_2 K2) (postC P 58 [true, false, false, true, true, false] b75_1 (Q75_1 K1 R))
theorem e75_4 (x0 x3 x4 x5 : Value) (w : World) (K1 : Value → Value → World → Prop) (K2 : Value → Value → Value → Value → World → Prop) (R : Value → World → Prop) : S75_4 x0 x3 x4 x5 w K1 K2 R = Wp P 58 D75 [] b75_2 [] (thenQ (V75_2 K2) (postW P 58 D75 [true, false, false, true, true, false] b75_1 [] (thenQ (V75_1 K1) (postW P 58 D75 [true, false, true, false] b75_0 [] (Q75_0 R))))) [(0, some x0), (3, some x3), (4, some x4), (5, some x5)] w := by kernel_rfl
theorem q75_4 (x0 x3 x4 x5 : Value) (w : World) (K1 : Value → Value → World → Prop) (K2 : Value → Value → Value → Value → World → Prop) (R : Value → World → Prop) (h : S75_4 x0 x3 x4 x5 w K1 K2 R) : Runs P 58 (subC [] b75_2) (postC P 58 [] b75_2 (Q75_2 K1 K2 R)) [(0, some x0), (3, some x3), (4, some x4), (5, some x5)] w :=
  Wp_use mixed (e75_4 x0 x3 x4 x5 w K1 K2 R) h (thenQ_le (postW_le mixed _ _ _ _ _ (thenQ_le (postW_le mixed _ _ _ _ _ (fun _ _ _ h => h) trivial)) trivial)) trivial
theorem q75_3 (x0 x3 x4 x5 : Value) (w : World) (K1 : Value → Value → World → Prop) (R : Value → World → Prop) (h : S75_3 x0 x3 x4 x5 w K1 R) : Runs P 58 (subC [true, false, false, true, true, false] b75_1) (postC P 58 [true, false, false, true, true, false] b75_1 (Q75_1 K1 R)) [(0, some x0), (3, some x3), (4, some x4), (5, some x5)] w :=
  Runs.loop (σ := Value × Value × Value × Value) (fun s => [(0, some s.1), (3, some s.2.1), (4, some s.2.2.1), (5, some s.2.2.2)]) (fun e k => E1 e (.tmp 0) fun x0 => E1 e (.tmp 3) fun x3 => E1 e (.tmp 4) fun x4 => E1 e (.tmp 5) fun x5 => k (x0, x3, x4, x5)) (fun e k h => let ⟨y0, h0, h⟩ := E1.elim h; let ⟨y3, h3, h⟩ := E1.elim h; let ⟨y4, h4, h⟩ := E1.elim h; let ⟨y5, h5, h⟩ := E1.elim h; ⟨(y0, y3, y4, y5), h, (sub_cons h0 (sub_cons h3 (sub_cons h4 (sub_cons h5 (sub_nil)))))⟩) (fun s w K h => q75_4 s.1 s.2.1 s.2.2.1 s.2.2.2 w K1 (fun x0 x3 x4 x5 w => K (x0, x3, x4, x5) w) R h) h
theorem e75_2 (Z3 : Value → Value → Value → Value → World → Prop) (x0 x3 : Value) (w : World) (K1 : Value → Value → World → Prop) (R : Value → World → Prop) : B75_2 Z3 x0 x3 w K1 R = Wp P 58 D75 [] b75_1 [([true, false, false, true, true, false], fun e w => E1 e (.tmp 0) fun x0 => E1 e (.tmp 3) fun x3 => E1 e (.tmp 4) fun x4 => E1 e (.tmp 5) fun x5 => Z3 x0 x3 x4 x5 w)] (thenQ (V75_1 K1) (postW P 58 D75 [true, false, true, false] b75_0 [] (Q75_0 R))) [(0, some x0), (3, some x3)] w := by kernel_rfl
theorem q75_2 (x0 x3 : Value) (w : World) (K1 : Value → Value → World → Prop) (R : Value → World → Prop) (h : S75_2 x0 x3 w K1 R) : Runs P 58 (subC [] b75_1) (postC P 58 [] b75_1 (Q75_1 K1 R)) [(0, some x0), (3, some x3)] w :=
  Wp_use mixed (e75_2 (fun x0 x3 x4 x5 w => S75_3 x0 x3 x4 x5 w K1 R) x0 x3 w K1 R) h (thenQ_le (postW_le mixed _ _ _ _ _ (fun _ _ _ h => h) trivial)) ⟨(fun e w h => let ⟨y0, h0, h⟩ := E1.elim h; let ⟨y3, h3, h⟩ := E1.elim h; let ⟨y4, h4, h⟩ := E1.elim h; let ⟨y5, h5, h⟩ := E1.elim h; (q75_3 y0 y3 y4 y5 w K1 R h).more (sub_cons h0 (sub_cons h3 (sub_cons h4 (sub_cons h5 (sub_nil)))))), trivial⟩
theorem q75_1 (x0 x3 : Value) (w : World) (R : Value → World → Prop) (h : S75_1 x0 x3 w R) : Runs P 58 (subC [true, false, true, false] b75_0) (postC P 58 [true, false, true, false] b75_0 (Q75_0 R)) [(0, some x0), (3, some x3)] w :=
  Runs.loop (σ := Value × Value) (fun s => [(0, some s.1), (3, some s.2)]) (fun e k => E1 e (.tmp 0) fun x0 => E1 e (.tmp 3) fun x3 => k (x0, x3)) (fun e k h => let ⟨y0, h0, h⟩ := E1.elim h; let ⟨y3, h3, h⟩ := E1.elim h; ⟨(y0, y3), h, (sub_cons h0 (sub_cons h3 (sub_nil)))⟩) (fun s w K h => q75_2 s.1 s.2 w (fun x0 x3 w => K (x0, x3) w) R h) h
theorem e75_0 (Z1 : Value → Value → World → Prop) (x0 : Value) (w : World) (R : Value → World → Prop) : B75_0 Z1 x0 w R = Wp P 58 D75 [] b75_0 [([true, false, true, false], fun e w => E1 e (.tmp 0) fun x0 => E1 e (.tmp 3) fun x3 => Z1 x0 x3 w)] (Q75_0 R) [(0, some x0)] w := by kernel_rfl
theorem q75_0 (x0 : Value) (w : World) (R : Value → World → Prop) (h : S75_0 x0 w R) : Runs P 58 (subC [] b75_0) (postC P 58 [] b75_0 (Q75_0 R)) [(0, some x0)] w :=
  Wp_use mixed (e75_0 (fun x0 x3 w => S75_1 x0 x3 w R) x0 w R) h (fun _ _ _ h => h) ⟨(fun e w h => let ⟨y0, h0, h⟩ := E1.elim h; let ⟨y3, h3, h⟩ := E1.elim h; (q75_1 y0 y3 w R h).more (sub_cons h0 (sub_cons h3 (sub_nil)))), trivial⟩
theorem c75 (x0 : Value) (w : World) (R : Value → World → Prop) (h : S75_0 x0 w R) : CallF P 75 #[x0] w R :=
  call_of_runs (args := [x0]) (c := b75_0) (by kernel_rfl) func75 rfl (by kernel_rfl) (q75_0 x0 w R h)

/-! ### 76 "(*crier/crierroom.Room).holdServeds" -/
noncomputable abbrev b76_0 : Code := (f76.body).getD .skip
abbrev D76 : Plans := [(9, [(0, false), (1, false), (2, false), (3, false), (4, true), (5, false), (6, false)], 7)]
abbrev Q76_0 (R : Value → World → Prop) : Post := retQ P f76.results.toList R
def S76_4 (x0 x3 x4 x5 : Value) (w : World) (K1 : Value → Value → World → Prop) (K2 : Value → Value → Value → Value → World → Prop) (R : Value → World → Prop) : Prop :=
 LF P 51 47 28 x0 w fun v28 w3 =>
 LI P 47 123 v28 x3 w3 fun v31 w5 =>
 XV P (Builtin.len_ #[123] 3 #[v31]) w5 fun v32 w6 =>
 XV P (binS .lss 3 false x5 v32) w6 fun v33 w7 =>
 condW v33 (
  LF P 51 47 28 x0 w7 fun v39 w10 =>
  LI P 47 123 v39 x3 w10 fun v42 w12 =>
  LI P 123 153 v42 x5 w12 fun v45 w14 =>
  XV P (Instr.alloc 153 true (.tuple #[])) w14 fun v6 w15 =>
  XU P (Instr.storeAt 153 v6 v45) w15 fun w16 =>
  XS P (Ext (World.drew w16)) (Instr.loadAt 153 v6) fun v46 =>
  XS P (Ext (World.drew w16)) (binS .sub 3 false x5 x4) fun v49 =>
  CallF P 118 #[v49] (World.drew w16) fun v50 w17 =>
  Ext (World.drew w16) w17 ∧
  XS P (Ext (World.drew w16)) (Instr.build 153 #[(1, v50)]) fun v51 =>
  XS P (Ext (World.drew w16)) (binS .neq 153 false v46 v51) fun v52 =>
  condW v52 (
   R (.bool false) w17) (
   XV P (binS .add 3 true x5 (.int .i64 1)) w17 fun v35 w18 =>
   K2 x0 x3 x4 v35 w18)) (
  XV P (binS .add 3 true x3 (.int .i64 1)) w7 fun v15 w19 =>
  K1 x0 v15 w19)
def S76_3 (x0 x3 x4 x5 : Value) (w : World) (K1 : Value → Value → World → Prop) (R : Value → World → Prop) : Prop :=
 LoopP (fun (s : Value × Value × Value × Value) w K => S76_4 s.1 s.2.1 s.2.2.1 s.2.2.2 w K1 (fun x0 x3 x4 x5 w => K (x0, x3, x4, x5) w) R) (x0, x3, x4, x5) w
def B76_2 (Z3 : Value → Value → Value → Value → World → Prop) (x0 x3 : Value) (w : World) (K1 : Value → Value → World → Prop) (R : Value → World → Prop) : Prop :=
 LF P 51 47 28 x0 w fun v11 w3 =>
 XV P (Builtin.len_ #[47] 3 #[v11]) w3 fun v12 w4 =>
 XV P (binS .lss 3 false x3 v12) w4 fun v13 w5 =>
 condW v13 (
  LF P 51 26 29 x0 w5 fun v19 w8 =>
  LI P 26 3 v19 x3 w8 fun v22 w10 =>
  Z3 x0 x3 v22 v22 w10) (
  R (.bool true) w5)
def S76_2 (x0 x3 : Value) (w : World) (K1 : Value → Value → World → Prop) (R : Value → World → Prop) : Prop := B76_2 (fun x0 x3 x4 x5 w => S76_3 x0 x3 x4 x5 w K1 R) x0 x3 w K1 R
def S76_1 (x0 x3 : Value) (w : World) (R : Value → World → Prop) : Prop :=
 LoopP (fun (s : Value × Value) w K => S76_2 s.1 s.2 w (fun x0 x3 w => K (x0, x3) w) R) (x0, x3) w
def B76_0 (Z1 : Value → Value → World → Prop) (x0 : Value) (w : World) (R : Value → World → Prop) : Prop :=
 Z1 x0 (.int .i64 0) w
def S76_0 (x0 : Value) (w : World) (R : Value → World → Prop) : Prop := B76_0 (fun x0 x3 w => S76_1 x0 x3 w R) x0 w R
noncomputable abbrev b76_1 : Code := match subC [true, false, true, false] b76_0 with | .loop x => x | _ => .skip
abbrev V76_1 (K : Value → Value → World → Prop) (e : Env) (w : World) : Prop := E1 e (.tmp 0) fun x0 => E1 e (.tmp 3) fun x3 => K x0 x3 w
abbrev Q76_1 (K1 : Value → Value → World → Prop) (R : Value → World → Prop) : Post := thenQ (V76_1 K1) (postC P 53 [true, false, true, false] b76_0 (Q76_0 R))
noncomputable abbrev b76_2 : Code := match subC [true, false, false, true, true, false] b76_1 with | .loop x => x | _ => .skip
abbrev V76_2 (K : Value → Value → Value → Value → World → Prop) (e : Env) (w : World) : Prop := E1 e (.tmp 0) fun x0 => E1 e (.tmp 3) fun x3 => E1 e (.tmp 4) fun x4 => E1 e (.tmp 5) fun x5 => K x0 x3 x4 x5 w
abbrev Q76_2 (K1 : Value → Value → World → Prop) (K2 : Value → Value → Value → Value → World → Prop) (R : Value → World → Prop) : Post := thenQ (V76_2 K2) (postC P 53 [true, false, false, true, true, false] b76_1 (Q76_1 K1 R))
theorem e76_4 (x0 x3 x4 x5 : Value) (w : World) (K1 : Value → Value → World → Prop) (K2 : Value → Value → Value → Value → World → Prop) (R : Value → World → Prop) : S76_4 x0 x3 x4 x5 w K1 K2 R = Wp P 53 D76 [] b76_2 [] (thenQ (V76_2 K2) (postW P 53 D76 [true, false, false, true, true, false] b76_1 [] (thenQ (V76_1 K1) (postW P 53 D76 [true, false, true, false] b76_0 [] (Q76_0 R))))) [(0, some x0), (3, some x3), (4, some x4), (5, some x5)] w := by kernel_rfl
theorem q76_4 (x0 x3 x4 x5 : Value) (w : World) (K1 : Value → Value → World → Prop) (K2 : Value → Value → Value → Value → World → Prop) (R : Value → World → Prop) (h : S76_4 x0 x3 x4 x5 w K1 K2 R) : Runs P 53 (subC [] b76_2) (postC P 53 [] b76_2 (Q76_2 K1 K2 R)) [(0, some x0), (3, some x3), (4, some x4), (5, some x5)] w :=
  Wp_use mixed (e76_4 x0 x3 x4 x5 w K1 K2 R) h (thenQ_le (postW_le mixed _ _ _ _ _ (thenQ_le (postW_le mixed _ _ _ _ _ (fun _ _ _ h => h) trivial)) trivial)) trivial
theorem q76_3 (x0 x3 x4 x5 : Value) (w : World) (K1 : Value → Value → World → Prop) (R : Value → World → Prop) (h : S76_3 x0 x3 x4 x5 w K1 R) : Runs P 53 (subC [true, false, false, true, true, false] b76_1) (postC P 53 [true, false, false, true, true, false] b76_1 (Q76_1 K1 R)) [(0, some x0), (3, some x3), (4, some x4), (5, some x5)] w :=
  Runs.loop (σ := Value × Value × Value × Value) (fun s => [(0, some s.1), (3, some s.2.1), (4, some s.2.2.1), (5, some s.2.2.2)]) (fun e k => E1 e (.tmp 0) fun x0 => E1 e (.tmp 3) fun x3 => E1 e (.tmp 4) fun x4 => E1 e (.tmp 5) fun x5 => k (x0, x3, x4, x5)) (fun e k h => let ⟨y0, h0, h⟩ := E1.elim h; let ⟨y3, h3, h⟩ := E1.elim h; let ⟨y4, h4, h⟩ := E1.elim h; let ⟨y5, h5, h⟩ := E1.elim h; ⟨(y0, y3, y4, y5), h, (sub_cons h0 (sub_cons h3 (sub_cons h4 (sub_cons h5 (sub_nil)))))⟩) (fun s w K h => q76_4 s.1 s.2.1 s.2.2.1 s.2.2.2 w K1 (fun x0 x3 x4 x5 w => K (x0, x3, x4, x5) w) R h) h
theorem e76_2 (Z3 : Value → Value → Value → Value → World → Prop) (x0 x3 : Value) (w : World) (K1 : Value → Value → World → Prop) (R : Value → World → Prop) : B76_2 Z3 x0 x3 w K1 R = Wp P 53 D76 [] b76_1 [([true, false, false, true, true, false], fun e w => E1 e (.tmp 0) fun x0 => E1 e (.tmp 3) fun x3 => E1 e (.tmp 4) fun x4 => E1 e (.tmp 5) fun x5 => Z3 x0 x3 x4 x5 w)] (thenQ (V76_1 K1) (postW P 53 D76 [true, false, true, false] b76_0 [] (Q76_0 R))) [(0, some x0), (3, some x3)] w := by kernel_rfl
theorem q76_2 (x0 x3 : Value) (w : World) (K1 : Value → Value → World → Prop) (R : Value → World → Prop) (h : S76_2 x0 x3 w K1 R) : Runs P 53 (subC [] b76_1) (postC P 53 [] b76_1 (Q76_1 K1 R)) [(0, some x0), (3, some x3)] w :=
  Wp_use mixed (e76_2 (fun x0 x3 x4 x5 w => S76_3 x0 x3 x4 x5 w K1 R) x0 x3 w K1 R) h (thenQ_le (postW_le mixed _ _ _ _ _ (fun _ _ _ h => h) trivial)) ⟨(fun e w h => let ⟨y0, h0, h⟩ := E1.elim h; let ⟨y3, h3, h⟩ := E1.elim h; let ⟨y4, h4, h⟩ := E1.elim h; let ⟨y5, h5, h⟩ := E1.elim h; (q76_3 y0 y3 y4 y5 w K1 R h).more (sub_cons h0 (sub_cons h3 (sub_cons h4 (sub_cons h5 (sub_nil)))))), trivial⟩
theorem q76_1 (x0 x3 : Value) (w : World) (R : Value → World → Prop) (h : S76_1 x0 x3 w R) : Runs P 53 (subC [true, false, true, false] b76_0) (postC P 53 [true, false, true, false] b76_0 (Q76_0 R)) [(0, some x0), (3, some x3)] w :=
  Runs.loop (σ := Value × Value) (fun s => [(0, some s.1), (3, some s.2)]) (fun e k => E1 e (.tmp 0) fun x0 => E1 e (.tmp 3) fun x3 => k (x0, x3)) (fun e k h => let ⟨y0, h0, h⟩ := E1.elim h; let ⟨y3, h3, h⟩ := E1.elim h; ⟨(y0, y3), h, (sub_cons h0 (sub_cons h3 (sub_nil)))⟩) (fun s w K h => q76_2 s.1 s.2 w (fun x0 x3 w => K (x0, x3) w) R h) h
theorem e76_0 (Z1 : Value → Value → World → Prop) (x0 : Value) (w : World) (R : Value → World → Prop) : B76_0 Z1 x0 w R = Wp P 53 D76 [] b76_0 [([true, false, true, false], fun e w => E1 e (.tmp 0) fun x0 => E1 e (.tmp 3) fun x3 => Z1 x0 x3 w)] (Q76_0 R) [(0, some x0)] w := by kernel_rfl
theorem q76_0 (x0 : Value) (w : World) (R : Value → World → Prop) (h : S76_0 x0 w R) : Runs P 53 (subC [] b76_0) (postC P 53 [] b76_0 (Q76_0 R)) [(0, some x0)] w :=
  Wp_use mixed (e76_0 (fun x0 x3 w => S76_1 x0 x3 w R) x0 w R) h (fun _ _ _ h => h) ⟨(fun e w h => let ⟨y0, h0, h⟩ := E1.elim h; let ⟨y3, h3, h⟩ := E1.elim h; (q76_1 y0 y3 w R h).more (sub_cons h0 (sub_cons h3 (sub_nil)))), trivial⟩
theorem c76 (x0 : Value) (w : World) (R : Value → World → Prop) (h : S76_0 x0 w R) : CallF P 76 #[x0] w R :=
  call_of_runs (args := [x0]) (c := b76_0) (by kernel_rfl) func76 rfl (by kernel_rfl) (q76_0 x0 w R h)

/-! ### 77 "(*crier/crierroom.Room).holdRules" -/
noncomputable abbrev b77_0 : Code := (f77.body).getD .skip
abbrev D77 : Plans := [(9, [(0, false), (1, false), (2, false), (3, false), (4, true), (5, false), (6, false)], 7)]
abbrev Q77_0 (R : Value → World → Prop) : Post := retQ P f77.results.toList R
def S77_4 (x0 x3 x4 x5 : Value) (w : World) (K1 : Value → Value → World → Prop) (K2 : Value → Value → Value → Value → World → Prop) (R : Value → World → Prop) : Prop :=
 LF P 51 48 30 x0 w fun v28 w3 =>
 LI P 48 125 v28 x3 w3 fun v31 w5 =>
 XV P (Builtin.len_ #[125] 3 #[v31]) w5 fun v32 w6 =>
 XV P (binS .lss 3 false x5 v32) w6 fun v33 w7 =>
 condW v33 (
  LF P 51 48 30 x0 w7 fun v39 w10 =>
  LI P 48 125 v39 x3 w10 fun v42 w12 =>
  LI P 125 155 v42 x5 w12 fun v45 w14 =>
  XV P (Instr.alloc 155 true (.tuple #[])) w14 fun v6 w15 =>
  XU P (Instr.storeAt 155 v6 v45) w15 fun w16 =>
  XS P (Ext (World.drew w16)) (Instr.loadAt 155 v6) fun v46 =>
  XS P (Ext (World.drew w16)) (binS .sub 3 false x5 x4) fun v49 =>
  CallF P 118 #[v49] (World.drew w16) fun v50 w17 =>
  Ext (World.drew w16) w17 ∧
  XS P (Ext (World.drew w16)) (Instr.build 155 #[(0, v50)]) fun v51 =>
  XS P (Ext (World.drew w16)) (binS .neq 155 false v46 v51) fun v52 =>
  condW v52 (
   R (.bool false) w17) (
   XV P (binS .add 3 true x5 (.int .i64 1)) w17 fun v35 w18 =>
   K2 x0 x3 x4 v35 w18)) (
  XV P (binS .add 3 true x3 (.int .i64 1)) w7 fun v15 w19 =>
  K1 x0 v15 w19)
def S77_3 (x0 x3 x4 x5 : Value) (w : World) (K1 : Value → Value → World → Prop) (R : Value → World → Prop) : Prop :=
 LoopP (fun (s : Value × Value × Value × Value) w K => S77_4 s.1 s.2.1 s.2.2.1 s.2.2.2 w K1 (fun x0 x3 x4 x5 w => K (x0, x3, x4, x5) w) R) (x0, x3, x4, x5) w
def B77_2 (Z3 : Value → Value → Value → Value → World → Prop) (x0 x3 : Value) (w : World) (K1 : Value → Value → World → Prop) (R : Value → World → Prop) : Prop :=
 LF P 51 48 30 x0 w fun v11 w3 =>
 XV P (Builtin.len_ #[48] 3 #[v11]) w3 fun v12 w4 =>
 XV P (binS .lss 3 false x3 v12) w4 fun v13 w5 =>
 condW v13 (
  LF P 51 26 31 x0 w5 fun v19 w8 =>
  LI P 26 3 v19 x3 w8 fun v22 w10 =>
  Z3 x0 x3 v22 v22 w10) (
  R (.bool true) w5)
def S77_2 (x0 x3 : Value) (w : World) (K1 : Value → Value → World → Prop) (R : Value → World → Prop) : Prop := B77_2 (fun x0 x3 x4 x5 w => S77_3 x0 x3 x4 x5 w K1 R) x0 x3 w K1 R
def S77_1 (x0 x3 : Value) (w : World) (R : Value → World → Prop) : Prop :=
 LoopP (fun (s : Value × Value) w K => S77_2 s.1 s.2 w (fun x0 x3 w => K (x0, x3) w) R) (x0, x3) w
def B77_0 (Z1 : Value → Value → World → Prop) (x0 : Value) (w : World) (R : Value → World → Prop) : Prop :=
 Z1 x0 (.int .i64 0) w
def S77_0 (x0 : Value) (w : World) (R : Value → World → Prop) : Prop := B77_0 (fun x0 x3 w => S77_1 x0 x3 w R) x0 w R
noncomputable abbrev b77_1 : Code := match subC [true, false, true, false] b77_0 with | .loop x => x | _ => .skip
abbrev V77_1 (K : Value → Value → World → Prop) (e : Env) (w : World) : Prop := E1 e (.tmp 0) fun x0 => E1 e (.tmp 3) fun x3 => K x0 x3 w
abbrev Q77_1 (K1 : Value → Value → World → Prop) (R : Value → World → Prop) : Post := thenQ (V77_1 K1) (postC P 53 [true, false, true, false] b77_0 (Q77_0 R))
noncomputable abbrev b77_2 : Code := match subC [true, false, false, true, true, false] b77_1 with | .loop x => x | _ => .skip
abbrev V77_2 (K : Value → Value → Value → Value → World → Prop) (e : Env) (w : World) : Prop := E1 e (.tmp 0) fun x0 => E1 e (.tmp 3) fun x3 => E1 e (.tmp 4) fun x4 => E1 e (.tmp 5) fun x5 => K x0 x3 x4 x5 w
abbrev Q77_2 (K1 : Value → Value → World → Prop) (K2 : Value → Value → Value → Value → World → Prop) (R : Value → World → Prop) : Post := thenQ (V77_2 K2) (postC P 53 [true, false, false, true, true, false] b77_1 (Q77_1 K1 R))
theorem e77_4 (x0 x3 x4 x5 : Value) (w : World) (K1 : Value → Value → World → Prop) (K2 : Value → Value → Value → Value → World → Prop) (R : Value → World → Prop) : S77_4 x0 x3 x4 x5 w K1 K2 R = Wp P 53 D77 [] b77_2 [] (thenQ (V77_2 K2) (postW P 53 D77 [true, false, false, true, true, false] b77_1 [] (thenQ (V77_1 K1) (postW P 53 D77 [true, false, true, false] b77_0 [] (Q77_0 R))))) [(0, some x0), (3, some x3), (4, some x4), (5, some x5)] w := by kernel_rfl
theorem q77_4 (x0 x3 x4 x5 : Value) (w : World) (K1 : Value → Value → World → Prop) (K2 : Value → Value → Value → Value → World → Prop) (R : Value → World → Prop) (h : S77_4 x0 x3 x4 x5 w K1 K2 R) : Runs P 53 (subC [] b77_2) (postC P 53 [] b77_2 (Q77_2 K1 K2 R)) [(0, some x0), (3, some x3), (4, some x4), (5, some x5)] w :=
  Wp_use mixed (e77_4 x0 x3 x4 x5 w K1 K2 R) h (thenQ_le (postW_le mixed _ _ _ _ _ (thenQ_le (postW_le mixed _ _ _ _ _ (fun _ _ _ h => h) trivial)) trivial)) trivial
theorem q77_3 (x0 x3 x4 x5 : Value) (w : World) (K1 : Value → Value → World → Prop) (R : Value → World → Prop) (h : S77_3 x0 x3 x4 x5 w K1 R) : Runs P 53 (subC [true, false, false, true, true, false] b77_1) (postC P 53 [true, false, false, true, true, false] b77_1 (Q77_1 K1 R)) [(0, some x0), (3, some x3), (4, some x4), (5, some x5)] w :=
  Runs.loop (σ := Value × Value × Value × Value) (fun s => [(0, some s.1), (3, some s.2.1), (4, some s.2.2.1), (5, some s.2.2.2)]) (fun e k => E1 e (.tmp 0) fun x0 => E1 e (.tmp 3) fun x3 => E1 e (.tmp 4) fun x4 => E1 e (.tmp 5) fun x5 => k (x0, x3, x4, x5)) (fun e k h => let ⟨y0, h0, h⟩ := E1.elim h; let ⟨y3, h3, h⟩ := E1.elim h; let ⟨y4, h4, h⟩ := E1.elim h; let ⟨y5, h5, h⟩ := E1.elim h; ⟨(y0, y3, y4, y5), h, (sub_cons h0 (sub_cons h3 (sub_cons h4 (sub_cons h5 (sub_nil)))))⟩) (fun s w K h => q77_4 s.1 s.2.1 s.2.2.1 s.2.2.2 w K1 (fun x0 x3 x4 x5 w => K (x0, x3, x4, x5) w) R h) h
theorem e77_2 (Z3 : Value → Value → Value → Value → World → Prop) (x0 x3 : Value) (w : World) (K1 : Value → Value → World → Prop) (R : Value → World → Prop) : B77_2 Z3 x0 x3 w K1 R = Wp P 53 D77 [] b77_1 [([true, false, false, true, true, false], fun e w => E1 e (.tmp 0) fun x0 => E1 e (.tmp 3) fun x3 => E1 e (.tmp 4) fun x4 => E1 e (.tmp 5) fun x5 => Z3 x0 x3 x4 x5 w)] (thenQ (V77_1 K1) (postW P 53 D77 [true, false, true, false] b77_0 [] (Q77_0 R))) [(0, some x0), (3, some x3)] w := by kernel_rfl
theorem q77_2 (x0 x3 : Value) (w : World) (K1 : Value → Value → World → Prop) (R : Value → World → Prop) (h : S77_2 x0 x3 w K1 R) : Runs P 53 (subC [] b77_1) (postC P 53 [] b77_1 (Q77_1 K1 R)) [(0, some x0), (3, some x3)] w :=
  Wp_use mixed (e77_2 (fun x0 x3 x4 x5 w => S77_3 x0 x3 x4 x5 w K1 R) x0 x3 w K1 R) h (thenQ_le (postW_le mixed _ _ _ _ _ (fun _ _ _ h => h) trivial)) ⟨(fun e w h => let ⟨y0, h0, h⟩ := E1.elim h; let ⟨y3, h3, h⟩ := E1.elim h; let ⟨y4, h4, h⟩ := E1.elim h; let ⟨y5, h5, h⟩ := E1.elim h; (q77_3 y0 y3 y4 y5 w K1 R h).more (sub_cons h0 (sub_cons h3 (sub_cons h4 (sub_cons h5 (sub_nil)))))), trivial⟩
theorem q77_1 (x0 x3 : Value) (w : World) (R : Value → World → Prop) (h : S77_1 x0 x3 w R) : Runs P 53 (subC [true, false, true, false] b77_0) (postC P 53 [true, false, true, false] b77_0 (Q77_0 R)) [(0, some x0), (3, some x3)] w :=
  Runs.loop (σ := Value × Value) (fun s => [(0, some s.1), (3, some s.2)]) (fun e k => E1 e (.tmp 0) fun x0 => E1 e (.tmp 3) fun x3 => k (x0, x3)) (fun e k h => let ⟨y0, h0, h⟩ := E1.elim h; let ⟨y3, h3, h⟩ := E1.elim h; ⟨(y0, y3), h, (sub_cons h0 (sub_cons h3 (sub_nil)))⟩) (fun s w K h => q77_2 s.1 s.2 w (fun x0 x3 w => K (x0, x3) w) R h) h
theorem e77_0 (Z1 : Value → Value → World → Prop) (x0 : Value) (w : World) (R : Value → World → Prop) : B77_0 Z1 x0 w R = Wp P 53 D77 [] b77_0 [([true, false, true, false], fun e w => E1 e (.tmp 0) fun x0 => E1 e (.tmp 3) fun x3 => Z1 x0 x3 w)] (Q77_0 R) [(0, some x0)] w := by kernel_rfl
theorem q77_0 (x0 : Value) (w : World) (R : Value → World → Prop) (h : S77_0 x0 w R) : Runs P 53 (subC [] b77_0) (postC P 53 [] b77_0 (Q77_0 R)) [(0, some x0)] w :=
  Wp_use mixed (e77_0 (fun x0 x3 w => S77_1 x0 x3 w R) x0 w R) h (fun _ _ _ h => h) ⟨(fun e w h => let ⟨y0, h0, h⟩ := E1.elim h; let ⟨y3, h3, h⟩ := E1.elim h; (q77_1 y0 y3 w R h).more (sub_cons h0 (sub_cons h3 (sub_nil)))), trivial⟩
theorem c77 (x0 : Value) (w : World) (R : Value → World → Prop) (h : S77_0 x0 w R) : CallF P 77 #[x0] w R :=
  call_of_runs (args := [x0]) (c := b77_0) (by kernel_rfl) func77 rfl (by kernel_rfl) (q77_0 x0 w R h)

/-! ### 78 "(*crier/crierroom.Room).holdChanges" -/
noncomputable abbrev b78_0 : Code := (f78.body).getD .skip
abbrev D78 : Plans := [(9, [(0, false), (1, false), (2, false), (3, false), (4, false), (5, true), (6, false), (7, false), (8, false), (9, false), (10, false), (11, false), (12, false), (13, false), (14, false), (15, false), (16, false)], 17)]
abbrev Q78_0 (R : Value → World → Prop) : Post := retQ P f78.results.toList R
def S78_4 (x0 x3 x4 x5 : Value) (w : World) (K1 : Value → Value → World → Prop) (K2 : Value → Value → Value → Value → World → Prop) (R : Value → World → Prop) : Prop :=
 LF P 51 49 32 x0 w fun v28 w3 =>
 LI P 49 129 v28 x3 w3 fun v31 w5 =>
 XV P (Builtin.len_ #[129] 3 #[v31]) w5 fun v32 w6 =>
 XV P (binS .lss 3 false x5 v32) w6 fun v33 w7 =>
 condW v33 (
  LF P 51 49 32 x0 w7 fun v39 w10 =>
  LI P 49 129 v39 x3 w10 fun v42 w12 =>
  LI P 129 157 v42 x5 w12 fun v45 w14 =>
  XV P (Instr.alloc 157 true (.tuple #[])) w14 fun v6 w15 =>
  XU P (Instr.storeAt 157 v6 v45) w15 fun w16 =>
  LBS P (Ext (World.drew w16)) 157 3 0 v6 fun v47 =>
  XS P (Ext (World.drew w16)) (binS .sub 3 false x5 x4) fun v50 =>
  CallF P 117 #[v50] (World.drew w16) fun v51 w17 =>
  Ext (World.drew w16) w17 ∧
  XS P (Ext (World.drew w16)) (binS .neq 3 false v47 v51) fun v52 =>
  gd v52 false (
   LBS P (Ext (World.drew w16)) 157 3 1 v6 fun v55 =>
   XS P (Ext (World.drew w16)) (binS .neq 3 true v55 (.int .i64 0)) fun v56 =>
   gd v56 false (
    LBS P (Ext (World.drew w16)) 157 9 2 v6 fun v60 =>
    XS P (Ext (World.drew w16)) (binS .neq 9 true v60 (.string { data := #[] })) fun v61 =>
    condW v61 (
     R (.bool false) w17) (
     XV P (binS .add 3 true x5 (.int .i64 1)) w17 fun v35 w18 =>
     K2 x0 x3 x4 v35 w18)) (
    R (.bool false) w17)) (
   R (.bool false) w17)) (
  XV P (binS .add 3 true x3 (.int .i64 1)) w7 fun v15 w19 =>
  K1 x0 v15 w19)
def S78_3 (x0 x3 x4 x5 : Value) (w : World) (K1 : Value → Value → World → Prop) (R : Value → World → Prop) : Prop :=
 LoopP (fun (s : Value × Value × Value × Value) w K => S78_4 s.1 s.2.1 s.2.2.1 s.2.2.2 w K1 (fun x0 x3 x4 x5 w => K (x0, x3, x4, x5) w) R) (x0, x3, x4, x5) w
def B78_2 (Z3 : Value → Value → Value → Value → World → Prop) (x0 x3 : Value) (w : World) (K1 : Value → Value → World → Prop) (R : Value → World → Prop) : Prop :=
 LF P 51 49 32 x0 w fun v11 w3 =>
 XV P (Builtin.len_ #[49] 3 #[v11]) w3 fun v12 w4 =>
 XV P (binS .lss 3 false x3 v12) w4 fun v13 w5 =>
 condW v13 (
  LF P 51 26 33 x0 w5 fun v19 w8 =>
  LI P 26 3 v19 x3 w8 fun v22 w10 =>
  Z3 x0 x3 v22 v22 w10) (
  R (.bool true) w5)
def S78_2 (x0 x3 : Value) (w : World) (K1 : Value → Value → World → Prop) (R : Value → World → Prop) : Prop := B78_2 (fun x0 x3 x4 x5 w => S78_3 x0 x3 x4 x5 w K1 R) x0 x3 w K1 R
def S78_1 (x0 x3 : Value) (w : World) (R : Value → World → Prop) : Prop :=
 LoopP (fun (s : Value × Value) w K => S78_2 s.1 s.2 w (fun x0 x3 w => K (x0, x3) w) R) (x0, x3) w
def B78_0 (Z1 : Value → Value → World → Prop) (x0 : Value) (w : World) (R : Value → World → Prop) : Prop :=
 Z1 x0 (.int .i64 0) w
def S78_0 (x0 : Value) (w : World) (R : Value → World → Prop) : Prop := B78_0 (fun x0 x3 w => S78_1 x0 x3 w R) x0 w R
noncomputable abbrev b78_1 : Code := match subC [true, false, true, false] b78_0 with | .loop x => x | _ => .skip
abbrev V78_1 (K : Value → Value → World → Prop) (e : Env) (w : World) : Prop := E1 e (.tmp 0) fun x0 => E1 e (.tmp 3) fun x3 => K x0 x3 w
abbrev Q78_1 (K1 : Value → Value → World → Prop) (R : Value → World → Prop) : Post := thenQ (V78_1 K1) (postC P 63 [true, false, true, false] b78_0 (Q78_0 R))
noncomputable abbrev b78_2 : Code := match subC [true, false, false, true, true, false] b78_1 with | .loop x => x | _ => .skip
abbrev V78_2 (K : Value → Value → Value → Value → World → Prop) (e : Env) (w : World) : Prop := E1 e (.tmp 0) fun x0 => E1 e (.tmp 3) fun x3 => E1 e (.tmp 4) fun x4 => E1 e (.tmp 5) fun x5 => K x0 x3 x4 x5 w
abbrev Q78_2 (K1 : Value → Value → World → Prop) (K2 : Value → Value → Value → Value → World → Prop) (R : Value → World → Prop) : Post := thenQ (V78_2 K2) (postC P 63 [true, false, false, true, true, false] b78_1 (Q78_1 K1 R))
theorem e78_4 (x0 x3 x4 x5 : Value) (w : World) (K1 : Value → Value → World → Prop) (K2 : Value → Value → Value → Value → World → Prop) (R : Value → World → Prop) : S78_4 x0 x3 x4 x5 w K1 K2 R = Wp P 63 D78 [] b78_2 [] (thenQ (V78_2 K2) (postW P 63 D78 [true, false, false, true, true, false] b78_1 [] (thenQ (V78_1 K1) (postW P 63 D78 [true, false, true, false] b78_0 [] (Q78_0 R))))) [(0, some x0), (3, some x3), (4, some x4), (5, some x5)] w := by kernel_rfl
theorem q78_4 (x0 x3 x4 x5 : Value) (w : World) (K1 : Value → Value → World → Prop) (K2 : Value → Value → Value → Value → World → Prop) (R : Value → World → Prop) (h : S78_4 x0 x3 x4 x5 w K1 K2 R) : Runs P 63 (subC [] b78_2) (postC P 63 [] b78_2 (Q78_2 K1 K2 R)) [(0, some x0), (3, some x3), (4, some x4), (5, some x5)] w :=
  Wp_use mixed (e78_4 x0 x3 x4 x5 w K1 K2 R) h (thenQ_le (postW_le mixed _ _ _ _ _ (thenQ_le (postW_le mixed _ _ _ _ _ (fun _ _ _ h => h) trivial)) trivial)) trivial
theorem q78_3 (x0 x3 x4 x5 : Value) (w : World) (K1 : Value → Value → World → Prop) (R : Value → World → Prop) (h : S78_3 x0 x3 x4 x5 w K1 R) : Runs P 63 (subC [true, false, false, true, true, false] b78_1) (postC P 63 [true, false, false, true, true, false] b78_1 (Q78_1 K1 R)) [(0, some x0), (3, some x3), (4, some x4), (5, some x5)] w :=
  Runs.loop (σ := Value × Value × Value × Value) (fun s => [(0, some s.1), (3, some s.2.1), (4, some s.2.2.1), (5, some s.2.2.2)]) (fun e k => E1 e (.tmp 0) fun x0 => E1 e (.tmp 3) fun x3 => E1 e (.tmp 4) fun x4 => E1 e (.tmp 5) fun x5 => k (x0, x3, x4, x5)) (fun e k h => let ⟨y0, h0, h⟩ := E1.elim h; let ⟨y3, h3, h⟩ := E1.elim h; let ⟨y4, h4, h⟩ := E1.elim h; let ⟨y5, h5, h⟩ := E1.elim h; ⟨(y0, y3, y4, y5), h, (sub_cons h0 (sub_cons h3 (sub_cons h4 (sub_cons h5 (sub_nil)))))⟩) (fun s w K h => q78_4 s.1 s.2.1 s.2.2.1 s.2.2.2 w K1 (fun x0 x3 x4 x5 w => K (x0, x3, x4, x5) w) R h) h
theorem e78_2 (Z3 : Value → Value → Value → Value → World → Prop) (x0 x3 : Value) (w : World) (K1 : Value → Value → World → Prop) (R : Value → World → Prop) : B78_2 Z3 x0 x3 w K1 R = Wp P 63 D78 [] b78_1 [([true, false, false, true, true, false], fun e w => E1 e (.tmp 0) fun x0 => E1 e (.tmp 3) fun x3 => E1 e (.tmp 4) fun x4 => E1 e (.tmp 5) fun x5 => Z3 x0 x3 x4 x5 w)] (thenQ (V78_1 K1) (postW P 63 D78 [true, false, true, false] b78_0 [] (Q78_0 R))) [(0, some x0), (3, some x3)] w := by kernel_rfl
theorem q78_2 (x0 x3 : Value) (w : World) (K1 : Value → Value → World → Prop) (R : Value → World → Prop) (h : S78_2 x0 x3 w K1 R) : Runs P 63 (subC [] b78_1) (postC P 63 [] b78_1 (Q78_1 K1 R)) [(0, some x0), (3, some x3)] w :=
  Wp_use mixed (e78_2 (fun x0 x3 x4 x5 w => S78_3 x0 x3 x4 x5 w K1 R) x0 x3 w K1 R) h (thenQ_le (postW_le mixed _ _ _ _ _ (fun _ _ _ h => h) trivial)) ⟨(fun e w h => let ⟨y0, h0, h⟩ := E1.elim h; let ⟨y3, h3, h⟩ := E1.elim h; let ⟨y4, h4, h⟩ := E1.elim h; let ⟨y5, h5, h⟩ := E1.elim h; (q78_3 y0 y3 y4 y5 w K1 R h).more (sub_cons h0 (sub_cons h3 (sub_cons h4 (sub_cons h5 (sub_nil)))))), trivial⟩
theorem q78_1 (x0 x3 : Value) (w : World) (R : Value → World → Prop) (h : S78_1 x0 x3 w R) : Runs P 63 (subC [true, false, true, false] b78_0) (postC P 63 [true, false, true, false] b78_0 (Q78_0 R)) [(0, some x0), (3, some x3)] w :=
  Runs.loop (σ := Value × Value) (fun s => [(0, some s.1), (3, some s.2)]) (fun e k => E1 e (.tmp 0) fun x0 => E1 e (.tmp 3) fun x3 => k (x0, x3)) (fun e k h => let ⟨y0, h0, h⟩ := E1.elim h; let ⟨y3, h3, h⟩ := E1.elim h; ⟨(y0, y3), h, (sub_cons h0 (sub_cons h3 (sub_nil)))⟩) (fun s w K h => q78_2 s.1 s.2 w (fun x0 x3 w => K (x0, x3) w) R h) h
theorem e78_0 (Z1 : Value → Value → World → Prop) (x0 : Value) (w : World) (R : Value → World → Prop) : B78_0 Z1 x0 w R = Wp P 63 D78 [] b78_0 [([true, false, true, false], fun e w => E1 e (.tmp 0) fun x0 => E1 e (.tmp 3) fun x3 => Z1 x0 x3 w)] (Q78_0 R) [(0, some x0)] w := by kernel_rfl
theorem q78_0 (x0 : Value) (w : World) (R : Value → World → Prop) (h : S78_0 x0 w R) : Runs P 63 (subC [] b78_0) (postC P 63 [] b78_0 (Q78_0 R)) [(0, some x0)] w :=
  Wp_use mixed (e78_0 (fun x0 x3 w => S78_1 x0 x3 w R) x0 w R) h (fun _ _ _ h => h) ⟨(fun e w h => let ⟨y0, h0, h⟩ := E1.elim h; let ⟨y3, h3, h⟩ := E1.elim h; (q78_1 y0 y3 w R h).more (sub_cons h0 (sub_cons h3 (sub_nil)))), trivial⟩
theorem c78 (x0 : Value) (w : World) (R : Value → World → Prop) (h : S78_0 x0 w R) : CallF P 78 #[x0] w R :=
  call_of_runs (args := [x0]) (c := b78_0) (by kernel_rfl) func78 rfl (by kernel_rfl) (q78_0 x0 w R h)

/-! ### 14 "(*crier/crierroom.Room).Hold" -/
noncomputable abbrev b14_0 : Code := (f14.body).getD .skip
abbrev D14 : Plans := []
abbrev Q14_0 (R : Value → World → Prop) : Post := retQ P f14.results.toList R
def S14_1 (x0 x3 : Value) (w : World) (R : Value → World → Prop) : Prop :=
 gd x3 true (
  CallF P 78 #[x0] w fun v87 w1 =>
  R v87 w1) (
  R (.bool false) w)
def B14_2 (Z1 : Value → Value → World → Prop) (x0 x3 : Value) (w : World) (R : Value → World → Prop) : Prop :=
 gd x3 true (
  CallF P 77 #[x0] w fun v82 w1 =>
  Z1 x0 v82 w1) (
  Z1 x0 (.bool false) w)
def S14_2 (x0 x3 : Value) (w : World) (R : Value → World → Prop) : Prop := B14_2 (fun x0 x3 w => S14_1 x0 x3 w R) x0 x3 w R
def B14_3 (Z2 : Value → Value → World → Prop) (x0 x3 : Value) (w : World) (R : Value → World → Prop) : Prop :=
 gd x3 true (
  CallF P 76 #[x0] w fun v77 w1 =>
  Z2 x0 v77 w1) (
  Z2 x0 (.bool false) w)
def S14_3 (x0 x3 : Value) (w : World) (R : Value → World → Prop) : Prop := B14_3 (fun x0 x3 w => S14_2 x0 x3 w R) x0 x3 w R
def B14_4 (Z3 : Value → Value → World → Prop) (x0 x3 : Value) (w : World) (R : Value → World → Prop) : Prop :=
 gd x3 true (
  CallF P 75 #[x0] w fun v72 w1 =>
  Z3 x0 v72 w1) (
  Z3 x0 (.bool false) w)
def S14_4 (x0 x3 : Value) (w : World) (R : Value → World → Prop) : Prop := B14_4 (fun x0 x3 w => S14_3 x0 x3 w R) x0 x3 w R
def B14_5 (Z4 : Value → Value → World → Prop) (x0 x3 : Value) (w : World) (R : Value → World → Prop) : Prop :=
 gd x3 true (
  CallF P 74 #[x0] w fun v67 w1 =>
  Z4 x0 v67 w1) (
  Z4 x0 (.bool false) w)
def S14_5 (x0 x3 : Value) (w : World) (R : Value → World → Prop) : Prop := B14_5 (fun x0 x3 w => S14_4 x0 x3 w R) x0 x3 w R
def B14_6 (Z5 : Value → Value → World → Prop) (x0 x3 : Value) (w : World) (R : Value → World → Prop) : Prop :=
 gd x3 true (
  CallF P 73 #[x0] w fun v62 w1 =>
  Z5 x0 v62 w1) (
  Z5 x0 (.bool false) w)
def S14_6 (x0 x3 : Value) (w : World) (R : Value → World → Prop) : Prop := B14_6 (fun x0 x3 w => S14_5 x0 x3 w R) x0 x3 w R
def B14_7 (Z6 : Value → Value → World → Prop) (x0 x3 : Value) (w : World) (R : Value → World → Prop) : Prop :=
 gd x3 true (
  CallF P 72 #[x0] w fun v57 w1 =>
  Z6 x0 v57 w1) (
  Z6 x0 (.bool false) w)
def S14_7 (x0 x3 : Value) (w : World) (R : Value → World → Prop) : Prop := B14_7 (fun x0 x3 w => S14_6 x0 x3 w R) x0 x3 w R
def B14_8 (Z7 : Value → Value → World → Prop) (x0 x3 : Value) (w : World) (R : Value → World → Prop) : Prop :=
 gd x3 true (
  CallF P 71 #[x0] w fun v52 w1 =>
  Z7 x0 v52 w1) (
  Z7 x0 (.bool false) w)
def S14_8 (x0 x3 : Value) (w : World) (R : Value → World → Prop) : Prop := B14_8 (fun x0 x3 w => S14_7 x0 x3 w R) x0 x3 w R
def B14_9 (Z8 : Value → Value → World → Prop) (x0 x3 : Value) (w : World) (R : Value → World → Prop) : Prop :=
 gd x3 true (
  CallF P 70 #[x0] w fun v47 w1 =>
  Z8 x0 v47 w1) (
  Z8 x0 (.bool false) w)
def S14_9 (x0 x3 : Value) (w : World) (R : Value → World → Prop) : Prop := B14_9 (fun x0 x3 w => S14_8 x0 x3 w R) x0 x3 w R
def B14_10 (Z9 : Value → Value → World → Prop) (x0 x3 : Value) (w : World) (R : Value → World → Prop) : Prop :=
 gd x3 true (
  CallF P 69 #[x0] w fun v42 w1 =>
  Z9 x0 v42 w1) (
  Z9 x0 (.bool false) w)
def S14_10 (x0 x3 : Value) (w : World) (R : Value → World → Prop) : Prop := B14_10 (fun x0 x3 w => S14_9 x0 x3 w R) x0 x3 w R
def B14_11 (Z10 : Value → Value → World → Prop) (x0 x3 : Value) (w : World) (R : Value → World → Prop) : Prop :=
 gd x3 true (
  CallF P 68 #[x0] w fun v37 w1 =>
  Z10 x0 v37 w1) (
  Z10 x0 (.bool false) w)
def S14_11 (x0 x3 : Value) (w : World) (R : Value → World → Prop) : Prop := B14_11 (fun x0 x3 w => S14_10 x0 x3 w R) x0 x3 w R
def B14_12 (Z11 : Value → Value → World → Prop) (x0 x3 : Value) (w : World) (R : Value → World → Prop) : Prop :=
 gd x3 true (
  CallF P 67 #[x0] w fun v32 w1 =>
  Z11 x0 v32 w1) (
  Z11 x0 (.bool false) w)
def S14_12 (x0 x3 : Value) (w : World) (R : Value → World → Prop) : Prop := B14_12 (fun x0 x3 w => S14_11 x0 x3 w R) x0 x3 w R
def B14_13 (Z12 : Value → Value → World → Prop) (x0 x3 : Value) (w : World) (R : Value → World → Prop) : Prop :=
 gd x3 true (
  CallF P 66 #[x0] w fun v27 w1 =>
  Z12 x0 v27 w1) (
  Z12 x0 (.bool false) w)
def S14_13 (x0 x3 : Value) (w : World) (R : Value → World → Prop) : Prop := B14_13 (fun x0 x3 w => S14_12 x0 x3 w R) x0 x3 w R
def B14_14 (Z13 : Value → Value → World → Prop) (x0 x3 : Value) (w : World) (R : Value → World → Prop) : Prop :=
 gd x3 true (
  CallF P 65 #[x0] w fun v22 w1 =>
  Z13 x0 v22 w1) (
  Z13 x0 (.bool false) w)
def S14_14 (x0 x3 : Value) (w : World) (R : Value → World → Prop) : Prop := B14_14 (fun x0 x3 w => S14_13 x0 x3 w R) x0 x3 w R
def B14_15 (Z14 : Value → Value → World → Prop) (x0 x3 : Value) (w : World) (R : Value → World → Prop) : Prop :=
 gd x3 true (
  CallF P 64 #[x0] w fun v17 w1 =>
  Z14 x0 v17 w1) (
  Z14 x0 (.bool false) w)
def S14_15 (x0 x3 : Value) (w : World) (R : Value → World → Prop) : Prop := B14_15 (fun x0 x3 w => S14_14 x0 x3 w R) x0 x3 w R
def B14_0 (Z15 : Value → Value → World → Prop) (x0 : Value) (w : World) (R : Value → World → Prop) : Prop :=
 CallF P 62 #[x0] w fun v7 w1 =>
 gd v7 true (
  CallF P 63 #[x0] w1 fun v12 w2 =>
  Z15 x0 v12 w2) (
  Z15 x0 (.bool false) w1)
def S14_0 (x0 : Value) (w : World) (R : Value → World → Prop) : Prop := B14_0 (fun x0 x3 w => S14_15 x0 x3 w R) x0 w R
theorem e14_1 (x0 x3 : Value) (w : World) (R : Value → World → Prop) : S14_1 x0 x3 w R = Wp P 90 D14 [true, true, true, true, true, true, true, true, true, true, true, true, true, true, true, true, true, true] b14_0 [] (Q14_0 R) [(0, some x0), (3, some x3)] w := by kernel_rfl
theorem q14_1 (x0 x3 : Value) (w : World) (R : Value → World → Prop) (h : S14_1 x0 x3 w R) : Runs P 90 (subC [true, true, true, true, true, true, true, true, true, true, true, true, true, true, true, true, true, true] b14_0) (postC P 90 [true, true, true, true, true, true, true, true, true, true, true, true, true, true, true, true, true, true] b14_0 (Q14_0 R)) [(0, some x0), (3, some x3)] w :=
  Wp_use mixed (e14_1 x0 x3 w R) h (fun _ _ _ h => h) trivial
theorem e14_2 (Z1 : Value → Value → World → Prop) (x0 x3 : Value) (w : World) (R : Value → World → Prop) : B14_2 Z1 x0 x3 w R = Wp P 90 D14 [true, true, true, true, true, true, true, true, true, true, true, true, true, true, true, true, true] b14_0 [([true, true, true, true, true, true, true, true, true, true, true, true, true, true, true, true, true, true], fun e w => E1 e (.tmp 0) fun x0 => E1 e (.tmp 3) fun x3 => Z1 x0 x3 w)] (Q14_0 R) [(0, some x0), (3, some x3)] w := by kernel_rfl
theorem q14_2 (x0 x3 : Value) (w : World) (R : Value → World → Prop) (h : S14_2 x0 x3 w R) : Runs P 90 (subC [true, true, true, true, true, true, true, true, true, true, true, true, true, true, true, true, true] b14_0) (postC P 90 [true, true, true, true, true, true, true, true, true, true, true, true, true, true, true, true, true] b14_0 (Q14_0 R)) [(0, some x0), (3, some x3)] w :=
  Wp_use mixed (e14_2 (fun x0 x3 w => S14_1 x0 x3 w R) x0 x3 w R) h (fun _ _ _ h => h) ⟨(fun e w h => let ⟨y0, h0, h⟩ := E1.elim h; let ⟨y3, h3, h⟩ := E1.elim h; (q14_1 y0 y3 w R h).more (sub_cons h0 (sub_cons h3 (sub_nil)))), trivial⟩
theorem e14_3 (Z2 : Value → Value → World → Prop) (x0 x3 : Value) (w : World) (R : Value → World → Prop) : B14_3 Z2 x0 x3 w R = Wp P 90 D14 [true, true, true, true, true, true, true, true, true, true, true, true, true, true, true, true] b14_0 [([true, true, true, true, true, true, true, true, true, true, true, true, true, true, true, true, true], fun e w => E1 e (.tmp 0) fun x0 => E1 e (.tmp 3) fun x3 => Z2 x0 x3 w)] (Q14_0 R) [(0, some x0), (3, some x3)] w := by kernel_rfl
theorem q14_3 (x0 x3 : Value) (w : World) (R : Value → World → Prop) (h : S14_3 x0 x3 w R) : Runs P 90 (subC [true, true, true, true, true, true, true, true, true, true, true, true, true, true, true, true] b14_0) (postC P 90 [true, true, true, true, true, true, true, true, true, true, true, true, true, true, true, true] b14_0 (Q14_0 R)) [(0, some x0), (3, some x3)] w :=
  Wp_use mixed (e14_3 (fun x0 x3 w => S14_2 x0 x3 w R) x0 x3 w R) h (fun _ _ _ h => h) ⟨(fun e w h => let ⟨y0, h0, h⟩ := E1.elim h; let ⟨y3, h3, h⟩ := E1.elim h; (q14_2 y0 y3 w R h).more (sub_cons h0 (sub_cons h3 (sub_nil)))), trivial⟩
theorem e14_4 (Z3 : Value → Value → World → Prop) (x0 x3 : Value) (w : World) (R : Value → World → Prop) : B14_4 Z3 x0 x3 w R = Wp P 90 D14 [true, true, true, true, true, true, true, true, true, true, true, true, true, true, true] b14_0 [([true, true, true, true, true, true, true, true, true, true, true, true, true, true, true, true], fun e w => E1 e (.tmp 0) fun x0 => E1 e (.tmp 3) fun x3 => Z3 x0 x3 w)] (Q14_0 R) [(0, some x0), (3, some x3)] w := by kernel_rfl
theorem q14_4 (x0 x3 : Value) (w : World) (R : Value → World → Prop) (h : S14_4 x0 x3 w R) : Runs P 90 (subC [true, true, true, true, true, true, true, true, true, true, true, true, true, true, true] b14_0) (postC P 90 [true, true, true, true, true, true, true, true, true, true, true, true, true, true, true] b14_0 (Q14_0 R)) [(0, some x0), (3, some x3)] w :=
  Wp_use mixed (e14_4 (fun x0 x3 w => S14_3 x0 x3 w R) x0 x3 w R) h (fun _ _ _ h => h) ⟨(fun e w h => let ⟨y0, h0, h⟩ := E1.elim h; let ⟨y3, h3, h⟩ := E1.elim h; (q14_3 y0 y3 w R h).more (sub_cons h0 (sub_cons h3 (sub_nil)))), trivial⟩
theorem e14_5 (Z4 : Value → Value → World → Prop) (x0 x3 : Value) (w : World) (R : Value → World → Prop) : B14_5 Z4 x0 x3 w R = Wp P 90 D14 [true, true, true, true, true, true, true, true, true, true, true, true, true, true] b14_0 [([true, true, true, true, true, true, true, true, true, true, true, true, true, true, true], fun e w => E1 e (.tmp 0) fun x0 => E1 e (.tmp 3) fun x3 => Z4 x0 x3 w)] (Q14_0 R) [(0, some x0), (3, some x3)] w := by kernel_rfl
theorem q14_5 (x0 x3 : Value) (w : World) (R : Value → World → Prop) (h : S14_5 x0 x3 w R) : Runs P 90 (subC [true, true, true, true, true, true, true, true, true, true, true, true, true, true] b14_0) (postC P 90 [true, true, true, true, true, true, true, true, true, true, true, true, true, true] b14_0 (Q14_0 R)) [(0, some x0), (3, some x3)] w :=
  Wp_use mixed (e14_5 (fun x0 x3 w => S14_4 x0 x3 w R) x0 x3 w R) h (fun _ _ _ h => h) ⟨(fun e w h => let ⟨y0, h0, h⟩ := E1.elim h; let ⟨y3, h3, h⟩ := E1.elim h; (q14_4 y0 y3 w R h).more (sub_cons h0 (sub_cons h3 (sub_nil)))), trivial⟩
theorem e14_6 (Z5 : Value → Value → World → Prop) (x0 x3 : Value) (w : World) (R : Value → World → Prop) : B14_6 Z5 x0 x3 w R = Wp P 90 D14 [true, true, true, true, true, true, true, true, true, true, true, true, true] b14_0 [([true, true, true, true, true, true, true, true, true, true, true, true, true, true], fun e w => E1 e (.tmp 0) fun x0 => E1 e (.tmp 3) fun x3 => Z5 x0 x3 w)] (Q14_0 R) [(0, some x0), (3, some x3)] w := by kernel_rfl
theorem q14_6 (x0 x3 : Value) (w : World) (R : Value → World → Prop) (h : S14_6 x0 x3 w R) : Runs P 90 (subC [true, true, true, true, true, true, true, true, true, true, true, true, true] b14_0) (postC P 90 [true, true, true, true, true, true, true, true, true, true, true, true, true] b14_0 (Q14_0 R)) [(0, some x0), (3, some x3)] w :=
  Wp_use mixed (e14_6 (fun x0 x3 w => S14_5 x0 x3 w R) x0 x3 w R) h (fun _ _ _ h => h) ⟨(fun e w h => let ⟨y0, h0, h⟩ := E1.elim h; let ⟨y3, h3, h⟩ := E1.elim h; (q14_5 y0 y3 w R h).more (sub_cons h0 (sub_cons h3 (sub_nil)))), trivial⟩
theorem e14_7 (Z6 : Value → Value → World → Prop) (x0 x3 : Value) (w : World) (R : Value → World → Prop) : B14_7 Z6 x0 x3 w R = Wp P 90 D14 [true, true, true, true, true, true, true, true, true, true, true, true] b14_0 [([true, true, true, true, true, true, true, true, true, true, true, true, true], fun e w => E1 e (.tmp 0) fun x0 => E1 e (.tmp 3) fun x3 => Z6 x0 x3 w)] (Q14_0 R) [(0, some x0), (3, some x3)] w := by kernel_rfl
theorem q14_7 (x0 x3 : Value) (w : World) (R : Value → World → Prop) (h : S14_7 x0 x3 w R) : Runs P 90 (subC [true, true, true, true, true, true, true, true, true, true, true, true] b14_0) (postC P 90 [true, true, true, true, true, true, true, true, true, true, true, true] b14_0 (Q14_0 R)) [(0, some x0), (3, some x3)] w :=
  Wp_use mixed (e14_7 (fun x0 x3 w => S14_6 x0 x3 w R) x0 x3 w R) h (fun _ _ _ h => h) ⟨(fun e w h => let ⟨y0, h0, h⟩ := E1.elim h; let ⟨y3, h3, h⟩ := E1.elim h; (q14_6 y0 y3 w R h).more (sub_cons h0 (sub_cons h3 (sub_nil)))), trivial⟩
theorem e14_8 (Z7 : Value → Value → World → Prop) (x0 x3 : Value) (w : World) (R : Value → World → Prop) : B14_8 Z7 x0 x3 w R = Wp P 90 D14 [true, true, true, true, true, true, true, true, true, true, true] b14_0 [([true, true, true, true, true, true, true, true, true, true, true, true], fun e w => E1 e (.tmp 0) fun x0 => E1 e (.tmp 3) fun x3 => Z7 x0 x3 w)] (Q14_0 R) [(0, some x0), (3, some x3)] w := by kernel_rfl
theorem q14_8 (x0 x3 : Value) (w : World) (R : Value → World → Prop) (h : S14_8 x0 x3 w R) : Runs P 90 (subC [true, true, true, true, true, true, true, true, true, true, true] b14_0) (postC P 90 [true, true, true, true, true, true, true, true, true, true, true] b14_0 (Q14_0 R)) [(0, some x0), (3, some x3)] w :=
  Wp_use mixed (e14_8 (fun x0 x3 w => S14_7 x0 x3 w R) x0 x3 w R) h (fun _ _ _ h => h) ⟨(fun e w h => let ⟨y0, h0, h⟩ := E1.elim h; let ⟨y3, h3, h⟩ := E1.elim h; (q14_7 y0 y3 w R h).more (sub_cons h0 (sub_cons h3 (sub_nil)))), trivial⟩
theorem e14_9 (Z8 : Value → Value → World → Prop) (x0 x3 : Value) (w : World) (R : Value → World → Prop) : B14_9 Z8 x0 x3 w R = Wp P 90 D14 [true, true, true, true, true, true, true, true, true, true] b14_0 [([true, true, true, true, true, true, true, true, true, true, true], fun e w => E1 e (.tmp 0) fun x0 => E1 e (.tmp 3) fun x3 => Z8 x0 x3 w)] (Q14_0 R) [(0, some x0), (3, some x3)] w := by kernel_rfl
theorem q14_9 (x0 x3 : Value) (w : World) (R : Value → World → Prop) (h : S14_9 x0 x3 w R) : Runs P 90 (subC [true, true, true, true, true, true, true, true, true, true] b14_0) (postC P 90 [true, true, true, true, true, true, true, true, true, true] b14_0 (Q14_0 R)) [(0, some x0), (3, some x3)] w :=
  Wp_use mixed (e14_9 (fun x0 x3 w => S14_8 x0 x3 w R) x0 x3 w R) h (fun _ _ _ h => h) ⟨(fun e w h => let ⟨y0, h0, h⟩ := E1.elim h; let ⟨y3, h3, h⟩ := E1.elim h; (q14_8 y0 y3 w R h).more (sub_cons h0 (sub_cons h3 (sub_nil)))), trivial⟩
theorem e14_10 (Z9 : Value → Value → World → Prop) (x0 x3 : Value) (w : World) (R : Value → World → Prop) : B14_10 Z9 x0 x3 w R = Wp P 90 D14 [true, true, true, true, true, true, true, true, true] b14_0 [([true, true, true, true, true, true, true, true, true, true], fun e w => E1 e (.tmp 0) fun x0 => E1 e (.tmp 3) fun x3 => Z9 x0 x3 w)] (Q14_0 R) [(0, some x0), (3, some x3)] w := by kernel_rfl
theorem q14_10 (x0 x3 : Value) (w : World) (R : Value → World → Prop) (h : S14_10 x0 x3 w R) : Runs P 90 (subC [true, true, true, true, true, true, true, true, true] b14_0) (postC P 90 [true, true, true, true, true, true, true, true, true] b14_0 (Q14_0 R)) [(0, some x0), (3, some x3)] w :=
  Wp_use mixed (e14_10 (fun x0 x3 w => S14_9 x0 x3 w R) x0 x3 w R) h (fun _ _ _ h => h) ⟨(fun e w h => let ⟨y0, h0, h⟩ := E1.elim h; let ⟨y3, h3, h⟩ := E1.elim h; (q14_9 y0 y3 w R h).more (sub_cons h0 (sub_cons h3 (sub_nil)))), trivial⟩
theorem e14_11 (Z10 : Value → Value → World → Prop) (x0 x3 : Value) (w : World) (R : Value → World → Prop) : B14_11 Z10 x0 x3 w R = Wp P 90 D14 [true, true, true, true, true, true, true, true] b14_0 [([true, true, true, true, true, true, true, true, true], fun e w => E1 e (.tmp 0) fun x0 => E1 e (.tmp 3) fun x3 => Z10 x0 x3 w)] (Q14_0 R) [(0, some x0), (3, some x3)] w := by kernel_rfl
theorem q14_11 (x0 x3 : Value) (w : World) (R : Value → World → Prop) (h : S14_11 x0 x3 w R) : Runs P 90 (subC [true, true, true, true, true, true, true, true] b14_0) (postC P 90 [true, true, true, true, true, true, true, true] b14_0 (Q14_0 R)) [(0, some x0), (3, some x3)] w :=
  Wp_use mixed (e14_11 (fun x0 x3 w => S14_10 x0 x3 w R) x0 x3 w R) h (fun _ _ _ h => h) ⟨(fun e w h => let ⟨y0, h0, h⟩ := E1.elim h; let ⟨y3, h3, h⟩ := E1.elim h; (q14_10 y0 y3 w R h).more (sub_cons h0 (sub_cons h3 (sub_nil)))), trivial⟩
theorem e14_12 (Z11 : Value → Value → World → Prop) (x0 x3 : Value) (w : World) (R : Value → World → Prop) : B14_12 Z11 x0 x3 w R = Wp P 90 D14 [true, true, true, true, true, true, true] b14_0 [([true, true, true, true, true, true, true, true], fun e w => E1 e (.tmp 0) fun x0 => E1 e (.tmp 3) fun x3 => Z11 x0 x3 w)] (Q14_0 R) [(0, some x0), (3, some x3)] w := by kernel_rfl
theorem q14_12 (x0 x3 : Value) (w : World) (R : Value → World → Prop) (h : S14_12 x0 x3 w R) : Runs P 90 (subC [true, true, true, true, true, true, true] b14_0) (postC P 90 [true, true, true, true, true, true, true] b14_0 (Q14_0 R)) [(0, some x0), (3, some x3)] w :=
  Wp_use mixed (e14_12 (fun x0 x3 w => S14_11 x0 x3 w R) x0 x3 w R) h (fun _ _ _ h => h) ⟨(fun e w h => let ⟨y0, h0, h⟩ := E1.elim h; let ⟨y3, h3, h⟩ := E1.elim h; (q14_11 y0 y3 w R h).more (sub_cons h0 (sub_cons h3 (sub_nil)))), trivial⟩
theorem e14_13 (Z12 : Value → Value → World → Prop) (x0 x3 : Value) (w : World) (R : Value → World → Prop) : B14_13 Z12 x0 x3 w R = Wp P 90 D14 [true, true, true, true, true, true] b14_0 [([true, true, true, true, true, true, true], fun e w => E1 e (.tmp 0) fun x0 => E1 e (.tmp 3) fun x3 => Z12 x0 x3 w)] (Q14_0 R) [(0, some x0), (3, some x3)] w := by kernel_rfl
theorem q14_13 (x0 x3 : Value) (w : World) (R : Value → World → Prop) (h : S14_13 x0 x3 w R) : Runs P 90 (subC [true, true, true, true, true, true] b14_0) (postC P 90 [true, true, true, true, true, true] b14_0 (Q14_0 R)) [(0, some x0), (3, some x3)] w :=
  Wp_use mixed (e14_13 (fun x0 x3 w => S14_12 x0 x3 w R) x0 x3 w R) h (fun _ _ _ h => h) ⟨(fun e w h => let ⟨y0, h0, h⟩ := E1.elim h; let ⟨y3, h3, h⟩ := E1.elim h; (q14_12 y0 y3 w R h).more (sub_cons h0 (sub_cons h3 (sub_nil)))), trivial⟩
theorem e14_14 (Z13 : Value → Value → World → Prop) (x0 x3 : Value) (w : World) (R : Value → World → Prop) : B14_14 Z13 x0 x3 w R = Wp P 90 D14 [true, true, true, true, true] b14_0 [([true, true, true, true, true, true], fun e w => E1 e (.tmp 0) fun x0 => E1 e (.tmp 3) fun x3 => Z13 x0 x3 w)] (Q14_0 R) [(0, some x0), (3, some x3)] w := by kernel_rfl
theorem q14_14 (x0 x3 : Value) (w : World) (R : Value → World → Prop) (h : S14_14 x0 x3 w R) : Runs P 90 (subC [true, true, true, true, true] b14_0) (postC P 90 [true, true, true, true, true] b14_0 (Q14_0 R)) [(0, some x0), (3, some x3)] w :=
  Wp_use mixed (e14_14 (fun x0 x3 w => S14_13 x0 x3 w R) x0 x3 w R) h (fun _ _ _ h => h) ⟨(fun e w h => let ⟨y0, h0, h⟩ := E1.elim h; let ⟨y3, h3, h⟩ := E1.elim h; (q14_13 y0 y3 w R h).more (sub_cons h0 (sub_cons h3 (sub_nil)))), trivial⟩
theorem e14_15 (Z14 : Value → Value → World → Prop) (x0 x3 : Value) (w : World) (R : Value → World → Prop) : B14_15 Z14 x0 x3 w R = Wp P 90 D14 [true, true, true, true] b14_0 [([true, true, true, true, true], fun e w => E1 e (.tmp 0) fun x0 => E1 e (.tmp 3) fun x3 => Z14 x0 x3 w)] (Q14_0 R) [(0, some x0), (3, some x3)] w := by kernel_rfl
theorem q14_15 (x0 x3 : Value) (w : World) (R : Value → World → Prop) (h : S14_15 x0 x3 w R) : Runs P 90 (subC [true, true, true, true] b14_0) (postC P 90 [true, true, true, true] b14_0 (Q14_0 R)) [(0, some x0), (3, some x3)] w :=
  Wp_use mixed (e14_15 (fun x0 x3 w => S14_14 x0 x3 w R) x0 x3 w R) h (fun _ _ _ h => h) ⟨(fun e w h => let ⟨y0, h0, h⟩ := E1.elim h; let ⟨y3, h3, h⟩ := E1.elim h; (q14_14 y0 y3 w R h).more (sub_cons h0 (sub_cons h3 (sub_nil)))), trivial⟩
theorem e14_0 (Z15 : Value → Value → World → Prop) (x0 : Value) (w : World) (R : Value → World → Prop) : B14_0 Z15 x0 w R = Wp P 90 D14 [] b14_0 [([true, true, true, true], fun e w => E1 e (.tmp 0) fun x0 => E1 e (.tmp 3) fun x3 => Z15 x0 x3 w)] (Q14_0 R) [(0, some x0)] w := by kernel_rfl
theorem q14_0 (x0 : Value) (w : World) (R : Value → World → Prop) (h : S14_0 x0 w R) : Runs P 90 (subC [] b14_0) (postC P 90 [] b14_0 (Q14_0 R)) [(0, some x0)] w :=
  Wp_use mixed (e14_0 (fun x0 x3 w => S14_15 x0 x3 w R) x0 w R) h (fun _ _ _ h => h) ⟨(fun e w h => let ⟨y0, h0, h⟩ := E1.elim h; let ⟨y3, h3, h⟩ := E1.elim h; (q14_15 y0 y3 w R h).more (sub_cons h0 (sub_cons h3 (sub_nil)))), trivial⟩
theorem c14 (x0 : Value) (w : World) (R : Value → World → Prop) (h : S14_0 x0 w R) : CallF P 14 #[x0] w R :=
  call_of_runs (args := [x0]) (c := b14_0) (by kernel_rfl) func14 rfl (by kernel_rfl) (q14_0 x0 w R h)

end Go.Proofs.YtdgffjkcpbolmaaGreatDoor.X
