/- Shallow forms of Go functions, written by the tool fx.py of this session, each with the proof that the call does what its form says. No condition. -/
import Derived.Test.YtdgffjkcpbolmaaGreatDoorFxP
namespace Go.Proofs.YtdgffjkcpbolmaaGreatDoor.X
open Go Go.RowKit Go.Proofs.Tryz Go.Proofs.YtdgffjkcpbolmaaGreatDoor.Fx
set_option linter.unusedVariables false
set_option linter.constructorNameAsVariable false
set_option maxRecDepth 100000
/-! ### 200 "crier/crierref5.more" -/
noncomputable abbrev b200_0 : Code := (f200.body).getD .skip
abbrev D200 : Plans := []
abbrev Q200_0 (R : Value → World → Prop) : Post := retQ P f200.results.toList R
def S200_1 (x0 x31 : Value) (w : World) (R : Value → World → Prop) : Prop :=
 condW x31 (
  R (.tuple #[(.int .i64 3), (.int .u8 128), (.int .u8 191)]) w) (
  XV P (binS .eql 5 true x0 (.int .u8 244)) w fun v40 w1 =>
  condW v40 (
   R (.tuple #[(.int .i64 3), (.int .u8 128), (.int .u8 143)]) w1) (
   R (.tuple #[(.int .i64 (-1)), (.int .u8 0), (.int .u8 0)]) w1))
def B200_2 (Z1 : Value → Value → World → Prop) (x0 x21 : Value) (w : World) (R : Value → World → Prop) : Prop :=
 condW x21 (
  R (.tuple #[(.int .i64 2), (.int .u8 128), (.int .u8 191)]) w) (
  XV P (binS .eql 5 true x0 (.int .u8 240)) w fun v30 w1 =>
  condW v30 (
   R (.tuple #[(.int .i64 3), (.int .u8 144), (.int .u8 191)]) w1) (
   XV P (binS .geq 5 true x0 (.int .u8 241)) w1 fun v33 w2 =>
   gd v33 true (
    XV P (binS .leq 5 true x0 (.int .u8 243)) w2 fun v36 w3 =>
    Z1 x0 v36 w3) (
    Z1 x0 (.bool false) w2)))
def S200_2 (x0 x21 : Value) (w : World) (R : Value → World → Prop) : Prop := B200_2 (fun x0 x31 w => S200_1 x0 x31 w R) x0 x21 w R
def B200_3 (Z2 : Value → Value → World → Prop) (x0 x8 : Value) (w : World) (R : Value → World → Prop) : Prop :=
 condW x8 (
  R (.tuple #[(.int .i64 1), (.int .u8 128), (.int .u8 191)]) w) (
  XV P (binS .eql 5 true x0 (.int .u8 224)) w fun v17 w1 =>
  condW v17 (
   R (.tuple #[(.int .i64 2), (.int .u8 160), (.int .u8 191)]) w1) (
   XV P (binS .eql 5 true x0 (.int .u8 237)) w1 fun v20 w2 =>
   condW v20 (
    R (.tuple #[(.int .i64 2), (.int .u8 128), (.int .u8 159)]) w2) (
    XV P (binS .geq 5 true x0 (.int .u8 225)) w2 fun v23 w3 =>
    gd v23 true (
     XV P (binS .leq 5 true x0 (.int .u8 239)) w3 fun v26 w4 =>
     Z2 x0 v26 w4) (
     Z2 x0 (.bool false) w3))))
def S200_3 (x0 x8 : Value) (w : World) (R : Value → World → Prop) : Prop := B200_3 (fun x0 x21 w => S200_2 x0 x21 w R) x0 x8 w R
def B200_0 (Z3 : Value → Value → World → Prop) (x0 : Value) (w : World) (R : Value → World → Prop) : Prop :=
 XV P (binS .lss 5 true x0 (.int .u8 128)) w fun v7 w1 =>
 condW v7 (
  R (.tuple #[(.int .i64 0), (.int .u8 0), (.int .u8 0)]) w1) (
  XV P (binS .geq 5 true x0 (.int .u8 194)) w1 fun v10 w2 =>
  gd v10 true (
   XV P (binS .leq 5 true x0 (.int .u8 223)) w2 fun v13 w3 =>
   Z3 x0 v13 w3) (
   Z3 x0 (.bool false) w2))
def S200_0 (x0 : Value) (w : World) (R : Value → World → Prop) : Prop := B200_0 (fun x0 x8 w => S200_3 x0 x8 w R) x0 w R
theorem e200_1 (x0 x31 : Value) (w : World) (R : Value → World → Prop) : S200_1 x0 x31 w R = Wp P 41 D200 [true, false, false, true, true, true, true, true, true, true, true, true, true, true, true, true] b200_0 [] (Q200_0 R) [(0, some x0), (31, some x31)] w := by kernel_rfl
theorem q200_1 (x0 x31 : Value) (w : World) (R : Value → World → Prop) (h : S200_1 x0 x31 w R) : Runs P 41 (subC [true, false, false, true, true, true, true, true, true, true, true, true, true, true, true, true] b200_0) (postC P 41 [true, false, false, true, true, true, true, true, true, true, true, true, true, true, true, true] b200_0 (Q200_0 R)) [(0, some x0), (31, some x31)] w :=
  Wp_use mixed (e200_1 x0 x31 w R) h (fun _ _ _ h => h) trivial
theorem e200_2 (Z1 : Value → Value → World → Prop) (x0 x21 : Value) (w : World) (R : Value → World → Prop) : B200_2 Z1 x0 x21 w R = Wp P 41 D200 [true, false, false, true, true, true, true, true, true, true, true, true] b200_0 [([true, false, false, true, true, true, true, true, true, true, true, true, true, true, true, true], fun e w => E1 e (.tmp 0) fun x0 => E1 e (.tmp 31) fun x31 => Z1 x0 x31 w)] (Q200_0 R) [(0, some x0), (21, some x21)] w := by kernel_rfl
theorem q200_2 (x0 x21 : Value) (w : World) (R : Value → World → Prop) (h : S200_2 x0 x21 w R) : Runs P 41 (subC [true, false, false, true, true, true, true, true, true, true, true, true] b200_0) (postC P 41 [true, false, false, true, true, true, true, true, true, true, true, true] b200_0 (Q200_0 R)) [(0, some x0), (21, some x21)] w :=
  Wp_use mixed (e200_2 (fun x0 x31 w => S200_1 x0 x31 w R) x0 x21 w R) h (fun _ _ _ h => h) ⟨(fun e w h => let ⟨y0, h0, h⟩ := E1.elim h; let ⟨y31, h31, h⟩ := E1.elim h; (q200_1 y0 y31 w R h).more (sub_cons h0 (sub_cons h31 (sub_nil)))), trivial⟩
theorem e200_3 (Z2 : Value → Value → World → Prop) (x0 x8 : Value) (w : World) (R : Value → World → Prop) : B200_3 Z2 x0 x8 w R = Wp P 41 D200 [true, false, false, true, true, true] b200_0 [([true, false, false, true, true, true, true, true, true, true, true, true], fun e w => E1 e (.tmp 0) fun x0 => E1 e (.tmp 21) fun x21 => Z2 x0 x21 w)] (Q200_0 R) [(0, some x0), (8, some x8)] w := by kernel_rfl
theorem q200_3 (x0 x8 : Value) (w : World) (R : Value → World → Prop) (h : S200_3 x0 x8 w R) : Runs P 41 (subC [true, false, false, true, true, true] b200_0) (postC P 41 [true, false, false, true, true, true] b200_0 (Q200_0 R)) [(0, some x0), (8, some x8)] w :=
  Wp_use mixed (e200_3 (fun x0 x21 w => S200_2 x0 x21 w R) x0 x8 w R) h (fun _ _ _ h => h) ⟨(fun e w h => let ⟨y0, h0, h⟩ := E1.elim h; let ⟨y21, h21, h⟩ := E1.elim h; (q200_2 y0 y21 w R h).more (sub_cons h0 (sub_cons h21 (sub_nil)))), trivial⟩
theorem e200_0 (Z3 : Value → Value → World → Prop) (x0 : Value) (w : World) (R : Value → World → Prop) : B200_0 Z3 x0 w R = Wp P 41 D200 [] b200_0 [([true, false, false, true, true, true], fun e w => E1 e (.tmp 0) fun x0 => E1 e (.tmp 8) fun x8 => Z3 x0 x8 w)] (Q200_0 R) [(0, some x0)] w := by kernel_rfl
theorem q200_0 (x0 : Value) (w : World) (R : Value → World → Prop) (h : S200_0 x0 w R) : Runs P 41 (subC [] b200_0) (postC P 41 [] b200_0 (Q200_0 R)) [(0, some x0)] w :=
  Wp_use mixed (e200_0 (fun x0 x8 w => S200_3 x0 x8 w R) x0 w R) h (fun _ _ _ h => h) ⟨(fun e w h => let ⟨y0, h0, h⟩ := E1.elim h; let ⟨y8, h8, h⟩ := E1.elim h; (q200_3 y0 y8 w R h).more (sub_cons h0 (sub_cons h8 (sub_nil)))), trivial⟩
theorem c200 (x0 : Value) (w : World) (R : Value → World → Prop) (h : S200_0 x0 w R) : CallF P 200 #[x0] w R :=
  call_of_runs (args := [x0]) (c := b200_0) (by kernel_rfl) func200 rfl (by kernel_rfl) (q200_0 x0 w R h)

/-! ### 129 "crier/crierref5.Text" -/
noncomputable abbrev b129_0 : Code := (f129.body).getD .skip
abbrev D129 : Plans := []
abbrev Q129_0 (R : Value → World → Prop) : Post := retQ P f129.results.toList R
def S129_4 (x0 x3 x4 x5 x6 x7 : Value) (w : World) (K1 : Value → Value → World → Prop) (K2 : Value → Value → Value → Value → Value → Value → World → Prop) (R : Value → World → Prop) : Prop :=
 XV P (binS .leq 3 false x7 x4) w fun v40 w1 =>
 condW v40 (
  XV P (binS .add 3 false x3 x7) w1 fun v46 w2 =>
  XV P (Instr.index 9 x0 v46) w2 fun v47 w3 =>
  XV P (binS .lss 5 false v47 x5) w3 fun v50 w4 =>
  gd v50 false (
   XV P (binS .gtr 5 false v47 x6) w4 fun v54 w5 =>
   condW v54 (
    R (.bool false) w5) (
    XV P (binS .add 3 true x7 (.int .i64 1)) w5 fun v42 w6 =>
    K2 x0 x3 x4 (.int .u8 128) (.int .u8 191) v42 w6)) (
   R (.bool false) w4)) (
  XV P (binS .add 3 false x3 x4) w1 fun v58 w7 =>
  XV P (binS .add 3 true v58 (.int .i64 1)) w7 fun v59 w8 =>
  K1 x0 v59 w8)
def S129_3 (x0 x3 x4 x5 x6 x7 : Value) (w : World) (K1 : Value → Value → World → Prop) (R : Value → World → Prop) : Prop :=
 LoopP (fun (s : Value × Value × Value × Value × Value × Value) w K => S129_4 s.1 s.2.1 s.2.2.1 s.2.2.2.1 s.2.2.2.2.1 s.2.2.2.2.2 w K1 (fun x0 x3 x4 x5 x6 x7 w => K (x0, x3, x4, x5, x6, x7) w) R) (x0, x3, x4, x5, x6, x7) w
def B129_2 (Z3 : Value → Value → Value → Value → Value → Value → World → Prop) (x0 x3 : Value) (w : World) (K1 : Value → Value → World → Prop) (R : Value → World → Prop) : Prop :=
 XV P (Builtin.len_ #[9] 3 #[x0]) w fun v14 w1 =>
 XV P (binS .lss 3 false x3 v14) w1 fun v15 w2 =>
 condW v15 (
  XV P (Instr.index 9 x0 x3) w2 fun v18 w3 =>
  XV P (binS .eql 5 true v18 (.int .u8 0)) w3 fun v19 w4 =>
  condW v19 (
   R (.bool false) w4) (
   XV P (Instr.index 9 x0 x3) w4 fun v23 w5 =>
   CallF P 200 #[v23] w5 fun v24 w6 =>
   XV P (Instr.extract v24 0) w6 fun v25 w7 =>
   XV P (Instr.extract v24 1) w7 fun v26 w8 =>
   XV P (Instr.extract v24 2) w8 fun v27 w9 =>
   XV P (binS .lss 3 true v25 (.int .i64 0)) w9 fun v29 w10 =>
   gd v29 false (
    XV P (binS .add 3 false x3 v25) w10 fun v33 w11 =>
    XV P (Builtin.len_ #[9] 3 #[x0]) w11 fun v35 w12 =>
    XV P (binS .geq 3 false v33 v35) w12 fun v36 w13 =>
    condW v36 (
     R (.bool false) w13) (
     Z3 x0 x3 v25 v26 v27 (.int .i64 1) w13)) (
    R (.bool false) w10))) (
  R (.bool true) w2)
def S129_2 (x0 x3 : Value) (w : World) (K1 : Value → Value → World → Prop) (R : Value → World → Prop) : Prop := B129_2 (fun x0 x3 x4 x5 x6 x7 w => S129_3 x0 x3 x4 x5 x6 x7 w K1 R) x0 x3 w K1 R
def S129_1 (x0 x3 : Value) (w : World) (R : Value → World → Prop) : Prop :=
 LoopP (fun (s : Value × Value) w K => S129_2 s.1 s.2 w (fun x0 x3 w => K (x0, x3) w) R) (x0, x3) w
def B129_0 (Z1 : Value → Value → World → Prop) (x0 : Value) (w : World) (R : Value → World → Prop) : Prop :=
 XV P (Builtin.len_ #[9] 3 #[x0]) w fun v10 w1 =>
 XV P (binS .gtr 3 true v10 (.int .i64 65535)) w1 fun v11 w2 =>
 condW v11 (
  R (.bool false) w2) (
  Z1 x0 (.int .i64 0) w2)
def S129_0 (x0 : Value) (w : World) (R : Value → World → Prop) : Prop := B129_0 (fun x0 x3 w => S129_1 x0 x3 w R) x0 w R
noncomputable abbrev b129_1 : Code := match subC [true, true, true, false, false] b129_0 with | .loop x => x | _ => .skip
abbrev V129_1 (K : Value → Value → World → Prop) (e : Env) (w : World) : Prop := E1 e (.tmp 0) fun x0 => E1 e (.tmp 3) fun x3 => K x0 x3 w
abbrev Q129_1 (K1 : Value → Value → World → Prop) (R : Value → World → Prop) : Post := thenQ (V129_1 K1) (postC P 60 [true, true, true, false, false] b129_0 (Q129_0 R))
noncomputable abbrev b129_2 : Code := match subC [true, false, true, true, true, false, true, false] b129_1 with | .loop x => x | _ => .skip
abbrev V129_2 (K : Value → Value → Value → Value → Value → Value → World → Prop) (e : Env) (w : World) : Prop := E1 e (.tmp 0) fun x0 => E1 e (.tmp 3) fun x3 => E1 e (.tmp 4) fun x4 => E1 e (.tmp 5) fun x5 => E1 e (.tmp 6) fun x6 => E1 e (.tmp 7) fun x7 => K x0 x3 x4 x5 x6 x7 w
abbrev Q129_2 (K1 : Value → Value → World → Prop) (K2 : Value → Value → Value → Value → Value → Value → World → Prop) (R : Value → World → Prop) : Post := thenQ (V129_2 K2) (postC P 60 [true, false, true, true, true, false, true, false] b129_1 (Q129_1 K1 R))
theorem e129_4 (x0 x3 x4 x5 x6 x7 : Value) (w : World) (K1 : Value → Value → World → Prop) (K2 : Value → Value → Value → Value → Value → Value → World → Prop) (R : Value → World → Prop) : S129_4 x0 x3 x4 x5 x6 x7 w K1 K2 R = Wp P 60 D129 [] b129_2 [] (thenQ (V129_2 K2) (postW P 60 D129 [true, false, true, true, true, false, true, false] b129_1 [] (thenQ (V129_1 K1) (postW P 60 D129 [true, true, true, false, false] b129_0 [] (Q129_0 R))))) [(0, some x0), (3, some x3), (4, some x4), (5, some x5), (6, some x6), (7, some x7)] w := by kernel_rfl
theorem q129_4 (x0 x3 x4 x5 x6 x7 : Value) (w : World) (K1 : Value → Value → World → Prop) (K2 : Value → Value → Value → Value → Value → Value → World → Prop) (R : Value → World → Prop) (h : S129_4 x0 x3 x4 x5 x6 x7 w K1 K2 R) : Runs P 60 (subC [] b129_2) (postC P 60 [] b129_2 (Q129_2 K1 K2 R)) [(0, some x0), (3, some x3), (4, some x4), (5, some x5), (6, some x6), (7, some x7)] w :=
  Wp_use mixed (e129_4 x0 x3 x4 x5 x6 x7 w K1 K2 R) h (thenQ_le (postW_le mixed _ _ _ _ _ (thenQ_le (postW_le mixed _ _ _ _ _ (fun _ _ _ h => h) trivial)) trivial)) trivial
theorem q129_3 (x0 x3 x4 x5 x6 x7 : Value) (w : World) (K1 : Value → Value → World → Prop) (R : Value → World → Prop) (h : S129_3 x0 x3 x4 x5 x6 x7 w K1 R) : Runs P 60 (subC [true, false, true, true, true, false, true, false] b129_1) (postC P 60 [true, false, true, true, true, false, true, false] b129_1 (Q129_1 K1 R)) [(0, some x0), (3, some x3), (4, some x4), (5, some x5), (6, some x6), (7, some x7)] w :=
  Runs.loop (σ := Value × Value × Value × Value × Value × Value) (fun s => [(0, some s.1), (3, some s.2.1), (4, some s.2.2.1), (5, some s.2.2.2.1), (6, some s.2.2.2.2.1), (7, some s.2.2.2.2.2)]) (fun e k => E1 e (.tmp 0) fun x0 => E1 e (.tmp 3) fun x3 => E1 e (.tmp 4) fun x4 => E1 e (.tmp 5) fun x5 => E1 e (.tmp 6) fun x6 => E1 e (.tmp 7) fun x7 => k (x0, x3, x4, x5, x6, x7)) (fun e k h => let ⟨y0, h0, h⟩ := E1.elim h; let ⟨y3, h3, h⟩ := E1.elim h; let ⟨y4, h4, h⟩ := E1.elim h; let ⟨y5, h5, h⟩ := E1.elim h; let ⟨y6, h6, h⟩ := E1.elim h; let ⟨y7, h7, h⟩ := E1.elim h; ⟨(y0, y3, y4, y5, y6, y7), h, (sub_cons h0 (sub_cons h3 (sub_cons h4 (sub_cons h5 (sub_cons h6 (sub_cons h7 (sub_nil)))))))⟩) (fun s w K h => q129_4 s.1 s.2.1 s.2.2.1 s.2.2.2.1 s.2.2.2.2.1 s.2.2.2.2.2 w K1 (fun x0 x3 x4 x5 x6 x7 w => K (x0, x3, x4, x5, x6, x7) w) R h) h
theorem e129_2 (Z3 : Value → Value → Value → Value → Value → Value → World → Prop) (x0 x3 : Value) (w : World) (K1 : Value → Value → World → Prop) (R : Value → World → Prop) : B129_2 Z3 x0 x3 w K1 R = Wp P 60 D129 [] b129_1 [([true, false, true, true, true, false, true, false], fun e w => E1 e (.tmp 0) fun x0 => E1 e (.tmp 3) fun x3 => E1 e (.tmp 4) fun x4 => E1 e (.tmp 5) fun x5 => E1 e (.tmp 6) fun x6 => E1 e (.tmp 7) fun x7 => Z3 x0 x3 x4 x5 x6 x7 w)] (thenQ (V129_1 K1) (postW P 60 D129 [true, true, true, false, false] b129_0 [] (Q129_0 R))) [(0, some x0), (3, some x3)] w := by kernel_rfl
theorem q129_2 (x0 x3 : Value) (w : World) (K1 : Value → Value → World → Prop) (R : Value → World → Prop) (h : S129_2 x0 x3 w K1 R) : Runs P 60 (subC [] b129_1) (postC P 60 [] b129_1 (Q129_1 K1 R)) [(0, some x0), (3, some x3)] w :=
  Wp_use mixed (e129_2 (fun x0 x3 x4 x5 x6 x7 w => S129_3 x0 x3 x4 x5 x6 x7 w K1 R) x0 x3 w K1 R) h (thenQ_le (postW_le mixed _ _ _ _ _ (fun _ _ _ h => h) trivial)) ⟨(fun e w h => let ⟨y0, h0, h⟩ := E1.elim h; let ⟨y3, h3, h⟩ := E1.elim h; let ⟨y4, h4, h⟩ := E1.elim h; let ⟨y5, h5, h⟩ := E1.elim h; let ⟨y6, h6, h⟩ := E1.elim h; let ⟨y7, h7, h⟩ := E1.elim h; (q129_3 y0 y3 y4 y5 y6 y7 w K1 R h).more (sub_cons h0 (sub_cons h3 (sub_cons h4 (sub_cons h5 (sub_cons h6 (sub_cons h7 (sub_nil)))))))), trivial⟩
theorem q129_1 (x0 x3 : Value) (w : World) (R : Value → World → Prop) (h : S129_1 x0 x3 w R) : Runs P 60 (subC [true, true, true, false, false] b129_0) (postC P 60 [true, true, true, false, false] b129_0 (Q129_0 R)) [(0, some x0), (3, some x3)] w :=
  Runs.loop (σ := Value × Value) (fun s => [(0, some s.1), (3, some s.2)]) (fun e k => E1 e (.tmp 0) fun x0 => E1 e (.tmp 3) fun x3 => k (x0, x3)) (fun e k h => let ⟨y0, h0, h⟩ := E1.elim h; let ⟨y3, h3, h⟩ := E1.elim h; ⟨(y0, y3), h, (sub_cons h0 (sub_cons h3 (sub_nil)))⟩) (fun s w K h => q129_2 s.1 s.2 w (fun x0 x3 w => K (x0, x3) w) R h) h
theorem e129_0 (Z1 : Value → Value → World → Prop) (x0 : Value) (w : World) (R : Value → World → Prop) : B129_0 Z1 x0 w R = Wp P 60 D129 [] b129_0 [([true, true, true, false, false], fun e w => E1 e (.tmp 0) fun x0 => E1 e (.tmp 3) fun x3 => Z1 x0 x3 w)] (Q129_0 R) [(0, some x0)] w := by kernel_rfl
theorem q129_0 (x0 : Value) (w : World) (R : Value → World → Prop) (h : S129_0 x0 w R) : Runs P 60 (subC [] b129_0) (postC P 60 [] b129_0 (Q129_0 R)) [(0, some x0)] w :=
  Wp_use mixed (e129_0 (fun x0 x3 w => S129_1 x0 x3 w R) x0 w R) h (fun _ _ _ h => h) ⟨(fun e w h => let ⟨y0, h0, h⟩ := E1.elim h; let ⟨y3, h3, h⟩ := E1.elim h; (q129_1 y0 y3 w R h).more (sub_cons h0 (sub_cons h3 (sub_nil)))), trivial⟩
theorem c129 (x0 : Value) (w : World) (R : Value → World → Prop) (h : S129_0 x0 w R) : CallF P 129 #[x0] w R :=
  call_of_runs (args := [x0]) (c := b129_0) (by kernel_rfl) func129 rfl (by kernel_rfl) (q129_0 x0 w R h)

/-! ### 202 "crier/crierref5.sign" -/
noncomputable abbrev b202_0 : Code := (f202.body).getD .skip
abbrev D202 : Plans := []
abbrev Q202_0 (R : Value → World → Prop) : Post := retQ P f202.results.toList R
def S202_2 (x0 x3 : Value) (w : World) (K1 : Value → Value → World → Prop) (R : Value → World → Prop) : Prop :=
 XV P (Builtin.len_ #[9] 3 #[x0]) w fun v6 w1 =>
 XV P (binS .lss 3 false x3 v6) w1 fun v7 w2 =>
 condW v7 (
  XV P (Instr.index 9 x0 x3) w2 fun v12 w3 =>
  XV P (binS .eql 5 true v12 (.int .u8 43)) w3 fun v13 w4 =>
  gd v13 false (
   XV P (Instr.index 9 x0 x3) w4 fun v17 w5 =>
   XV P (binS .eql 5 true v17 (.int .u8 35)) w5 fun v18 w6 =>
   condW v18 (
    R (.bool true) w6) (
    XV P (binS .add 3 true x3 (.int .i64 1)) w6 fun v9 w7 =>
    K1 x0 v9 w7)) (
   R (.bool true) w4)) (
  R (.bool false) w2)
def S202_1 (x0 x3 : Value) (w : World) (R : Value → World → Prop) : Prop :=
 LoopP (fun (s : Value × Value) w K => S202_2 s.1 s.2 w (fun x0 x3 w => K (x0, x3) w) R) (x0, x3) w
def B202_0 (Z1 : Value → Value → World → Prop) (x0 : Value) (w : World) (R : Value → World → Prop) : Prop :=
 Z1 x0 (.int .i64 0) w
def S202_0 (x0 : Value) (w : World) (R : Value → World → Prop) : Prop := B202_0 (fun x0 x3 w => S202_1 x0 x3 w R) x0 w R
noncomputable abbrev b202_1 : Code := match subC [true, false, true, false] b202_0 with | .loop x => x | _ => .skip
abbrev V202_1 (K : Value → Value → World → Prop) (e : Env) (w : World) : Prop := E1 e (.tmp 0) fun x0 => E1 e (.tmp 3) fun x3 => K x0 x3 w
abbrev Q202_1 (K1 : Value → Value → World → Prop) (R : Value → World → Prop) : Post := thenQ (V202_1 K1) (postC P 20 [true, false, true, false] b202_0 (Q202_0 R))
theorem e202_2 (x0 x3 : Value) (w : World) (K1 : Value → Value → World → Prop) (R : Value → World → Prop) : S202_2 x0 x3 w K1 R = Wp P 20 D202 [] b202_1 [] (thenQ (V202_1 K1) (postW P 20 D202 [true, false, true, false] b202_0 [] (Q202_0 R))) [(0, some x0), (3, some x3)] w := by kernel_rfl
theorem q202_2 (x0 x3 : Value) (w : World) (K1 : Value → Value → World → Prop) (R : Value → World → Prop) (h : S202_2 x0 x3 w K1 R) : Runs P 20 (subC [] b202_1) (postC P 20 [] b202_1 (Q202_1 K1 R)) [(0, some x0), (3, some x3)] w :=
  Wp_use mixed (e202_2 x0 x3 w K1 R) h (thenQ_le (postW_le mixed _ _ _ _ _ (fun _ _ _ h => h) trivial)) trivial
theorem q202_1 (x0 x3 : Value) (w : World) (R : Value → World → Prop) (h : S202_1 x0 x3 w R) : Runs P 20 (subC [true, false, true, false] b202_0) (postC P 20 [true, false, true, false] b202_0 (Q202_0 R)) [(0, some x0), (3, some x3)] w :=
  Runs.loop (σ := Value × Value) (fun s => [(0, some s.1), (3, some s.2)]) (fun e k => E1 e (.tmp 0) fun x0 => E1 e (.tmp 3) fun x3 => k (x0, x3)) (fun e k h => let ⟨y0, h0, h⟩ := E1.elim h; let ⟨y3, h3, h⟩ := E1.elim h; ⟨(y0, y3), h, (sub_cons h0 (sub_cons h3 (sub_nil)))⟩) (fun s w K h => q202_2 s.1 s.2 w (fun x0 x3 w => K (x0, x3) w) R h) h
theorem e202_0 (Z1 : Value → Value → World → Prop) (x0 : Value) (w : World) (R : Value → World → Prop) : B202_0 Z1 x0 w R = Wp P 20 D202 [] b202_0 [([true, false, true, false], fun e w => E1 e (.tmp 0) fun x0 => E1 e (.tmp 3) fun x3 => Z1 x0 x3 w)] (Q202_0 R) [(0, some x0)] w := by kernel_rfl
theorem q202_0 (x0 : Value) (w : World) (R : Value → World → Prop) (h : S202_0 x0 w R) : Runs P 20 (subC [] b202_0) (postC P 20 [] b202_0 (Q202_0 R)) [(0, some x0)] w :=
  Wp_use mixed (e202_0 (fun x0 x3 w => S202_1 x0 x3 w R) x0 w R) h (fun _ _ _ h => h) ⟨(fun e w h => let ⟨y0, h0, h⟩ := E1.elim h; let ⟨y3, h3, h⟩ := E1.elim h; (q202_1 y0 y3 w R h).more (sub_cons h0 (sub_cons h3 (sub_nil)))), trivial⟩
theorem c202 (x0 : Value) (w : World) (R : Value → World → Prop) (h : S202_0 x0 w R) : CallF P 202 #[x0] w R :=
  call_of_runs (args := [x0]) (c := b202_0) (by kernel_rfl) func202 rfl (by kernel_rfl) (q202_0 x0 w R h)

/-! ### 136 "crier/crierref5.Check" -/
noncomputable abbrev b136_0 : Code := (f136.body).getD .skip
abbrev D136 : Plans := []
abbrev Q136_0 (R : Value → World → Prop) : Post := retQ P f136.results.toList R
def S136_0 (x0 : Value) (w : World) (R : Value → World → Prop) : Prop :=
 XV P (Builtin.len_ #[9] 3 #[x0]) w fun v4 w1 =>
 XV P (binS .eql 3 true v4 (.int .i64 0)) w1 fun v5 w2 =>
 condW v5 (
  R (.int .i64 50) w2) (
  CallF P 129 #[x0] w2 fun v7 w3 =>
  XV P (Op.unary .not v7) w3 fun v8 w4 =>
  condW v8 (
   R (.int .i64 51) w4) (
   CallF P 202 #[x0] w4 fun v10 w5 =>
   condW v10 (
    R (.int .i64 52) w5) (
    R (.int .i64 0) w5)))
theorem e136_0 (x0 : Value) (w : World) (R : Value → World → Prop) : S136_0 x0 w R = Wp P 11 D136 [] b136_0 [] (Q136_0 R) [(0, some x0)] w := by kernel_rfl
theorem q136_0 (x0 : Value) (w : World) (R : Value → World → Prop) (h : S136_0 x0 w R) : Runs P 11 (subC [] b136_0) (postC P 11 [] b136_0 (Q136_0 R)) [(0, some x0)] w :=
  Wp_use mixed (e136_0 x0 w R) h (fun _ _ _ h => h) trivial
theorem c136 (x0 : Value) (w : World) (R : Value → World → Prop) (h : S136_0 x0 w R) : CallF P 136 #[x0] w R :=
  call_of_runs (args := [x0]) (c := b136_0) (by kernel_rfl) func136 rfl (by kernel_rfl) (q136_0 x0 w R h)

/-! ### 209 "crier/crierref5.Levels" -/
noncomputable abbrev b209_0 : Code := (f209.body).getD .skip
abbrev D209 : Plans := []
abbrev Q209_0 (R : Value → World → Prop) : Post := retQ P f209.results.toList R
def S209_2 (x0 x3 x4 x5 : Value) (w : World) (K1 : Value → Value → Value → Value → World → Prop) (R : Value → World → Prop) : Prop :=
 XV P (Builtin.len_ #[9] 3 #[x0]) w fun v8 w1 =>
 XV P (binS .lss 3 false x5 v8) w1 fun v9 w2 =>
 condW v9 (
  XV P (Instr.index 9 x0 x5) w2 fun v14 w3 =>
  XV P (binS .eql 5 true v14 (.int .u8 47)) w3 fun v15 w4 =>
  condW v15 (
   XV P (Instr.sliceAt 9 x0 (some x4) (some x5) none) w4 fun v20 w5 =>
   XV P (Instr.buildSlice 27 1 #[(0, v20)]) w5 fun v21 w6 =>
   XV P (Builtin.append_ #[27, 27] 27 #[x3, v21]) w6 fun v22 w7 =>
   XV P (binS .add 3 true x5 (.int .i64 1)) w7 fun v24 w8 =>
   XV P (binS .add 3 true x5 (.int .i64 1)) w8 fun v11 w9 =>
   K1 x0 v22 v24 v11 w9) (
   XV P (binS .add 3 true x5 (.int .i64 1)) w4 fun v11_1 w10 =>
   K1 x0 x3 x4 v11_1 w10)) (
  XV P (Instr.sliceAt 9 x0 (some x4) none none) w2 fun v28 w11 =>
  XV P (Instr.buildSlice 27 1 #[(0, v28)]) w11 fun v29 w12 =>
  XV P (Builtin.append_ #[27, 27] 27 #[x3, v29]) w12 fun v30 w13 =>
  R v30 w13)
def S209_1 (x0 x3 x4 x5 : Value) (w : World) (R : Value → World → Prop) : Prop :=
 LoopP (fun (s : Value × Value × Value × Value) w K => S209_2 s.1 s.2.1 s.2.2.1 s.2.2.2 w (fun x0 x3 x4 x5 w => K (x0, x3, x4, x5) w) R) (x0, x3, x4, x5) w
def B209_0 (Z1 : Value → Value → Value → Value → World → Prop) (x0 : Value) (w : World) (R : Value → World → Prop) : Prop :=
 Z1 x0 (.slice none 0 0) (.int .i64 0) (.int .i64 0) w
def S209_0 (x0 : Value) (w : World) (R : Value → World → Prop) : Prop := B209_0 (fun x0 x3 x4 x5 w => S209_1 x0 x3 x4 x5 w R) x0 w R
noncomputable abbrev b209_1 : Code := match subC [true, true, true, false, true, false] b209_0 with | .loop x => x | _ => .skip
abbrev V209_1 (K : Value → Value → Value → Value → World → Prop) (e : Env) (w : World) : Prop := E1 e (.tmp 0) fun x0 => E1 e (.tmp 3) fun x3 => E1 e (.tmp 4) fun x4 => E1 e (.tmp 5) fun x5 => K x0 x3 x4 x5 w
abbrev Q209_1 (K1 : Value → Value → Value → Value → World → Prop) (R : Value → World → Prop) : Post := thenQ (V209_1 K1) (postC P 31 [true, true, true, false, true, false] b209_0 (Q209_0 R))
theorem e209_2 (x0 x3 x4 x5 : Value) (w : World) (K1 : Value → Value → Value → Value → World → Prop) (R : Value → World → Prop) : S209_2 x0 x3 x4 x5 w K1 R = Wp P 31 D209 [] b209_1 [] (thenQ (V209_1 K1) (postW P 31 D209 [true, true, true, false, true, false] b209_0 [] (Q209_0 R))) [(0, some x0), (3, some x3), (4, some x4), (5, some x5)] w := by kernel_rfl
theorem q209_2 (x0 x3 x4 x5 : Value) (w : World) (K1 : Value → Value → Value → Value → World → Prop) (R : Value → World → Prop) (h : S209_2 x0 x3 x4 x5 w K1 R) : Runs P 31 (subC [] b209_1) (postC P 31 [] b209_1 (Q209_1 K1 R)) [(0, some x0), (3, some x3), (4, some x4), (5, some x5)] w :=
  Wp_use mixed (e209_2 x0 x3 x4 x5 w K1 R) h (thenQ_le (postW_le mixed _ _ _ _ _ (fun _ _ _ h => h) trivial)) trivial
theorem q209_1 (x0 x3 x4 x5 : Value) (w : World) (R : Value → World → Prop) (h : S209_1 x0 x3 x4 x5 w R) : Runs P 31 (subC [true, true, true, false, true, false] b209_0) (postC P 31 [true, true, true, false, true, false] b209_0 (Q209_0 R)) [(0, some x0), (3, some x3), (4, some x4), (5, some x5)] w :=
  Runs.loop (σ := Value × Value × Value × Value) (fun s => [(0, some s.1), (3, some s.2.1), (4, some s.2.2.1), (5, some s.2.2.2)]) (fun e k => E1 e (.tmp 0) fun x0 => E1 e (.tmp 3) fun x3 => E1 e (.tmp 4) fun x4 => E1 e (.tmp 5) fun x5 => k (x0, x3, x4, x5)) (fun e k h => let ⟨y0, h0, h⟩ := E1.elim h; let ⟨y3, h3, h⟩ := E1.elim h; let ⟨y4, h4, h⟩ := E1.elim h; let ⟨y5, h5, h⟩ := E1.elim h; ⟨(y0, y3, y4, y5), h, (sub_cons h0 (sub_cons h3 (sub_cons h4 (sub_cons h5 (sub_nil)))))⟩) (fun s w K h => q209_2 s.1 s.2.1 s.2.2.1 s.2.2.2 w (fun x0 x3 x4 x5 w => K (x0, x3, x4, x5) w) R h) h
theorem e209_0 (Z1 : Value → Value → Value → Value → World → Prop) (x0 : Value) (w : World) (R : Value → World → Prop) : B209_0 Z1 x0 w R = Wp P 31 D209 [] b209_0 [([true, true, true, false, true, false], fun e w => E1 e (.tmp 0) fun x0 => E1 e (.tmp 3) fun x3 => E1 e (.tmp 4) fun x4 => E1 e (.tmp 5) fun x5 => Z1 x0 x3 x4 x5 w)] (Q209_0 R) [(0, some x0)] w := by kernel_rfl
theorem q209_0 (x0 : Value) (w : World) (R : Value → World → Prop) (h : S209_0 x0 w R) : Runs P 31 (subC [] b209_0) (postC P 31 [] b209_0 (Q209_0 R)) [(0, some x0)] w :=
  Wp_use mixed (e209_0 (fun x0 x3 x4 x5 w => S209_1 x0 x3 x4 x5 w R) x0 w R) h (fun _ _ _ h => h) ⟨(fun e w h => let ⟨y0, h0, h⟩ := E1.elim h; let ⟨y3, h3, h⟩ := E1.elim h; let ⟨y4, h4, h⟩ := E1.elim h; let ⟨y5, h5, h⟩ := E1.elim h; (q209_1 y0 y3 y4 y5 w R h).more (sub_cons h0 (sub_cons h3 (sub_cons h4 (sub_cons h5 (sub_nil)))))), trivial⟩
theorem c209 (x0 : Value) (w : World) (R : Value → World → Prop) (h : S209_0 x0 w R) : CallF P 209 #[x0] w R :=
  call_of_runs (args := [x0]) (c := b209_0) (by kernel_rfl) func209 rfl (by kernel_rfl) (q209_0 x0 w R h)

/-! ### 201 "crier/crierref5.CheckFilter" -/
noncomputable abbrev b201_0 : Code := (f201.body).getD .skip
abbrev D201 : Plans := []
abbrev Q201_0 (R : Value → World → Prop) : Post := retQ P f201.results.toList R
def S201_2 (x3 x4 : Value) (w : World) (K1 : Value → Value → World → Prop) (R : Value → World → Prop) : Prop :=
 XV P (Builtin.len_ #[27] 3 #[x3]) w fun v15 w1 =>
 XV P (binS .lss 3 false x4 v15) w1 fun v16 w2 =>
 condW v16 (
  LI P 27 9 x3 x4 w2 fun v22 w4 =>
  CallF P 202 #[v22] w4 fun v23 w5 =>
  gd v23 true (
   LI P 27 9 x3 x4 w5 fun v28 w7 =>
   XV P (Builtin.len_ #[9] 3 #[v28]) w7 fun v29 w8 =>
   XV P (binS .gtr 3 true v29 (.int .i64 1)) w8 fun v30 w9 =>
   gd v30 false (
    LI P 27 9 x3 x4 w9 fun v36 w11 =>
    XV P (binS .eql 9 true v36 (.string { data := #[35] })) w11 fun v37 w12 =>
    gd v37 true (
     XV P (binS .add 3 true x4 (.int .i64 1)) w12 fun v40 w13 =>
     XV P (Builtin.len_ #[27] 3 #[x3]) w13 fun v42 w14 =>
     XV P (binS .lss 3 false v40 v42) w14 fun v43 w15 =>
     condW v43 (
      R (.int .i64 52) w15) (
      XV P (binS .add 3 true x4 (.int .i64 1)) w15 fun v18 w16 =>
      K1 x3 v18 w16)) (
     XV P (binS .add 3 true x4 (.int .i64 1)) w12 fun v18_1 w17 =>
     K1 x3 v18_1 w17)) (
    R (.int .i64 52) w9)) (
   LI P 27 9 x3 x4 w5 fun v36_1 w19 =>
   XV P (binS .eql 9 true v36_1 (.string { data := #[35] })) w19 fun v37_1 w20 =>
   gd v37_1 true (
    XV P (binS .add 3 true x4 (.int .i64 1)) w20 fun v40_1 w21 =>
    XV P (Builtin.len_ #[27] 3 #[x3]) w21 fun v42_1 w22 =>
    XV P (binS .lss 3 false v40_1 v42_1) w22 fun v43_1 w23 =>
    condW v43_1 (
     R (.int .i64 52) w23) (
     XV P (binS .add 3 true x4 (.int .i64 1)) w23 fun v18_2 w24 =>
     K1 x3 v18_2 w24)) (
    XV P (binS .add 3 true x4 (.int .i64 1)) w20 fun v18_3 w25 =>
    K1 x3 v18_3 w25))) (
  R (.int .i64 0) w2)
def S201_1 (x3 x4 : Value) (w : World) (R : Value → World → Prop) : Prop :=
 LoopP (fun (s : Value × Value) w K => S201_2 s.1 s.2 w (fun x3 x4 w => K (x3, x4) w) R) (x3, x4) w
def B201_0 (Z1 : Value → Value → World → Prop) (x0 : Value) (w : World) (R : Value → World → Prop) : Prop :=
 XV P (Builtin.len_ #[9] 3 #[x0]) w fun v6 w1 =>
 XV P (binS .eql 3 true v6 (.int .i64 0)) w1 fun v7 w2 =>
 condW v7 (
  R (.int .i64 50) w2) (
  CallF P 129 #[x0] w2 fun v9 w3 =>
  XV P (Op.unary .not v9) w3 fun v10 w4 =>
  condW v10 (
   R (.int .i64 51) w4) (
   CallF P 209 #[x0] w4 fun v12 w5 =>
   Z1 v12 (.int .i64 0) w5))
def S201_0 (x0 : Value) (w : World) (R : Value → World → Prop) : Prop := B201_0 (fun x3 x4 w => S201_1 x3 x4 w R) x0 w R
noncomputable abbrev b201_1 : Code := match subC [true, true, true, true, false, true, false] b201_0 with | .loop x => x | _ => .skip
abbrev V201_1 (K : Value → Value → World → Prop) (e : Env) (w : World) : Prop := E1 e (.tmp 3) fun x3 => E1 e (.tmp 4) fun x4 => K x3 x4 w
abbrev Q201_1 (K1 : Value → Value → World → Prop) (R : Value → World → Prop) : Post := thenQ (V201_1 K1) (postC P 46 [true, true, true, true, false, true, false] b201_0 (Q201_0 R))
theorem e201_2 (x3 x4 : Value) (w : World) (K1 : Value → Value → World → Prop) (R : Value → World → Prop) : S201_2 x3 x4 w K1 R = Wp P 46 D201 [] b201_1 [] (thenQ (V201_1 K1) (postW P 46 D201 [true, true, true, true, false, true, false] b201_0 [] (Q201_0 R))) [(3, some x3), (4, some x4)] w := by kernel_rfl
theorem q201_2 (x3 x4 : Value) (w : World) (K1 : Value → Value → World → Prop) (R : Value → World → Prop) (h : S201_2 x3 x4 w K1 R) : Runs P 46 (subC [] b201_1) (postC P 46 [] b201_1 (Q201_1 K1 R)) [(3, some x3), (4, some x4)] w :=
  Wp_use mixed (e201_2 x3 x4 w K1 R) h (thenQ_le (postW_le mixed _ _ _ _ _ (fun _ _ _ h => h) trivial)) trivial
theorem q201_1 (x3 x4 : Value) (w : World) (R : Value → World → Prop) (h : S201_1 x3 x4 w R) : Runs P 46 (subC [true, true, true, true, false, true, false] b201_0) (postC P 46 [true, true, true, true, false, true, false] b201_0 (Q201_0 R)) [(3, some x3), (4, some x4)] w :=
  Runs.loop (σ := Value × Value) (fun s => [(3, some s.1), (4, some s.2)]) (fun e k => E1 e (.tmp 3) fun x3 => E1 e (.tmp 4) fun x4 => k (x3, x4)) (fun e k h => let ⟨y3, h3, h⟩ := E1.elim h; let ⟨y4, h4, h⟩ := E1.elim h; ⟨(y3, y4), h, (sub_cons h3 (sub_cons h4 (sub_nil)))⟩) (fun s w K h => q201_2 s.1 s.2 w (fun x3 x4 w => K (x3, x4) w) R h) h
theorem e201_0 (Z1 : Value → Value → World → Prop) (x0 : Value) (w : World) (R : Value → World → Prop) : B201_0 Z1 x0 w R = Wp P 46 D201 [] b201_0 [([true, true, true, true, false, true, false], fun e w => E1 e (.tmp 3) fun x3 => E1 e (.tmp 4) fun x4 => Z1 x3 x4 w)] (Q201_0 R) [(0, some x0)] w := by kernel_rfl
theorem q201_0 (x0 : Value) (w : World) (R : Value → World → Prop) (h : S201_0 x0 w R) : Runs P 46 (subC [] b201_0) (postC P 46 [] b201_0 (Q201_0 R)) [(0, some x0)] w :=
  Wp_use mixed (e201_0 (fun x3 x4 w => S201_1 x3 x4 w R) x0 w R) h (fun _ _ _ h => h) ⟨(fun e w h => let ⟨y3, h3, h⟩ := E1.elim h; let ⟨y4, h4, h⟩ := E1.elim h; (q201_1 y3 y4 w R h).more (sub_cons h3 (sub_cons h4 (sub_nil)))), trivial⟩
theorem c201 (x0 : Value) (w : World) (R : Value → World → Prop) (h : S201_0 x0 w R) : CallF P 201 #[x0] w R :=
  call_of_runs (args := [x0]) (c := b201_0) (by kernel_rfl) func201 rfl (by kernel_rfl) (q201_0 x0 w R h)

end Go.Proofs.YtdgffjkcpbolmaaGreatDoor.X
