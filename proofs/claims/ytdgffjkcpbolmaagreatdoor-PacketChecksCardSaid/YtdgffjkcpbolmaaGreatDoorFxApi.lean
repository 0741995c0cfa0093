/-
  The program's own data as Lean data, and how they lie in cells. No condition.
-/
import Derived.Test.YtdgffjkcpbolmaaGreatDoorFxMem
namespace Go.Proofs.YtdgffjkcpbolmaaGreatDoor.Fx
open Go
structure Msg where
  topic : ByteArray
  payload : List UInt8
  qos : Int
  retain : Bool
def Kn.msg : Kn Msg := ⟨4, fun w m cs => ∃ v, cs = [.string m.topic, v, .int .i64 m.qos, .bool m.retain] ∧ Sl Kn.byte w v m.payload, fun _ _ _ ⟨_, h, _⟩ => by rw [h]; rfl⟩
theorem Kn.msg_keeps : Kn.msg.Keeps := fun _ _ _ _ ⟨v, h, hs⟩ he => ⟨v, h, hs.ext Kn.byte_keeps he⟩
structure Pk where
  kind : Int
  level : Int
  clean : Bool
  keep : Int
  client : ByteArray
  hasWill : Bool
  will : Msg
  hasUser : Bool
  user : ByteArray
  hasPass : Bool
  pass : List UInt8
  present : Bool
  code : Int
  dup : Bool
  msg : Msg
  id : Int
  asks : List (ByteArray × Int)
  codes : List Int
  filters : List ByteArray
def Pk.cells (p : Pk) (vw vp vm va vc vf : Value) : List Value :=
  [.int .i64 p.kind, .int .i64 p.level, .bool p.clean, .int .i64 p.keep, .string p.client, .bool p.hasWill, .string p.will.topic, vw, .int .i64 p.will.qos, .bool p.will.retain,
   .bool p.hasUser, .string p.user, .bool p.hasPass, vp, .bool p.present, .int .i64 p.code, .bool p.dup, .string p.msg.topic, vm, .int .i64 p.msg.qos, .bool p.msg.retain, .int .i64 p.id, va, vc, vf]
def Kn.pk : Kn Pk := ⟨25, fun w p cs => ∃ vw vp vm va vc vf, cs = p.cells vw vp vm va vc vf ∧ Sl Kn.byte w vw p.will.payload ∧ Sl Kn.byte w vp p.pass ∧ Sl Kn.byte w vm p.msg.payload ∧
  Sl Kn.ask w va p.asks ∧ Sl Kn.int w vc p.codes ∧ Sl Kn.str w vf p.filters, fun _ _ _ ⟨_, _, _, _, _, _, h, _⟩ => by rw [h]; rfl⟩
theorem Kn.pk_keeps : Kn.pk.Keeps := fun _ _ _ _ ⟨vw, vp, vm, va, vc, vf, h, h1, h2, h3, h4, h5, h6⟩ he =>
  ⟨vw, vp, vm, va, vc, vf, h, h1.ext Kn.byte_keeps he, h2.ext Kn.byte_keeps he, h3.ext Kn.byte_keeps he, h4.ext Kn.ask_keeps he, h5.ext Kn.int_keeps he, h6.ext Kn.str_keeps he⟩
/-! ### how many parts -/
def Msg.parts (m : Msg) : Nat := 1 + m.topic.size + (1 + m.payload.length)
def asksParts (xs : List (ByteArray × Int)) : Nat := (xs.map fun x => 1 + x.1.size).sum
def textsParts (xs : List ByteArray) : Nat := (xs.map fun x => 1 + x.size).sum
structure Pk.Fits (p : Pk) (N : Nat) : Prop where
  client : p.client.size ≤ N
  user : p.user.size ≤ N
  will : p.will.topic.size ≤ N
  msg : p.msg.topic.size ≤ N
  asks : ∀ x ∈ p.asks, x.1.size ≤ N
  filters : ∀ x ∈ p.filters, x.size ≤ N
def Pk.parts (p : Pk) : Nat := 1 + p.client.size + (1 + p.user.size) + (1 + p.pass.length) + p.will.parts + p.msg.parts + asksParts p.asks + p.codes.length + textsParts p.filters
def pksParts (xs : List Pk) : Nat := (xs.map Pk.parts).sum
end Go.Proofs.YtdgffjkcpbolmaaGreatDoor.Fx
