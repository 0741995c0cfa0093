/-
  What the document says of a packet: foreign fields, bytes behind the length, the verdict, the flags. No condition.
-/
import Derived.Test.YtdgffjkcpbolmaaGreatDoorRef5
import Derived.Test.YtdgffjkcpbolmaaGreatDoorFxApi
namespace Go.Proofs.YtdgffjkcpbolmaaGreatDoor.X
open Go Go.RowKit Go.Proofs.YtdgffjkcpbolmaaGreatDoor.Fx
set_option linter.unusedVariables false
def Within (n m : Int) : Prop := 0 ≤ n ∧ n ≤ m
def ZeroMsg (m : Msg) : Prop := m.topic = ⟨#[]⟩ ∧ m.payload.length = 0 ∧ m.qos = 0 ∧ m.retain = false
def Numbered (p : Pk) : Prop := (p.kind = 3 ∧ p.msg.qos ≠ 0) ∨ (4 ≤ p.kind ∧ p.kind ≤ 11)
def Foreign (p : Pk) : Prop :=
  (p.kind ≠ 1 ∧ (p.level ≠ 0 ∨ p.clean = true ∨ p.keep ≠ 0 ∨ p.client ≠ ⟨#[]⟩ ∨ p.hasWill = true ∨ p.hasUser = true ∨ p.hasPass = true)) ∨
  (¬ (p.kind = 1 ∧ p.hasWill = true) ∧ ¬ ZeroMsg p.will) ∨ (¬ (p.kind = 1 ∧ p.hasUser = true) ∧ p.user ≠ ⟨#[]⟩) ∨ (¬ (p.kind = 1 ∧ p.hasPass = true) ∧ p.pass.length ≠ 0) ∨
  (p.kind ≠ 2 ∧ (p.present = true ∨ p.code ≠ 0)) ∨ (p.kind ≠ 3 ∧ (p.dup = true ∨ ¬ ZeroMsg p.msg)) ∨
  (¬ Numbered p ∧ p.id ≠ 0) ∨ (p.kind ≠ 8 ∧ p.asks.length ≠ 0) ∨ (p.kind ≠ 9 ∧ p.codes.length ≠ 0) ∨ (p.kind ≠ 10 ∧ p.filters.length ≠ 0)
def asksLen (xs : List (ByteArray × Int)) : Nat := (xs.map fun x => 3 + x.1.size).sum
def textsLen (xs : List ByteArray) : Nat := (xs.map fun x => 2 + x.size).sum
open Classical in
noncomputable def baseS (p : Pk) : Nat :=
  if p.kind = 1 then 12 + p.client.size + (if p.hasWill = true then 4 + p.will.topic.size + p.will.payload.length else 0) + (if p.hasUser = true then 2 + p.user.size else 0) + (if p.hasPass = true then 2 + p.pass.length else 0)
  else if p.kind = 2 then 2 else if p.kind = 3 then 2 + p.msg.topic.size + p.msg.payload.length else if p.kind = 8 then asksLen p.asks else if p.kind = 9 then p.codes.length else if p.kind = 10 then textsLen p.filters else 0
open Classical in
noncomputable def bytesS (p : Pk) : Nat := baseS p + if Numbered p then 2 else 0
theorem asksLen_le (xs : List (ByteArray × Int)) : asksLen xs ≤ 3 * asksParts xs := by
  induction xs with
  | nil => simp [asksLen]
  | cons x xs ih => simp only [asksLen, asksParts, List.map_cons, List.sum_cons] at *; omega
theorem textsLen_le (xs : List ByteArray) : textsLen xs ≤ 2 * textsParts xs := by
  induction xs with
  | nil => simp [textsLen]
  | cons x xs ih => simp only [textsLen, textsParts, List.map_cons, List.sum_cons] at *; omega
theorem asksParts_le (xs : List (ByteArray × Int)) : xs.length ≤ asksParts xs ∧ ∀ x ∈ xs, x.1.size ≤ asksParts xs := by
  induction xs with
  | nil => simp [asksParts]
  | cons x xs ih =>
    simp only [asksParts, List.map_cons, List.sum_cons, List.length_cons, List.mem_cons] at *
    refine ⟨by omega, ?_⟩
    rintro y (rfl | hy)
    · omega
    · have := ih.2 y hy; omega
theorem textsParts_le (xs : List ByteArray) : xs.length ≤ textsParts xs ∧ ∀ x ∈ xs, x.size ≤ textsParts xs := by
  induction xs with
  | nil => simp [textsParts]
  | cons x xs ih =>
    simp only [textsParts, List.map_cons, List.sum_cons, List.length_cons, List.mem_cons] at *
    refine ⟨by omega, ?_⟩
    rintro y (rfl | hy)
    · omega
    · have := ih.2 y hy; omega
/-- A packet of few parts. -/
structure Small (p : Pk) : Prop where
  client : p.client.size ≤ 300000
  user : p.user.size ≤ 300000
  pass : p.pass.length ≤ 300000
  wtopic : p.will.topic.size ≤ 300000
  wpay : p.will.payload.length ≤ 300000
  mtopic : p.msg.topic.size ≤ 300000
  mpay : p.msg.payload.length ≤ 300000
  asksN : p.asks.length ≤ 300000
  asks : asksParts p.asks ≤ 300000
  codes : p.codes.length ≤ 300000
  filtersN : p.filters.length ≤ 300000
  filters : textsParts p.filters ≤ 300000
theorem Small.of {p : Pk} (h : p.parts ≤ 300000) : Small p := by
  have h1 := asksParts_le p.asks
  have h2 := textsParts_le p.filters
  unfold Pk.parts Msg.parts at h
  constructor <;> omega
theorem Small.fits {p : Pk} (h : Small p) : p.Fits 9223372036854775807 := by
  have h1 := asksParts_le p.asks
  have h2 := textsParts_le p.filters
  have h3 := h.asks
  have h4 := h.filters
  exact ⟨by have := h.client; omega, by have := h.user; omega, by have := h.wtopic; omega, by have := h.mtopic; omega, fun x hx => by have := h1.2 x hx; omega, fun x hx => by have := h2.2 x hx; omega⟩
def BadTopics (p : Pk) : Prop := (p.kind = 1 ∧ p.hasWill = true ∧ refTopic p.will.topic ≠ 0) ∨ (p.kind = 3 ∧ refTopic p.msg.topic ≠ 0)
def BadFilters (p : Pk) : Prop := (∃ x ∈ p.asks, refFilter x.1 ≠ 0) ∨ ∃ x ∈ p.filters, refFilter x ≠ 0
def BadQs (p : Pk) : Prop := (∃ x ∈ p.asks, ¬ Within x.2 2) ∨ ∃ c ∈ p.codes, ¬ Within c 2 ∧ c ≠ 128
def BadQualities (p : Pk) : Prop := (p.kind = 1 ∧ p.hasWill = true ∧ ¬ Within p.will.qos 2) ∨ (p.kind = 3 ∧ ¬ Within p.msg.qos 2) ∨ BadQs p
def BadKind (p : Pk) : Prop := p.kind < 1 ∨ 14 < p.kind
def BadField (p : Pk) : Prop := Foreign p ∨ ¬ Within p.level 255 ∨ ¬ Within p.code 255 ∨ ¬ Within p.keep 65535
def BadText (p : Pk) : Prop := okText p.client = false ∨ okText p.user = false
def BadID (p : Pk) : Prop := Numbered p ∧ (p.id < 1 ∨ 65535 < p.id)
def BadSize (p : Pk) : Prop := 65535 < p.will.payload.length ∨ 65535 < p.pass.length ∨ 268435455 < bytesS p
def BadEmpty (p : Pk) : Prop := (p.kind = 8 ∧ p.asks.length = 0) ∨ (p.kind = 9 ∧ p.codes.length = 0) ∨ (p.kind = 10 ∧ p.filters.length = 0)
def BadMarks (p : Pk) : Prop := (p.hasPass = true ∧ p.hasUser = false) ∨ (p.dup = true ∧ p.msg.qos = 0) ∨ (p.present = true ∧ p.code ≠ 0)
open Classical in
noncomputable def checkS (p : Pk) : Int :=
  if BadKind p then 20 else if BadField p then 21 else if BadText p then 22 else if BadTopics p then 23 else if BadFilters p then 24 else if BadQualities p then 25
  else if BadID p then 26 else if BadSize p then 27 else if BadEmpty p then 28 else if BadMarks p then 29 else 0
section
variable {p : Pk}
theorem chk20 (h : BadKind p) : checkS p = 20 := by simp [checkS, h]
theorem chk21 (h0 : ¬ BadKind p) (h : BadField p) : checkS p = 21 := by simp [checkS, h0, h]
theorem chk22 (h0 : ¬ BadKind p) (h1 : ¬ BadField p) (h : BadText p) : checkS p = 22 := by simp [checkS, h0, h1, h]
theorem chk23 (h0 : ¬ BadKind p) (h1 : ¬ BadField p) (h2 : ¬ BadText p) (h : BadTopics p) : checkS p = 23 := by simp [checkS, h0, h1, h2, h]
theorem chk24 (h0 : ¬ BadKind p) (h1 : ¬ BadField p) (h2 : ¬ BadText p) (h3 : ¬ BadTopics p) (h : BadFilters p) : checkS p = 24 := by simp [checkS, h0, h1, h2, h3, h]
theorem chk25 (h0 : ¬ BadKind p) (h1 : ¬ BadField p) (h2 : ¬ BadText p) (h3 : ¬ BadTopics p) (h4 : ¬ BadFilters p) (h : BadQualities p) : checkS p = 25 := by simp [checkS, h0, h1, h2, h3, h4, h]
theorem chk26 (h0 : ¬ BadKind p) (h1 : ¬ BadField p) (h2 : ¬ BadText p) (h3 : ¬ BadTopics p) (h4 : ¬ BadFilters p) (h5 : ¬ BadQualities p) (h : BadID p) : checkS p = 26 := by simp [checkS, h0, h1, h2, h3, h4, h5, h]
theorem chk27 (h0 : ¬ BadKind p) (h1 : ¬ BadField p) (h2 : ¬ BadText p) (h3 : ¬ BadTopics p) (h4 : ¬ BadFilters p) (h5 : ¬ BadQualities p) (h6 : ¬ BadID p) (h : BadSize p) : checkS p = 27 := by simp [checkS, h0, h1, h2, h3, h4, h5, h6, h]
theorem chk28 (h0 : ¬ BadKind p) (h1 : ¬ BadField p) (h2 : ¬ BadText p) (h3 : ¬ BadTopics p) (h4 : ¬ BadFilters p) (h5 : ¬ BadQualities p) (h6 : ¬ BadID p) (h7 : ¬ BadSize p) (h : BadEmpty p) : checkS p = 28 := by
  simp [checkS, h0, h1, h2, h3, h4, h5, h6, h7, h]
theorem chk29 (h0 : ¬ BadKind p) (h1 : ¬ BadField p) (h2 : ¬ BadText p) (h3 : ¬ BadTopics p) (h4 : ¬ BadFilters p) (h5 : ¬ BadQualities p) (h6 : ¬ BadID p) (h7 : ¬ BadSize p) (h8 : ¬ BadEmpty p) (h : BadMarks p) : checkS p = 29 := by
  simp [checkS, h0, h1, h2, h3, h4, h5, h6, h7, h8, h]
theorem chk0 (h0 : ¬ BadKind p) (h1 : ¬ BadField p) (h2 : ¬ BadText p) (h3 : ¬ BadTopics p) (h4 : ¬ BadFilters p) (h5 : ¬ BadQualities p) (h6 : ¬ BadID p) (h7 : ¬ BadSize p) (h8 : ¬ BadEmpty p) (h : ¬ BadMarks p) : checkS p = 0 := by
  simp [checkS, h0, h1, h2, h3, h4, h5, h6, h7, h8, h]
end
/-- What a packet must not have, ahead of the flags. -/
theorem checkS_zero {p : Pk} (h : checkS p = 0) : ¬ BadKind p ∧ ¬ BadField p ∧ ¬ BadQualities p ∧ ¬ BadMarks p := by
  unfold checkS at h
  repeat' split at h
  all_goals first | omega | exact ⟨by assumption, by assumption, by assumption, by assumption⟩
open Classical in
noncomputable def flagsS (p : Pk) : Int :=
  if checkS p = 0 then (if p.kind = 3 then 2 * p.msg.qos + (if p.dup = true then 8 else 0) + (if p.msg.retain = true then 1 else 0) else if p.kind = 6 ∨ p.kind = 8 ∨ p.kind = 10 then 2 else 0) else 0
open Classical in
noncomputable def lengthS (p : Pk) : Int := if checkS p = 0 then (bytesS p : Int) else 0
open Classical in
noncomputable def checkMsgS (m : Msg) : Int := if refTopic m.topic ≠ 0 then 23 else if ¬ Within m.qos 2 then 25 else 0
end Go.Proofs.YtdgffjkcpbolmaaGreatDoor.X
