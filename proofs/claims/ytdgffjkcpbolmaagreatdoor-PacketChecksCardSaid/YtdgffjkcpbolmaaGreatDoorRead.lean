/-
  What a call is handed, read as data: a packet. No condition.
-/
import Derived.Test.YtdgffjkcpbolmaaGreatDoorFxApi
import Derived.Test.YtdgffjkcpbolmaaGreatDoorFxTab
import Derived.ProofKit
namespace Go.Proofs.YtdgffjkcpbolmaaGreatDoor.X
open Go Go.RowKit Go.Proofs.YtdgffjkcpbolmaaGreatDoor.Fx
set_option maxRecDepth 100000
set_option linter.unusedVariables false
section
variable {H : Type} {enc : TypeId × Value → H} {P : Program} {w : World} {base : Nat} {spare : Nat → Bool} {held : Bool} {fuel : Nat} {cs : List Value} {x : DataW H × List MemPlace}
/-- Whatever reads at type t is a datum of kind E, of which Q holds. -/
def Rds {α : Type} (enc : TypeId × Value → H) (P : Program) (w : World) (base : Nat) (spare : Nat → Bool) (held : Bool) (t : TypeId) (E : Kn α) (Q : α → Prop) : Prop :=
  ∀ fuel cs x, DataW.trod enc P w base spare held fuel t cs = some x → ∃ a, E.rep w a cs ∧ Q a
theorem list_of {α : Type} {R : Nat → α → Prop} : ∀ n, (∀ i, i < n → ∃ y, R i y) → ∃ ys : List α, ys.length = n ∧ ∀ i y, ys[i]? = some y → R i y
  | 0, _ => ⟨[], rfl, fun i y h => by simp at h⟩
  | n + 1, h => by
    obtain ⟨ys, hl, hy⟩ := list_of n fun i hi => h i (by omega)
    obtain ⟨z, hz⟩ := h n (by omega)
    refine ⟨ys ++ [z], by simp [hl], fun i y hi => ?_⟩
    by_cases hin : i < ys.length
    · rw [List.getElem?_append_left hin] at hi; exact hy i y hi
    · have h1 := (List.getElem?_eq_some_iff.1 hi).1
      simp at h1
      obtain rfl : i = ys.length := by omega
      rw [List.getElem?_append_right (Nat.le_refl _)] at hi
      simp at hi; subst hi; subst hl; exact hz
theorem add_add {a : Addr} {m j : Nat} {v : Value} (h : w.cell? ((a.add m).add j) = some v) (h0 : a.spot = none) : w.cell? ⟨a.block, a.off + m + j, none⟩ = some v := by
  obtain ⟨b, o, s⟩ := a
  simp only at h0
  subst h0
  rw [add_at, add_at] at h
  exact h
theorem spot_none {a : Addr} {v : Value} (h : w.cell? a = some v) : a.spot = none := by
  unfold World.cell? at h
  split at h
  · split at h
    · cases h
    · rename_i hs; simpa using hs
  · cases h
theorem rd_sl {α : Type} {t e : TypeId} {E : Kn α} {Q : α → Prop} (ht : P.underlying t = some (.slice e)) (hs : P.cellsOf e = E.sz) (hz : 0 < E.sz) (he : Rds enc P w base spare held e E Q)
    (h : DataW.trod enc P w base spare held fuel t cs = some x) : ∃ v xs, cs = [v] ∧ Sl E w v xs ∧ ∀ a ∈ xs, Q a := by
  rcases DataW.trod_slice ht h with ⟨rfl, _⟩ | ⟨a, len, cap, elems, rest, n, _, rfl, rfl, hb, hl, hm, hlen, hel, _, _⟩
  · exact ⟨_, [], rfl, ⟨none, 0, rfl, ⟨Nat.le_refl _, Nat.zero_le _⟩, fun h => absurd rfl h⟩, fun a ha => by cases ha⟩
  have each : ∀ i, i < len → ∃ y, (∃ cs', E.rep w y cs' ∧ ∀ j u, cs'[j]? = some u → w.cell? ((a.add (i * E.sz)).add j) = some u) ∧ Q y := by
    intro i hi
    have h1 := hel i hi
    rw [List.getElem?_eq_getElem (by omega), Option.bind_eq_some_iff] at h1
    obtain ⟨cs', hcs, hy⟩ := h1
    obtain ⟨y, hr, hq⟩ := he _ _ _ hy
    refine ⟨y, ⟨cs', hr, fun j u hu => ?_⟩, hq⟩
    have hj : j < P.cellsOf e := by
      have h1 := (List.getElem?_eq_some_iff.1 hu).1
      have h2 := (World.cells?_some hcs).2.1
      omega
    rw [← hs, (World.cells?_some hcs).2.2 j hj]
    exact hu
  obtain ⟨ys, hyl, hy⟩ := list_of len each
  subst hyl
  refine ⟨_, ys, rfl, ⟨some a, cap, rfl, ⟨hl, by unfold maxLen at *; omega⟩, fun hne => ?_⟩, fun b hb => ?_⟩
  · have h0 : a.spot = none := by
      cases ys with
      | nil => exact absurd rfl hne
      | cons y ys =>
        obtain ⟨⟨cs', hr, hc⟩, _⟩ := hy 0 y rfl
        have hlen' := E.len _ _ _ hr
        have := hc 0 cs'[0] (List.getElem?_eq_getElem (by omega))
        have h2 := spot_none this
        rw [Nat.zero_mul] at h2
        exact h2
    refine ⟨a.block, a.off, ?_, fun i y hi => ?_⟩
    · obtain ⟨b, o, s⟩ := a
      simp only at h0
      subst h0
      rfl
    · obtain ⟨⟨cs', hr, hc⟩, _⟩ := hy i y hi
      exact ⟨cs', hr, fun j u hu => add_add (hc j u hu) h0⟩
  · obtain ⟨i, hi⟩ := List.getElem?_of_mem hb
    exact (hy i b hi).2
end
section
variable {H : Type} {enc : TypeId × Value → H} {w : World} {base : Nat} {spare : Nat → Bool} {held : Bool} {fuel : Nat} {cs : List Value} {x : DataW H × List MemPlace}
theorem rd_byte : Rds enc P w base spare held 5 Kn.byte fun _ => True := fun fuel cs x h => by
  obtain ⟨n, rfl, _, hw⟩ := DataW.trod_int (k := .u8) (by kernel_rfl) h
  have hn : 0 ≤ n ∧ n < 256 := by
    simp [Lit.wf, IntKind.min, IntKind.max, IntKind.signed, IntKind.bits] at hw
    omega
  refine ⟨UInt8.ofNat n.toNat, ?_, trivial⟩
  show [Value.int .u8 n] = [.int .u8 ((UInt8.ofNat n.toNat).toNat : Nat)]
  rw [UInt8.toNat_ofNat_of_lt' (by simp [UInt8.size]; omega)]
  rw [Int.toNat_of_nonneg hn.1]
theorem rd_int : Rds enc P w base spare held 3 Kn.int fun n => -9223372036854775808 ≤ n ∧ n ≤ 9223372036854775807 := fun fuel cs x h => by
  obtain ⟨n, rfl, _, hw⟩ := DataW.trod_int (k := .i64) (by kernel_rfl) h
  refine ⟨n, rfl, ?_⟩
  simp [Lit.wf, IntKind.min, IntKind.max, IntKind.signed, IntKind.bits] at hw
  omega
theorem rd_str : Rds enc P w base spare held 9 Kn.str fun s => s.size ≤ 9223372036854775807 := fun fuel cs x h => by
  obtain ⟨s, rfl, _, hs⟩ := DataW.trod_string (by kernel_rfl) h
  exact ⟨s, rfl, by unfold maxLen at *; omega⟩
theorem rd_bool (h : DataW.trod enc P w base spare held fuel 4 cs = some x) : ∃ b, cs = [.bool b] := let ⟨b, h, _⟩ := DataW.trod_bool (by kernel_rfl) h; ⟨b, h⟩
theorem rd_int' (h : DataW.trod enc P w base spare held fuel 3 cs = some x) : ∃ n, cs = [.int .i64 n] := let ⟨n, h, _⟩ := rd_int _ _ _ h; ⟨n, h⟩
theorem rd_str' (h : DataW.trod enc P w base spare held fuel 9 cs = some x) : ∃ s, cs = [.string s] ∧ s.size ≤ 9223372036854775807 := rd_str _ _ _ h
theorem rd_ask : Rds enc P w base spare held 73 Kn.ask fun a => a.1.size ≤ 9223372036854775807 := fun fuel cs x h => by
  obtain ⟨xs, n, rfl, _, hl, hx, hf⟩ := DataW.trod_struct Tryz.underlying73 h
  match xs, hx with
  | [y0, y1], _ =>
    have f0 : DataW.trod enc P w base spare held n 9 ((cs.drop 0).take 1) = some y0 := hf 0 _ rfl
    have f1 : DataW.trod enc P w base spare held n 3 ((cs.drop 1).take 1) = some y1 := hf 1 _ rfl
    obtain ⟨s, e0, hs⟩ := rd_str' f0
    obtain ⟨i, e1⟩ := rd_int' f1
    refine ⟨(s, i), ?_, hs⟩
    have hl2 : cs.length = 2 := hl
    match cs, hl2 with
    | [a, b], _ =>
      simp at e0 e1
      subst e0; subst e1
      rfl
theorem split_drop {α : Type} (cs : List α) (k n : Nat) : cs.drop k = (cs.drop k).take n ++ cs.drop (k + n) := by
  rw [← List.drop_drop]; exact (List.take_append_drop n _).symm
theorem rd_msg : Rds enc P w base spare held 24 Kn.msg fun m => m.topic.size ≤ 9223372036854775807 := fun fuel cs x h => by
  obtain ⟨xs, n, rfl, _, hl, hx, hf⟩ := DataW.trod_struct Tryz.underlying24 h
  match xs, hx with
  | [y0, y1, y2, y3], _ =>
    have f0 : DataW.trod enc P w base spare held n 9 ((cs.drop 0).take 1) = some y0 := hf 0 _ rfl
    have f1 : DataW.trod enc P w base spare held n 22 ((cs.drop 1).take 1) = some y1 := hf 1 _ rfl
    have f2 : DataW.trod enc P w base spare held n 3 ((cs.drop 2).take 1) = some y2 := hf 2 _ rfl
    have f3 : DataW.trod enc P w base spare held n 4 ((cs.drop 3).take 1) = some y3 := hf 3 _ rfl
    obtain ⟨s, e0, hs⟩ := rd_str' f0
    obtain ⟨v, ys, e1, h1, _⟩ := rd_sl (E := Kn.byte) (by kernel_rfl) (by kernel_rfl) (by decide) rd_byte f1
    obtain ⟨i, e2⟩ := rd_int' f2
    obtain ⟨b, e3⟩ := rd_bool f3
    refine ⟨⟨s, ys, i, b⟩, ⟨v, ?_, h1⟩, hs⟩
    have hl4 : cs.length = 4 := hl
    have s0 : cs = (cs.drop 0).take 1 ++ cs.drop 1 := split_drop cs 0 1
    have s1 : cs.drop 1 = (cs.drop 1).take 1 ++ cs.drop 2 := split_drop cs 1 1
    have s2 : cs.drop 2 = (cs.drop 2).take 1 ++ cs.drop 3 := split_drop cs 2 1
    have s3 : cs.drop 3 = (cs.drop 3).take 1 ++ cs.drop 4 := split_drop cs 3 1
    rw [s0, s1, s2, s3, e0, e1, e2, e3, List.drop_of_length_le (by omega)]
    rfl
set_option maxHeartbeats 1000000 in
theorem rd_pkt : Rds enc P w base spare held 29 Kn.pk fun p => p.Fits 9223372036854775807 := fun fuel cs x h => by
  obtain ⟨xs, n, rfl, _, hl, hx, hf⟩ := DataW.trod_struct Tryz.underlying29 h
  match xs, hx with
  | [y0, y1, y2, y3, y4, y5, y6, y7, y8, y9, y10, y11, y12, y13, y14, y15, y16, y17, y18], _ =>
    have f0 : DataW.trod enc P w base spare held n 3 ((cs.drop 0).take 1) = some y0 := hf 0 _ rfl
    have f1 : DataW.trod enc P w base spare held n 3 ((cs.drop 1).take 1) = some y1 := hf 1 _ rfl
    have f2 : DataW.trod enc P w base spare held n 4 ((cs.drop 2).take 1) = some y2 := hf 2 _ rfl
    have f3 : DataW.trod enc P w base spare held n 3 ((cs.drop 3).take 1) = some y3 := hf 3 _ rfl
    have f4 : DataW.trod enc P w base spare held n 9 ((cs.drop 4).take 1) = some y4 := hf 4 _ rfl
    have f5 : DataW.trod enc P w base spare held n 4 ((cs.drop 5).take 1) = some y5 := hf 5 _ rfl
    have f6 : DataW.trod enc P w base spare held n 24 ((cs.drop 6).take 4) = some y6 := hf 6 _ rfl
    have f7 : DataW.trod enc P w base spare held n 4 ((cs.drop 10).take 1) = some y7 := hf 7 _ rfl
    have f8 : DataW.trod enc P w base spare held n 9 ((cs.drop 11).take 1) = some y8 := hf 8 _ rfl
    have f9 : DataW.trod enc P w base spare held n 4 ((cs.drop 12).take 1) = some y9 := hf 9 _ rfl
    have f10 : DataW.trod enc P w base spare held n 22 ((cs.drop 13).take 1) = some y10 := hf 10 _ rfl
    have f11 : DataW.trod enc P w base spare held n 4 ((cs.drop 14).take 1) = some y11 := hf 11 _ rfl
    have f12 : DataW.trod enc P w base spare held n 3 ((cs.drop 15).take 1) = some y12 := hf 12 _ rfl
    have f13 : DataW.trod enc P w base spare held n 4 ((cs.drop 16).take 1) = some y13 := hf 13 _ rfl
    have f14 : DataW.trod enc P w base spare held n 24 ((cs.drop 17).take 4) = some y14 := hf 14 _ rfl
    have f15 : DataW.trod enc P w base spare held n 3 ((cs.drop 21).take 1) = some y15 := hf 15 _ rfl
    have f16 : DataW.trod enc P w base spare held n 25 ((cs.drop 22).take 1) = some y16 := hf 16 _ rfl
    have f17 : DataW.trod enc P w base spare held n 26 ((cs.drop 23).take 1) = some y17 := hf 17 _ rfl
    have f18 : DataW.trod enc P w base spare held n 27 ((cs.drop 24).take 1) = some y18 := hf 18 _ rfl
    obtain ⟨a0, e0⟩ := rd_int' f0
    obtain ⟨a1, e1⟩ := rd_int' f1
    obtain ⟨a2, e2⟩ := rd_bool f2
    obtain ⟨a3, e3⟩ := rd_int' f3
    obtain ⟨a4, e4, q4⟩ := rd_str' f4
    obtain ⟨a5, e5⟩ := rd_bool f5
    obtain ⟨a6, ⟨v6, e6, g6⟩, q6⟩ := rd_msg _ _ _ f6
    obtain ⟨a7, e7⟩ := rd_bool f7
    obtain ⟨a8, e8, q8⟩ := rd_str' f8
    obtain ⟨a9, e9⟩ := rd_bool f9
    obtain ⟨v10, a10, e10, g10, q10⟩ := rd_sl (E := Kn.byte) (by kernel_rfl) (by kernel_rfl) (by decide) rd_byte f10
    obtain ⟨a11, e11⟩ := rd_bool f11
    obtain ⟨a12, e12⟩ := rd_int' f12
    obtain ⟨a13, e13⟩ := rd_bool f13
    obtain ⟨a14, ⟨v14, e14, g14⟩, q14⟩ := rd_msg _ _ _ f14
    obtain ⟨a15, e15⟩ := rd_int' f15
    obtain ⟨v16, a16, e16, g16, q16⟩ := rd_sl (E := Kn.ask) (by kernel_rfl) (by kernel_rfl) (by decide) rd_ask f16
    obtain ⟨v17, a17, e17, g17, q17⟩ := rd_sl (E := Kn.int) (by kernel_rfl) (by kernel_rfl) (by decide) rd_int f17
    obtain ⟨v18, a18, e18, g18, q18⟩ := rd_sl (E := Kn.str) (by kernel_rfl) (by kernel_rfl) (by decide) rd_str f18
    refine ⟨⟨a0, a1, a2, a3, a4, a5, a6, a7, a8, a9, a10, a11, a12, a13, a14, a15, a16, a17, a18⟩, ⟨v6, v10, v14, v16, v17, v18, ?_, g6, g10, g14, g16, g17, g18⟩, ⟨q4, q8, q6, q14, q16, q18⟩⟩
    have hl25 : cs.length = 25 := hl
    have s0 : cs = (cs.drop 0).take 1 ++ cs.drop 1 := split_drop cs 0 1
    have s1 : cs.drop 1 = (cs.drop 1).take 1 ++ cs.drop 2 := split_drop cs 1 1
    have s2 : cs.drop 2 = (cs.drop 2).take 1 ++ cs.drop 3 := split_drop cs 2 1
    have s3 : cs.drop 3 = (cs.drop 3).take 1 ++ cs.drop 4 := split_drop cs 3 1
    have s4 : cs.drop 4 = (cs.drop 4).take 1 ++ cs.drop 5 := split_drop cs 4 1
    have s5 : cs.drop 5 = (cs.drop 5).take 1 ++ cs.drop 6 := split_drop cs 5 1
    have s6 : cs.drop 6 = (cs.drop 6).take 4 ++ cs.drop 10 := split_drop cs 6 4
    have s7 : cs.drop 10 = (cs.drop 10).take 1 ++ cs.drop 11 := split_drop cs 10 1
    have s8 : cs.drop 11 = (cs.drop 11).take 1 ++ cs.drop 12 := split_drop cs 11 1
    have s9 : cs.drop 12 = (cs.drop 12).take 1 ++ cs.drop 13 := split_drop cs 12 1
    have s10 : cs.drop 13 = (cs.drop 13).take 1 ++ cs.drop 14 := split_drop cs 13 1
    have s11 : cs.drop 14 = (cs.drop 14).take 1 ++ cs.drop 15 := split_drop cs 14 1
    have s12 : cs.drop 15 = (cs.drop 15).take 1 ++ cs.drop 16 := split_drop cs 15 1
    have s13 : cs.drop 16 = (cs.drop 16).take 1 ++ cs.drop 17 := split_drop cs 16 1
    have s14 : cs.drop 17 = (cs.drop 17).take 4 ++ cs.drop 21 := split_drop cs 17 4
    have s15 : cs.drop 21 = (cs.drop 21).take 1 ++ cs.drop 22 := split_drop cs 21 1
    have s16 : cs.drop 22 = (cs.drop 22).take 1 ++ cs.drop 23 := split_drop cs 22 1
    have s17 : cs.drop 23 = (cs.drop 23).take 1 ++ cs.drop 24 := split_drop cs 23 1
    have s18 : cs.drop 24 = (cs.drop 24).take 1 ++ cs.drop 25 := split_drop cs 24 1
    rw [s0, s1, s2, s3, s4, s5, s6, s7, s8, s9, s10, s11, s12, s13, s14, s15, s16, s17, s18, e0, e1, e2, e3, e4, e5, e6, e7, e8, e9, e10, e11, e12, e13, e14, e15, e16, e17, e18, List.drop_of_length_le (by omega)]
    rfl
end
end Go.Proofs.YtdgffjkcpbolmaaGreatDoor.X
