/-
  Texts: when bytes are one, told by code points' first bytes and told by the model's decoding. No condition.
-/
import Derived.Test.YtdgffjkcpbolmaaGreatDoorFxMem
import Derived.Laws.RangeAny
namespace Go.Proofs.YtdgffjkcpbolmaaGreatDoor.X
open Go Go.RowKit Go.Proofs.YtdgffjkcpbolmaaGreatDoor.Fx
set_option linter.unusedVariables false
set_option maxRecDepth 100000
def byteAt (s : ByteArray) (i : Nat) : Nat := (s.get! i).toNat
theorem byteAt_lt (s : ByteArray) (i : Nat) : byteAt s i < 256 := (s.get! i).toNat_lt
theorem byteAt_eq {s : ByteArray} {i : Nat} (h : i < s.size) : byteAt s i = (s[i]'h).toNat := by
  have := get_at s i h
  rw [Nat.add_zero] at this
  rw [byteAt, this]
/-- How many bytes go on behind the first, and the bounds of the next. -/
def moreN (b : Nat) : Int × Nat × Nat :=
  if b < 128 then (0, 0, 0) else if 194 ≤ b ∧ b ≤ 223 then (1, 128, 191) else if b = 224 then (2, 160, 191) else if b = 237 then (2, 128, 159)
  else if 225 ≤ b ∧ b ≤ 239 then (2, 128, 191) else if b = 240 then (3, 144, 191) else if 241 ≤ b ∧ b ≤ 243 then (3, 128, 191) else if b = 244 then (3, 128, 143) else (-1, 0, 0)
/-- A code point's bytes, not zero: how many more there are (sz - pos bytes are left). -/
def stepB (left c0 c1 c2 c3 : Nat) : Option Nat :=
  if c0 = 0 then none
  else if (moreN c0).1 < 0 then none
  else if (moreN c0).1.toNat < left ∧ ((moreN c0).1 < 1 ∨ ((moreN c0).2.1 ≤ c1 ∧ c1 ≤ (moreN c0).2.2)) ∧ ((moreN c0).1 < 2 ∨ (128 ≤ c2 ∧ c2 ≤ 191)) ∧ ((moreN c0).1 < 3 ∨ (128 ≤ c3 ∧ c3 ≤ 191)) then some (moreN c0).1.toNat
  else none
def decB (left c0 c1 c2 c3 : Nat) : Nat × Nat :=
  if c0 < 128 then (c0, 1)
  else if c0 / 32 = 6 ∧ 1 < left ∧ c1 / 64 = 2 then
    if (c0 % 32) * 64 + c1 % 64 ≥ 128 then ((c0 % 32) * 64 + c1 % 64, 2) else (65533, 1)
  else if c0 / 16 = 14 ∧ (1 < left ∧ c1 / 64 = 2) ∧ 2 < left ∧ c2 / 64 = 2 then
    if (c0 % 16) * 4096 + (c1 % 64) * 64 + c2 % 64 ≥ 2048 ∧ ((c0 % 16) * 4096 + (c1 % 64) * 64 + c2 % 64 < 55296 ∨ (57344 ≤ (c0 % 16) * 4096 + (c1 % 64) * 64 + c2 % 64)) then ((c0 % 16) * 4096 + (c1 % 64) * 64 + c2 % 64, 3) else (65533, 1)
  else if c0 / 8 = 30 ∧ (1 < left ∧ c1 / 64 = 2) ∧ (2 < left ∧ c2 / 64 = 2) ∧ 3 < left ∧ c3 / 64 = 2 then
    if (c0 % 8) * 262144 + (c1 % 64) * 4096 + (c2 % 64) * 64 + c3 % 64 ≥ 65536 ∧ (c0 % 8) * 262144 + (c1 % 64) * 4096 + (c2 % 64) * 64 + c3 % 64 ≤ 1114111 then ((c0 % 8) * 262144 + (c1 % 64) * 4096 + (c2 % 64) * 64 + c3 % 64, 4) else (65533, 1)
  else (65533, 1)
theorem moreN_cases (c : Nat) : (c < 128 ∧ moreN c = (0, 0, 0)) ∨ (194 ≤ c ∧ c ≤ 223 ∧ moreN c = (1, 128, 191)) ∨ (c = 224 ∧ moreN c = (2, 160, 191)) ∨ (c = 237 ∧ moreN c = (2, 128, 159)) ∨
    (225 ≤ c ∧ c ≤ 239 ∧ c ≠ 237 ∧ moreN c = (2, 128, 191)) ∨ (c = 240 ∧ moreN c = (3, 144, 191)) ∨ (241 ≤ c ∧ c ≤ 243 ∧ moreN c = (3, 128, 191)) ∨ (c = 244 ∧ moreN c = (3, 128, 143)) ∨ (((128 ≤ c ∧ c ≤ 193) ∨ 245 ≤ c) ∧ moreN c = (-1, 0, 0)) := by
  unfold moreN
  repeat' split
  all_goals simp
  all_goals omega
theorem stepB_eq {left c0 c1 c2 c3 lo hi : Nat} {n : Int} (hm : moreN c0 = (n, lo, hi)) (h0 : c0 ≠ 0) (hn : 0 ≤ n) :
    stepB left c0 c1 c2 c3 = if n.toNat < left ∧ (n < 1 ∨ (lo ≤ c1 ∧ c1 ≤ hi)) ∧ (n < 2 ∨ (128 ≤ c2 ∧ c2 ≤ 191)) ∧ (n < 3 ∨ (128 ≤ c3 ∧ c3 ≤ 191)) then some n.toNat else none := by
  unfold stepB
  rw [hm, if_neg h0, if_neg (by simp; omega)]
theorem decB_step {left c0 c1 c2 c3 : Nat} (h : 0 < left) (h0 : c0 < 256) (h1 : c1 < 256) (h2 : c2 < 256) (h3 : c3 < 256) :
    (stepB left c0 c1 c2 c3 = none ∧ ((decB left c0 c1 c2 c3).1 = 0 ∨ ((decB left c0 c1 c2 c3).1 = 65533 ∧ ¬ (2 < left ∧ c0 = 239 ∧ c1 = 191 ∧ c2 = 189)))) ∨
    (∃ k, stepB left c0 c1 c2 c3 = some k ∧ (decB left c0 c1 c2 c3).2 = k + 1 ∧ (decB left c0 c1 c2 c3).1 ≠ 0 ∧ ((decB left c0 c1 c2 c3).1 = 65533 → (2 < left ∧ c0 = 239 ∧ c1 = 191 ∧ c2 = 189))) := by
  by_cases hz : c0 = 0
  · subst hz
    exact .inl ⟨by simp [stepB], .inl (by simp [decB])⟩
  rcases moreN_cases c0 with ⟨q, hm⟩ | ⟨q1, q2, hm⟩ | ⟨q, hm⟩ | ⟨q, hm⟩ | ⟨q1, q2, q3, hm⟩ | ⟨q, hm⟩ | ⟨q1, q2, hm⟩ | ⟨q, hm⟩ | ⟨q, hm⟩
  · rw [stepB_eq hm hz (by omega), if_pos (by simp; omega)]
    refine .inr ⟨_, rfl, ?_⟩
    unfold decB
    rw [if_pos q]
    simp
    omega
  · rw [stepB_eq hm hz (by omega)]
    by_cases hc : 1 < left ∧ c1 / 64 = 2
    · rw [if_pos (by simp; omega)]
      refine .inr ⟨_, rfl, ?_⟩
      unfold decB
      rw [if_neg (by omega), if_pos (by omega), if_pos (by omega)]
      simp
      omega
    · rw [if_neg (by simp; omega)]
      refine .inl ⟨rfl, .inr ?_⟩
      unfold decB
      rw [if_neg (by omega), if_neg (by omega), if_neg (by omega), if_neg (by omega)]
      simp; omega
  · rw [stepB_eq hm hz (by omega)]
    by_cases hc : 2 < left ∧ (160 ≤ c1 ∧ c1 ≤ 191) ∧ 128 ≤ c2 ∧ c2 ≤ 191
    · rw [if_pos (by simp; omega)]
      refine .inr ⟨_, rfl, ?_⟩
      unfold decB
      rw [if_neg (by omega), if_neg (by omega), if_pos (by omega), if_pos (by omega)]
      simp
      omega
    · rw [if_neg (by simp; omega)]
      refine .inl ⟨rfl, .inr ?_⟩
      unfold decB
      rw [if_neg (by omega), if_neg (by omega)]
      by_cases hd : c0 / 16 = 14 ∧ (1 < left ∧ c1 / 64 = 2) ∧ 2 < left ∧ c2 / 64 = 2
      · rw [if_pos hd, if_neg (by omega)]; simp; omega
      · rw [if_neg hd, if_neg (by omega)]; simp; omega
  · rw [stepB_eq hm hz (by omega)]
    by_cases hc : 2 < left ∧ (128 ≤ c1 ∧ c1 ≤ 159) ∧ 128 ≤ c2 ∧ c2 ≤ 191
    · rw [if_pos (by simp; omega)]
      refine .inr ⟨_, rfl, ?_⟩
      unfold decB
      rw [if_neg (by omega), if_neg (by omega), if_pos (by omega), if_pos (by omega)]
      simp
      omega
    · rw [if_neg (by simp; omega)]
      refine .inl ⟨rfl, .inr ?_⟩
      unfold decB
      rw [if_neg (by omega), if_neg (by omega)]
      by_cases hd : c0 / 16 = 14 ∧ (1 < left ∧ c1 / 64 = 2) ∧ 2 < left ∧ c2 / 64 = 2
      · rw [if_pos hd, if_neg (by omega)]; simp; omega
      · rw [if_neg hd, if_neg (by omega)]; simp; omega
  · rw [stepB_eq hm hz (by omega)]
    by_cases hc : 2 < left ∧ (128 ≤ c1 ∧ c1 ≤ 191) ∧ 128 ≤ c2 ∧ c2 ≤ 191
    · rw [if_pos (by simp; omega)]
      refine .inr ⟨_, rfl, ?_⟩
      unfold decB
      rw [if_neg (by omega), if_neg (by omega), if_pos (by omega), if_pos (by omega)]
      simp
      omega
    · rw [if_neg (by simp; omega)]
      refine .inl ⟨rfl, .inr ?_⟩
      unfold decB
      rw [if_neg (by omega), if_neg (by omega)]
      by_cases hd : c0 / 16 = 14 ∧ (1 < left ∧ c1 / 64 = 2) ∧ 2 < left ∧ c2 / 64 = 2
      · rw [if_pos hd, if_neg (by omega)]; simp; omega
      · rw [if_neg hd, if_neg (by omega)]; simp; omega
  · rw [stepB_eq hm hz (by omega)]
    by_cases hc : 3 < left ∧ (144 ≤ c1 ∧ c1 ≤ 191) ∧ (128 ≤ c2 ∧ c2 ≤ 191) ∧ 128 ≤ c3 ∧ c3 ≤ 191
    · rw [if_pos (by simp; omega)]
      refine .inr ⟨_, rfl, ?_⟩
      unfold decB
      rw [if_neg (by omega), if_neg (by omega), if_neg (by omega), if_pos (by omega), if_pos (by omega)]
      simp
      omega
    · rw [if_neg (by simp; omega)]
      refine .inl ⟨rfl, .inr ?_⟩
      unfold decB
      rw [if_neg (by omega), if_neg (by omega), if_neg (by omega)]
      by_cases hd : c0 / 8 = 30 ∧ (1 < left ∧ c1 / 64 = 2) ∧ (2 < left ∧ c2 / 64 = 2) ∧ 3 < left ∧ c3 / 64 = 2
      · rw [if_pos hd, if_neg (by omega)]; simp; omega
      · rw [if_neg hd]; simp; omega
  · rw [stepB_eq hm hz (by omega)]
    by_cases hc : 3 < left ∧ (128 ≤ c1 ∧ c1 ≤ 191) ∧ (128 ≤ c2 ∧ c2 ≤ 191) ∧ 128 ≤ c3 ∧ c3 ≤ 191
    · rw [if_pos (by simp; omega)]
      refine .inr ⟨_, rfl, ?_⟩
      unfold decB
      rw [if_neg (by omega), if_neg (by omega), if_neg (by omega), if_pos (by omega), if_pos (by omega)]
      simp
      omega
    · rw [if_neg (by simp; omega)]
      refine .inl ⟨rfl, .inr ?_⟩
      unfold decB
      rw [if_neg (by omega), if_neg (by omega), if_neg (by omega)]
      by_cases hd : c0 / 8 = 30 ∧ (1 < left ∧ c1 / 64 = 2) ∧ (2 < left ∧ c2 / 64 = 2) ∧ 3 < left ∧ c3 / 64 = 2
      · rw [if_pos hd, if_neg (by omega)]; simp; omega
      · rw [if_neg hd]; simp; omega
  · rw [stepB_eq hm hz (by omega)]
    by_cases hc : 3 < left ∧ (128 ≤ c1 ∧ c1 ≤ 143) ∧ (128 ≤ c2 ∧ c2 ≤ 191) ∧ 128 ≤ c3 ∧ c3 ≤ 191
    · rw [if_pos (by simp; omega)]
      refine .inr ⟨_, rfl, ?_⟩
      unfold decB
      rw [if_neg (by omega), if_neg (by omega), if_neg (by omega), if_pos (by omega), if_pos (by omega)]
      simp
      omega
    · rw [if_neg (by simp; omega)]
      refine .inl ⟨rfl, .inr ?_⟩
      unfold decB
      rw [if_neg (by omega), if_neg (by omega), if_neg (by omega)]
      by_cases hd : c0 / 8 = 30 ∧ (1 < left ∧ c1 / 64 = 2) ∧ (2 < left ∧ c2 / 64 = 2) ∧ 3 < left ∧ c3 / 64 = 2
      · rw [if_pos hd, if_neg (by omega)]; simp; omega
      · rw [if_neg hd]; simp; omega
  · have hs : stepB left c0 c1 c2 c3 = none := by
      unfold stepB
      rw [hm, if_neg hz, if_pos (by simp)]
    refine .inl ⟨hs, .inr ?_⟩
    unfold decB
    rw [if_neg (by omega)]
    repeat' split
    all_goals simp
    all_goals omega
theorem ite_eq {α : Type} {p q : Prop} [Decidable p] [Decidable q] {a b c d : α} (h : p ↔ q) (h1 : q → a = c) (h2 : ¬ q → b = d) : (if p then a else b) = (if q then c else d) := by
  by_cases hq : q
  · rw [if_pos hq, if_pos (h.2 hq)]; exact h1 hq
  · rw [if_neg hq, if_neg (fun hp => hq (h.1 hp))]; exact h2 hq
def stepAt (s : ByteArray) (pos : Nat) : Option Nat := stepB (s.size - pos) (byteAt s pos) (byteAt s (pos + 1)) (byteAt s (pos + 2)) (byteAt s (pos + 3))
def okFrom (s : ByteArray) (pos : Nat) : Bool :=
  if h : pos < s.size then
    match stepAt s pos with
    | none => false
    | some k => okFrom s (pos + k + 1)
  else true
termination_by s.size - pos
def okText (s : ByteArray) : Bool := decide (s.size ≤ 65535) && okFrom s 0
theorem okFrom_end {s : ByteArray} {pos : Nat} (h : ¬ pos < s.size) : okFrom s pos = true := by rw [okFrom, dif_neg h]
theorem okFrom_bad {s : ByteArray} {pos : Nat} (h : pos < s.size) (hs : stepAt s pos = none) : okFrom s pos = false := by rw [okFrom, dif_pos h, hs]
theorem okFrom_step {s : ByteArray} {pos k : Nat} (h : pos < s.size) (hs : stepAt s pos = some k) : okFrom s pos = okFrom s (pos + k + 1) := by rw [okFrom, dif_pos h, hs]
/-- Is the replacement sign itself written here? -/
def signAt (s : ByteArray) (pos : Nat) : Prop := pos + 2 < s.size ∧ byteAt s pos = 239 ∧ byteAt s (pos + 1) = 191 ∧ byteAt s (pos + 2) = 189
theorem decode_eq {s : ByteArray} {pos : Nat} : Utf8.decode s pos = decB (s.size - pos) (byteAt s pos) (byteAt s (pos + 1)) (byteAt s (pos + 2)) (byteAt s (pos + 3)) := by
  have hv : ∀ n : Nat, n ≤ 2000000000 → (Utf8.valid (n : Int) = true ↔ (n < 55296 ∨ (57344 ≤ n ∧ n ≤ 1114111))) := fun n _ => by
    unfold Utf8.valid
    simp
    omega
  have b1 := byteAt_lt s (pos + 1)
  have b2 := byteAt_lt s (pos + 2)
  have b3 := byteAt_lt s (pos + 3)
  have b0 := byteAt_lt s pos
  have q : ∀ k, (decide (pos + k < s.size) && byteAt s (pos + k) / 64 == 2) = true ↔ (k < s.size - pos ∧ byteAt s (pos + k) / 64 = 2) := fun k => by
    simp
    omega
  unfold Utf8.decode decB
  refine ite_eq Iff.rfl (fun _ => rfl) fun _ => ite_eq ?_ (fun _ => ite_eq Iff.rfl (fun _ => rfl) fun _ => rfl) fun _ => ite_eq ?_ (fun h3 => ite_eq ?_ (fun _ => rfl) fun _ => rfl) fun _ => ite_eq ?_ (fun h4 => ite_eq ?_ (fun _ => rfl) fun _ => rfl) fun _ => rfl
  · rw [Bool.and_eq_true, ← q 1]
    exact and_congr (by simp [byteAt]) Iff.rfl
  · rw [Bool.and_eq_true, Bool.and_eq_true, ← q 1, ← q 2, and_assoc]
    exact and_congr (by simp [byteAt]) Iff.rfl
  · rw [Bool.and_eq_true, decide_eq_true_eq]
    have hlt : byteAt s pos % 16 * 4096 + byteAt s (pos + 1) % 64 * 64 + byteAt s (pos + 2) % 64 ≤ 2000000000 := by omega
    exact and_congr_right fun hge => (hv _ hlt).trans (by
      have hge : 2048 ≤ byteAt s pos % 16 * 4096 + byteAt s (pos + 1) % 64 * 64 + byteAt s (pos + 2) % 64 := hge
      omega)
  · rw [Bool.and_eq_true, Bool.and_eq_true, Bool.and_eq_true, ← q 1, ← q 2, ← q 3, and_assoc, and_assoc]
    exact and_congr (by simp [byteAt]) Iff.rfl
  · rw [Bool.and_eq_true, decide_eq_true_eq]
    have hlt : byteAt s pos % 8 * 262144 + byteAt s (pos + 1) % 64 * 4096 + byteAt s (pos + 2) % 64 * 64 + byteAt s (pos + 3) % 64 ≤ 2000000000 := by omega
    exact and_congr_right fun hge => (hv _ hlt).trans (by
      have hge : 65536 ≤ byteAt s pos % 8 * 262144 + byteAt s (pos + 1) % 64 * 4096 + byteAt s (pos + 2) % 64 * 64 + byteAt s (pos + 3) % 64 := hge
      omega)

/-- The model's decoding tells the same. -/
theorem decode_step {s : ByteArray} {pos : Nat} (h : pos < s.size) :
    (stepAt s pos = none ∧ ((Utf8.decode s pos).1 = 0 ∨ ((Utf8.decode s pos).1 = 65533 ∧ ¬ signAt s pos))) ∨
    (∃ k, stepAt s pos = some k ∧ (Utf8.decode s pos).2 = k + 1 ∧ (Utf8.decode s pos).1 ≠ 0 ∧ ((Utf8.decode s pos).1 = 65533 → signAt s pos)) := by
  rw [decode_eq]
  have := decB_step (left := s.size - pos) (by omega) (byteAt_lt s pos) (byteAt_lt s (pos + 1)) (byteAt_lt s (pos + 2)) (byteAt_lt s (pos + 3))
  unfold signAt stepAt
  rw [show (pos + 2 < s.size) = (2 < s.size - pos) by apply propext; omega]
  exact this
theorem decB_cases {left c0 c1 c2 c3 : Nat} (h : 0 < left) (h0 : 128 ≤ c0) (h00 : c0 < 256) : 128 ≤ (decB left c0 c1 c2 c3).1 ∧ 1 ≤ (decB left c0 c1 c2 c3).2 ∧ (decB left c0 c1 c2 c3).2 ≤ left ∧ (decB left c0 c1 c2 c3).2 ≤ 4 ∧
    (1 < (decB left c0 c1 c2 c3).2 → 128 ≤ c1) ∧ (2 < (decB left c0 c1 c2 c3).2 → 128 ≤ c2) ∧ (3 < (decB left c0 c1 c2 c3).2 → 128 ≤ c3) := by
  unfold decB
  rw [if_neg (by omega)]
  repeat' split
  all_goals simp only []
  all_goals omega
theorem decode_cases {s : ByteArray} {pos : Nat} (h : pos < s.size) : (byteAt s pos < 128 ∧ (Utf8.decode s pos).1 = byteAt s pos ∧ (Utf8.decode s pos).2 = 1) ∨
    (128 ≤ byteAt s pos ∧ 128 ≤ (Utf8.decode s pos).1 ∧ 1 ≤ (Utf8.decode s pos).2 ∧ pos + (Utf8.decode s pos).2 ≤ s.size ∧ ∀ m, pos ≤ m → m < pos + (Utf8.decode s pos).2 → 128 ≤ byteAt s m) := by
  rw [decode_eq]
  by_cases hc : byteAt s pos < 128
  · refine .inl ⟨hc, ?_⟩
    unfold decB
    rw [if_pos hc]
    exact ⟨rfl, rfl⟩
  · obtain ⟨a1, a2, a3, a4, a5, a6, a7⟩ := decB_cases (left := s.size - pos) (c1 := byteAt s (pos + 1)) (c2 := byteAt s (pos + 2)) (c3 := byteAt s (pos + 3)) (by omega) (show 128 ≤ byteAt s pos by omega) (byteAt_lt s pos)
    refine .inr ⟨by omega, a1, a2, by omega, fun m h1 h2 => ?_⟩
    have : m = pos ∨ m = pos + 1 ∨ m = pos + 2 ∨ m = pos + 3 := by omega
    rcases this with rfl | rfl | rfl | rfl
    · omega
    · exact a5 (by omega)
    · exact a6 (by omega)
    · exact a7 (by omega)
end Go.Proofs.YtdgffjkcpbolmaaGreatDoor.X
