/-
  The reader of code, third part: a region whose order is open. What only reads may come up whenever it likes, as long as nothing that was there at the region's beginning is written; what makes memory comes up in one order; the stores come last. No condition.
-/
import Derived.Test.YtdgffjkcpbolmaaGreatDoorFxCode
import Derived.OrdersHeld
import Derived.StillTail
import Derived.Below
namespace Go.Proofs.YtdgffjkcpbolmaaGreatDoor.Fx
open Go Go.RowKit

section
variable {P : Program} {ops : Array Oper} {Q : Exit → Act → World → Prop} {md : Region.Mode} {S : World → Prop} {n : Nat}

def wpAnyHL (P : Program) (md : Region.Mode) (ops : Array Oper) (Q : Exit → Act → World → Prop) (S : World → Prop) (n : Nat) (L : Array Bool → Act → World → Prop) :
    Nat → Array Bool → Act → World → Prop
  | 0, listed, a, w => L listed a w
  | f + 1, listed, a, w => Region.ready md ops listed ≠ [] ∧ ∀ i ∈ Region.ready md ops listed, i < n ∧
      wpOp P ops Q i (fun a' w' => S w' ∧ wpAnyHL P md ops Q S n L f (listed.setIfInBounds i true) a' w') a w

theorem wpAny_of_HL {g : Nat} {L : Array Bool → Act → World → Prop} (hL : ∀ listed a w, L listed a w → wpAny P md ops Q g listed a w) :
    ∀ (f : Nat) (listed : Array Bool) (a : Act) (w : World), wpAnyHL P md ops Q S n L f listed a w → wpAny P md ops Q (f + g) listed a w
  | 0, listed, a, w, h => by rw [Nat.zero_add]; exact hL _ _ _ h
  | f + 1, listed, a, w, h => by
    rw [show f + 1 + g = (f + g) + 1 by omega]
    exact ⟨fun h0 => absurd h0 h.1, fun i hi => wpOp_mono (fun a' w' h' => wpAny_of_HL hL f _ a' w' h'.2) (h.2 i hi).2⟩

theorem wpAnyHL_first {i : Nat} {oi : Oper} {v : Value} {L : Array Bool → Act → World → Prop} (hi : ops[i]? = some oi)
    (hsel : ∀ (j : Nat) (o : Oper) cs b, ops[j]? = some o → o.op ≠ .select cs b)
    (hQ : ∀ c a w, Q (.panic c) (a.put oi.dst v) w → Q (.panic c) a w)
    (hno : ∀ listed, HeadInv md ops n listed → listed.getD i true = false → ∀ j ∈ Region.ready md ops listed, j < n)
    (hdone : ∀ listed a w, L listed a w → ∀ j ∈ Region.ready md ops listed, n ≤ j) :
    ∀ (f : Nat) (listed : Array Bool) (a : Act) (w : World), HeadInv md ops n listed →
      (∀ j oj, ops[j]? = some oj → j ≠ i → listed.getD j true = false → (∀ e ∈ oj.after, Region.binds md e = true → e.on ≠ i) → oi.apart ops oj = true) →
      i ∈ Region.ready md ops listed → YieldsIf P ops S oi v a → S w →
      wpAnyHL P md ops Q S n L f (listed.setIfInBounds i true) (a.put oi.dst v) w → wpAnyHL P md ops Q S n L (f + 1) listed a w := by
  intro f
  induction f with
  | zero =>
    intro listed a w inv _ hr hy hS H
    have hun := (mem_ready.1 hr).1
    refine ⟨fun h => (by rw [h] at hr; cases hr), fun j hj => ?_⟩
    have hjn : j < n := hno listed inv hun j hj
    refine ⟨hjn, ?_⟩
    by_cases hji : j = i
    · subst hji; exact hy.wpOp hi hS ⟨hS, H⟩
    · have := hdone _ _ _ H j (ready_mono hj hji)
      omega
  | succ f ih =>
    intro listed a w inv hfree hr hy hS H
    have hun := (mem_ready.1 hr).1
    refine ⟨fun h => (by rw [h] at hr; cases hr), fun j hj => ?_⟩
    have hjn : j < n := hno listed inv hun j hj
    refine ⟨hjn, ?_⟩
    by_cases hji : j = i
    · subst hji; exact hy.wpOp hi hS ⟨hS, H⟩
    · have h1 := (H.2 j (ready_mono hj hji)).2
      obtain ⟨hjun, oj, hoj, hall⟩ := mem_ready.1 hj
      have hnot : ∀ e ∈ oj.after, Region.binds md e = true → e.on ≠ i := fun e he hb heq => by
        have h1 := hall e he hb
        rw [heq, getD_both hun] at h1
        cases h1
      have h2 := wpOp_putIf hoj (hfree j oj hoj hji hjun hnot) (fun cs b => hsel i oi cs b hi) (fun cs b => hsel j oj cs b hoj) hQ hy h1
      have hfree' : ∀ k ok, ops[k]? = some ok → k ≠ i → (listed.setIfInBounds j true).getD k true = false →
          (∀ e ∈ ok.after, Region.binds md e = true → e.on ≠ i) → oi.apart ops ok = true := fun k ok hk hki hun hno => by
        refine hfree k ok hk hki ?_ hno
        by_cases hjk : j = k
        · subst hjk; exact hjun
        · rw [getD_set_ne true hjk] at hun; exact hun
      refine wpOp_mono (fun a' w' h3 => ⟨h3.2.1, ih (listed.setIfInBounds j true) a' w' (inv.set hj hjn) hfree' (ready_mono hr (Ne.symm hji)) h3.1 h3.2.1 ?_⟩) h2
      rw [Array.setIfInBounds_comm _ _ hji]
      exact h3.2.2

/-- The head's order: numbers, and whether the operation may make memory. -/
def headOK (md : Region.Mode) (ops : Array Oper) (n g : Nat) : List (Nat × Bool) → Array Bool → Bool
  | [], listed => Region.seqB md ops g n listed
  | (k, false) :: r, listed => (Region.ready md ops listed).contains k && Region.free md ops listed k && decide (k < n) && headOK md ops n g r (listed.setIfInBounds k true)
  | (k, true) :: r, listed => decide (Region.ready md ops listed = [k]) && decide (k < n) && headOK md ops n g r (listed.setIfInBounds k true)

def heldA (P : Program) (ops : Array Oper) (Q : Exit → Act → World → Prop) (S : World → Prop) (L : Act → World → Prop) : List (Nat × Bool) → Act → World → Prop
  | [], a, w => L a w
  | (k, false) :: r, a, w => ∃ o v, ops[k]? = some o ∧ YieldsIf P ops S o v a ∧ heldA P ops Q S L r (a.put o.dst v) w
  | (k, true) :: r, a, w => wpOp P ops Q k (fun a' w' => S w' ∧ heldA P ops Q S L r a' w') a w

theorem seqB_ready' {g k : Nat} {listed : Array Bool} (h : Region.seqB md ops g k listed = true) : ∀ j ∈ Region.ready md ops listed, k ≤ j := seqB_ready h

theorem held_HL {g : Nat} {L : Act → World → Prop} (hsel : Region.noSelect ops = true) (hQ : ∀ c a w, ¬ Q (.panic c) a w)
    (hno : ∀ i, i < n → ∀ listed, HeadInv md ops n listed → listed.getD i true = false → ∀ j ∈ Region.ready md ops listed, j < n) :
    ∀ (l : List (Nat × Bool)) (listed : Array Bool) (a : Act) (w : World), HeadInv md ops n listed → headOK md ops n g l listed = true → S w → heldA P ops Q S L l a w →
      wpAnyHL P md ops Q S n (fun listed a w => Region.seqB md ops g n listed = true ∧ L a w) l.length listed a w
  | [], listed, a, w, _, hB, _, h => ⟨hB, h⟩
  | (k, false) :: r, listed, a, w, inv, hB, hS, h => by
    simp only [headOK, Bool.and_eq_true, decide_eq_true_eq] at hB
    obtain ⟨⟨⟨hr, hf⟩, hk⟩, hB'⟩ := hB
    obtain ⟨o, v, h0, hy, h'⟩ := h
    have hr' : k ∈ Region.ready md ops listed := by simpa using hr
    exact wpAnyHL_first h0 (Region.noSelect_spec hsel) (fun c a w hp => absurd hp (hQ _ _ _)) (hno k hk) (fun listed' a' w' hL => seqB_ready hL.1) r.length listed a w inv (Region.free_spec h0 hf) hr' hy hS
      (held_HL hsel hQ hno r _ _ w (inv.set hr' hk) hB' hS h')
  | (k, true) :: r, listed, a, w, inv, hB, hS, h => by
    simp only [headOK, Bool.and_eq_true, decide_eq_true_eq] at hB
    obtain ⟨⟨hr, hk⟩, hB'⟩ := hB
    refine ⟨fun h0 => (by rw [hr] at h0; cases h0), fun i hi => ?_⟩
    have hi' := hi
    rw [hr] at hi
    have : i = k := by simpa using hi
    subst this
    exact ⟨hk, wpOp_mono (fun a' w' h3 => ⟨h3.1, held_HL hsel hQ hno r _ a' w' (inv.set hi' hk) hB' h3.1 h3.2⟩) h⟩

def planOK (ops : Array Oper) (n : Nat) (l : List (Nat × Bool)) : Bool :=
  Region.noSelect ops && decide (l.length = n) && headOK .any ops n (ops.size - n) l (Array.replicate ops.size false) &&
  (decide (n = ops.size) || (decide (n < ops.size) && Region.sinkB .any ops n && Region.chainB .any ops n))

theorem region_held {id : Nat} {a : Act} {w : World} {l : List (Nat × Bool)} (hm : P.follows .mixedOrders = true) (hQ : ∀ c a w, ¬ Q (.panic c) a w) (hp : planOK ops n l = true)
    (hS : S { w with drawn := w.drawn + 1 })
    (h : heldA P ops Q S (fun a w => wpList P ops Q (ops.toList.drop n) a w) l a { w with drawn := w.drawn + 1 }) : (Code.region id ops true).wp P Q a w := by
  simp only [planOK, Bool.and_eq_true, Bool.or_eq_true, decide_eq_true_eq] at hp
  obtain ⟨⟨⟨hsel, hlen⟩, hB⟩, hcase⟩ := hp
  have hns : n ≤ ops.size := by rcases hcase with h | h <;> omega
  have inv0 : HeadInv .any ops n (Array.replicate ops.size false) :=
    ⟨by simp, fun j oj _ hl => (by rw [getD_replicate_false] at hl; cases hl), fun t _ ht => getD_in (by simpa using ht) (getD_replicate_false _ _)⟩
  have hno : ∀ i, i < n → ∀ listed, HeadInv .any ops n listed → listed.getD i true = false → ∀ j ∈ Region.ready .any ops listed, j < n := by
    intro i hi listed inv hun j hj
    rcases hcase with h | ⟨⟨hn, hs⟩, hc⟩
    · obtain ⟨_, oj, hoj, _⟩ := mem_ready.1 hj
      have := (Array.getElem?_eq_some_iff.1 hoj).1
      omega
    · rcases Nat.lt_or_ge j n with h | h
      · exact h
      · exact absurd hj (tail_waits hs hc hn inv _ i rfl hi hun j h)
  have H := held_HL (md := .any) (g := ops.size - n) hsel hQ hno l _ a _ inv0 hB hS h
  refine wp_region_any hm ?_
  have := wpAny_of_HL (md := .any) (Q := Q) (g := ops.size - n) (fun listed a' w' hL => by
    have := wpAny_of_seq (md := .any) (Q' := Q) (ops.toList.drop n) n listed a' w' (fun j => by simp [List.getElem?_drop]) (by simpa using hL.1) hL.2
    simpa using this) _ _ _ _ H
  rw [hlen, show n + (ops.size - n) = ops.size by omega] at this
  exact this
end
end Go.Proofs.YtdgffjkcpbolmaaGreatDoor.Fx
