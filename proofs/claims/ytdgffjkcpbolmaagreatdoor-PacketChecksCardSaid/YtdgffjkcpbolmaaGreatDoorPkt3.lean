/-
  The program's packet: texts, filters, qualities, length. No condition.
-/
import Derived.Test.YtdgffjkcpbolmaaGreatDoorPkt2
import Derived.Test.YtdgffjkcpbolmaaGreatDoorTopic2
import Derived.Test.YtdgffjkcpbolmaaGreatDoorRef2e
namespace Go.Proofs.YtdgffjkcpbolmaaGreatDoor.X
open Go Go.RowKit Go.Proofs.YtdgffjkcpbolmaaGreatDoor.Fx
set_option maxRecDepth 100000
set_option linter.unusedVariables false
set_option linter.unusedSimpArgs false
theorem callF_ok {P : Program} {w : World} {f : FuncId} {first args caps : Array Value} {k : Value → World → Prop} (h : CallF P f (first ++ args ++ caps) w k) : XN P (callF (.func (.func f) first caps) args) w k := by
  obtain ⟨hf, hc⟩ := h
  have hrun : (callF (.func (.func f) first caps) args).run P w = .ok (.enter f (first ++ args ++ caps)) w := by
    have : callF (.func (.func f) first caps) args = callFunc f ((first ++ args) ++ caps) := rfl
    rw [this, callFunc_enters hf]
  unfold XN
  rw [hrun]
  exact hc
theorem callF0_ok {P : Program} {w : World} {f : FuncId} {args caps : List Value} {k : Value → World → Prop} (h : CallF P f (args ++ caps).toArray w k) : XN P (callF (.func (.func f) #[] caps.toArray) args.toArray) w k :=
  callF_ok (by simpa using h)
theorem load_blk1 {P : Program} {w : World} {T b o T0 : Nat} {cs : List Value} {v : Value} {k : Value → World → Prop} [PT P T] (hb : Blk w b cs T0) (hc : cs[o]? = some v) (hk : k v w) : XV P (Instr.loadAt T (.pointer (some ⟨b, o, none⟩))) w k := by
  rw [XV_eq (run_loadAt PT.eq ((hb.cell o).trans hc))]; exact hk
theorem store_blk1 {P : Program} {w : World} {T b o T0 : Nat} {cs : List Value} {u x : Value} {k : World → Prop} [OT P T] (hb : Blk w b cs T0) (hx : oneCell x = true) (hc : cs[o]? = some u)
    (hk : ∀ w', Blk w' b (cs.set o x) T0 → Chg (· = b) w w' → w'.heap.size = w.heap.size → k w') : XU P (Instr.storeAt T (.pointer (some ⟨b, o, none⟩)) x) w k := by
  rw [XU_eq (run_storeAt OT.eq hx ((hb.cell o).trans hc) (hb.free _))]
  exact hk _ (hb.set _ _) (chg_set _ _ _ _) (size_set _ _ _ _)
section
variable {w w0 : World} {p : Pk} {m : Msg} {cs : List Value} {k : Value → World → Prop}
theorem geqI {T : TypeId} {c : Bool} {K : IntKind} {a b : Int} (hk : k (.bool (decide (a ≥ b))) w) : XV P (binS .geq T c (.int K a) (.int K b)) w k := by rw [x_geq]; exact hk
theorem eqlI {T : TypeId} {c : Bool} {K : IntKind} {a b : Int} (hk : k (.bool (a == b)) w) : XV P (binS .eql T c (.int K a) (.int K b)) w k := by rw [x_eql]; exact hk
theorem notI {b : Bool} (hk : k (.bool (!b)) w) : XV P (Op.unary .not (.bool b)) w k := by rw [x_not]; exact hk
theorem pText_ok {s : ByteArray} (hk : ∀ w' r, Ext w w' → (r = true ↔ okText s = true) → k (.bool r) w') : CallF P 121 #[.string s] w k := by
  refine c121 _ _ _ ?_
  unfold S121_0
  refine wCheck_ok (Ext.refl w) fun w1 n e e1 he => ext_ok rfl (ext_ok rfl (eqlI ?_))
  exact hk _ _ e1 (by rw [← he]; simp)
/-- A function value that answers whether Q holds, and changes nothing that is there. -/
def Asks (w : World) (fv : Value) (arg : Value) (Q : Prop) : Prop := ∀ w' (k' : Value → World → Prop), Ext w w' → (∀ w'' r, Ext w' w'' → (r = true ↔ Q) → k' (.bool r) w'') → XN P (callF fv #[arg]) w' k'
theorem hasStr_ok {v fv : Value} {xs : List ByteArray} {Q : ByteArray → Prop} (hv : Sl Kn.str w0 v xs) (h0 : Ext w0 w) (hf : ∀ x ∈ xs, Asks w fv (.string x) (Q x)) (hk : ∀ w' r, Ext w w' → (r = true ↔ ∃ x ∈ xs, Q x) → k (.bool r) w') :
    CallF P 195 #[v, fv] w k := by
  refine c195 _ _ _ _ ?_
  unfold S195_0
  refine c207 _ _ _ _ ?_
  unfold S207_0 B207_0
  have hl := hv.le
  refine len_sl hv ?_
  unfold S207_1
  refine LoopP.of (fun t w' => ∃ i : Nat, t = (v, fv, .int .i64 xs.length, .int .i64 i) ∧ i ≤ xs.length ∧ Ext w w' ∧ ∀ j x, j < i → xs[j]? = some x → ¬ Q x) (fun t _ => xs.length - ctr t.2.2.2) ⟨0, rfl, Nat.zero_le _, Ext.refl _, fun j x h => by omega⟩ ?_
  rintro _ w2 ⟨i, rfl, hi, e2, hm⟩
  unfold S207_2
  refine lt_cond (fun hlt => ?_) fun hge => ?_
  · obtain ⟨x, hx⟩ := lt_some hlt
    refine LI_sl hv rfl (h0.trans e2) hx (fun _ h => h) ?_
    refine hf x (List.mem_of_getElem? hx) w2 _ e2 fun w3 r e3 hr => condW_b (fun h => ?_) fun h => ?_
    · refine geqI (hk _ _ (e2.trans e3) ⟨fun _ => ⟨x, List.mem_of_getElem? hx, hr.1 h⟩, fun _ => ?_⟩)
      rw [decide_eq_true_eq]; show (i : Int) ≥ 0; omega
    · refine add1_ok (by omega) ⟨⟨i + 1, rfl, by omega, e2.trans e3, fun j y hj hy => ?_⟩, by simp only [ctr]; omega⟩
      by_cases hji : j = i
      · subst hji; rw [hx] at hy; obtain rfl := Option.some.inj hy; exact fun hq => by rw [hr.2 hq] at h; cases h
      · exact hm j y (by omega) hy
  · refine geqI (hk _ _ e2 ⟨fun h => (by cases h), ?_⟩)
    rintro ⟨x, hx, hq⟩
    obtain ⟨j, hj⟩ := List.getElem?_of_mem hx
    exact absurd hq (hm j x (by have := (List.getElem?_eq_some_iff.1 hj).1; omega) hj)
theorem hasAsk_ok {v fv : Value} {xs : List (ByteArray × Int)} {Q : ByteArray × Int → Prop} (hv : Sl Kn.ask w0 v xs) (h0 : Ext w0 w) (hf : ∀ x ∈ xs, Asks w fv (.agg #[.string x.1, .int .i64 x.2]) (Q x)) (hk : ∀ w' r, Ext w w' → (r = true ↔ ∃ x ∈ xs, Q x) → k (.bool r) w') :
    CallF P 196 #[v, fv] w k := by
  refine c196 _ _ _ _ ?_
  unfold S196_0
  refine c208 _ _ _ _ ?_
  unfold S208_0 B208_0
  have hl := hv.le
  refine len_sl hv ?_
  unfold S208_1
  refine LoopP.of (fun t w' => ∃ i : Nat, t = (v, fv, .int .i64 xs.length, .int .i64 i) ∧ i ≤ xs.length ∧ Ext w w' ∧ ∀ j x, j < i → xs[j]? = some x → ¬ Q x) (fun t _ => xs.length - ctr t.2.2.2) ⟨0, rfl, Nat.zero_le _, Ext.refl _, fun j x h => by omega⟩ ?_
  rintro _ w2 ⟨i, rfl, hi, e2, hm⟩
  unfold S208_2
  refine lt_cond (fun hlt => ?_) fun hge => ?_
  · obtain ⟨x, hx⟩ := lt_some hlt
    refine LI_slA hv rfl (h0.trans e2) hx fun cs hcs => ?_
    obtain rfl : cs = [.string x.1, .int .i64 x.2] := hcs
    refine hf x (List.mem_of_getElem? hx) w2 _ e2 fun w3 r e3 hr => condW_b (fun h => ?_) fun h => ?_
    · refine geqI (hk _ _ (e2.trans e3) ⟨fun _ => ⟨x, List.mem_of_getElem? hx, hr.1 h⟩, fun _ => ?_⟩)
      rw [decide_eq_true_eq]; show (i : Int) ≥ 0; omega
    · refine add1_ok (by omega) ⟨⟨i + 1, rfl, by omega, e2.trans e3, fun j y hj hy => ?_⟩, by simp only [ctr]; omega⟩
      by_cases hji : j = i
      · subst hji; rw [hx] at hy; obtain rfl := Option.some.inj hy; exact fun hq => by rw [hr.2 hq] at h; cases h
      · exact hm j y (by omega) hy
  · refine geqI (hk _ _ e2 ⟨fun h => (by cases h), ?_⟩)
    rintro ⟨x, hx, hq⟩
    obtain ⟨j, hj⟩ := List.getElem?_of_mem hx
    exact absurd hq (hm j x (by have := (List.getElem?_eq_some_iff.1 hj).1; omega) hj)
def badF : Value := .func (.func 193) #[] #[]
theorem badF_ok {x : ByteArray} : Asks w badF (.string x) (refFilter x ≠ 0) := fun w' k' e hk => by
  refine callF0_ok (args := [.string x]) (caps := []) (c193 _ _ _ ?_)
  unfold S193_0
  refine filter_ok (Ext.refl _) fun w2 e2 => ?_
  rw [x_neq]
  exact hk _ _ e2 (by simp)
theorem badAsk_ok {b T0 : Nat} {x : ByteArray × Int} (hb : Blk w b [badF] T0) : Asks w (.func (.func 197) #[] #[.pointer (some ⟨b, 0, none⟩)]) (.agg #[.string x.1, .int .i64 x.2]) (refFilter x.1 ≠ 0) := fun w' k' e hk => by
  refine callF0_ok (args := [.agg #[.string x.1, .int .i64 x.2]]) (caps := [.pointer (some ⟨b, 0, none⟩)]) (c197 _ _ _ _ ?_)
  unfold S197_0
  refine box_ok fun w2 b2 e2 n2 hB z2 => load_blk1 ((hb.ext e).ext e2) rfl (LB_blk hB rfl ?_)
  refine badF_ok (w := w2) w2 _ (Ext.refl _) fun w3 r e3 hr => ?_
  exact hk _ _ (e2.trans e3) hr
theorem filters_ok (hp : Kn.pk.rep w0 p cs) (h0 : Ext w0 w) (hk : ∀ w' r, Ext w w' → (r = true ↔ ¬ BadFilters p) → k (.bool r) w') : CallF P 123 #[.agg cs.toArray] w k := by
  obtain ⟨vw, vp, vm, va, vc, vf, rfl, h1, h2, h3, h4, h5, h6⟩ := hp
  refine c123 _ _ _ ?_
  unfold S123_0
  refine box_ok fun w1 b e1 n1 hB z1 => alloc_ok (T := 160) (zs := [.nilFunc]) (by kernel_rfl) fun w2 c e2 n2 hC z2 => ?_
  refine store_blk1 hC rfl rfl fun w3 hC c3 z3 => ?_
  have e : Ext w w3 := e1.trans (e2.chg_new c3 fun i hi => by omega)
  have hB := (hB.ext e2).chg c3 (by have := hB.lt; omega)
  refine LB_blk hB rfl (load_blk1 hC rfl ?_)
  refine hasStr_ok (Q := fun x => refFilter x ≠ 0) h6 (h0.trans e) (fun x _ => badF_ok) fun w4 r e4 hr => ?_
  rw [x_not]
  refine gd_b (fun h => ?_) fun h => ?_
  · refine LB_blk (hB.ext e4) rfl ?_
    rw [XV_eq (show (Instr.makeFunc (.func 197) #[] #[.pointer (some ⟨c, 0, none⟩)]).run P w4 = .ok (.func (.func 197) #[] #[.pointer (some ⟨c, 0, none⟩)]) w4 from rfl)]
    refine hasAsk_ok (Q := fun x => refFilter x.1 ≠ 0) h4 (h0.trans (e.trans e4)) (fun x _ => badAsk_ok (hC.ext e4)) fun w5 r5 e5 hr5 => ?_
    rw [x_not]
    refine hk _ _ (e.trans (e4.trans e5)) ?_
    unfold BadFilters
    clear hk
    grind
  · refine hk _ _ (e.trans e4) ?_
    unfold BadFilters
    clear hk
    grind
end
end Go.Proofs.YtdgffjkcpbolmaaGreatDoor.X
