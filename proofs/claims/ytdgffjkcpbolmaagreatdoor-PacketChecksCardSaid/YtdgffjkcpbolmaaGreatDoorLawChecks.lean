/-
  The law PacketChecks answers true at every packet, and the packet reads behind the call as it did. Condition: the two tables crier/packet.has and crier/packet.flags read as the program's text lays them (the card ties them).
-/
import Derived.Test.YtdgffjkcpbolmaaGreatDoorRows
import Derived.Test.YtdgffjkcpbolmaaGreatDoorCards
import Derived.Test.YtdgffjkcpbolmaaGreatDoorTie
import Derived.Test.YtdgffjkcpbolmaaGreatDoorRead
import Derived.Test.YtdgffjkcpbolmaaGreatDoorChecks
import Derived.ProofKit
import Derived.OpenShut
import Derived.LaidMore
import Derived.ChangeOld
import Derived.Stop.Joined
import Derived.SevenTiedAt
namespace Go.Proofs.YtdgffjkcpbolmaaGreatDoor.X
open Go Go.ChangeShapes Go.WideShapes Go.ChangeAt Go.RowKit Go.Proofs.YtdgffjkcpbolmaaGreatDoor.Fx
set_option maxRecDepth 100000
set_option linter.unusedVariables false
theorem own : ownKnob Tryz.prog.godebug = none := by kernel_rfl
theorem laidOut : laidOutB Tryz.prog = true := by kernel_rfl
def hasZ : List Int := [0, 1, 2, 4, 8, 8, 8, 8, 24, 40, 72, 8, 0, 0, 0]
def flagsZ : List Int := [0, 0, 0, 0, 0, 0, 2, 0, 2, 0, 2, 0, 0, 0, 0]
/-- A table of fifteen numbers, cell by cell. -/
theorem arr_cells {W : World} {g : Nat} {cs : Array Value} {H : Type} {enc : TypeId × Value → H} {spare : Nat → Bool} {held : Bool} {fuel : Nat} {pl : List MemPlace} {zs : List Int} (hz : zs.length = 15)
    (hv : ∀ r, W.cell? ⟨g, r, none⟩ = cs[r]?) (hd : DataW.trod enc Tryz.prog W 0 spare held fuel 159 cs.toList = some (.agg (zs.map fun n => .lit (.int .i64 n)), pl)) : ∀ r, r < 15 → W.cell? ⟨g, r, none⟩ = some (.int .i64 (zs.getD r 0)) := by
  intro r hr
  obtain ⟨xs, m, _, ex, _, hl, hel⟩ := DataW.trod_array Tryz.underlying159 hd
  have c3 : Tryz.prog.cellsOf 3 = 1 := by kernel_rfl
  have hE := hel r hr
  rw [c3, Nat.mul_one, List.getElem?_eq_getElem (by omega)] at hE
  obtain ⟨z, e1, e2, _⟩ := DataW.trod_int Tryz.underlying3 hE
  have e3 : (xs.map (·.1)) = zs.map fun n => .lit (.int .i64 n) := (DataW.agg.inj (Prod.mk.inj ex).1).symm
  have e4 : (xs.map (·.1))[r]? = (zs.map fun n => (DataW.lit (.int .i64 n) : DataW H))[r]? := by rw [e3]
  rw [List.getElem?_map, List.getElem?_map, List.getElem?_eq_getElem (by omega : r < xs.length), List.getElem?_eq_getElem (by omega : r < zs.length), e2] at e4
  have hz : z = zs.getD r 0 := by
    simp only [Option.map_some, Option.some.injEq, DataW.lit.injEq, Lit.int.injEq, true_and] at e4
    rw [e4, List.getD, List.getElem?_eq_getElem (by omega : r < zs.length)]; rfl
  rw [hv r, ← hz]
  have : cs.toList[r]? = some (.int .i64 z) := by
    have h0 : ((cs.toList.drop r).take 1)[0]? = some (.int .i64 z) := by rw [e1]; rfl
    simpa using h0
  simpa using this
theorem tabs_of {W : World} (h : laidMetH Tryz.prog Rows.packetChecksRow.laid W) : Tabs W := by
  rw [MakeChecks.laidMetH_plain _ _ _ (by kernel_rfl)] at h
  obtain ⟨ps, ⟨g0, t0, cs0, f0, p0, q0, hg0, ht0, hv0, hd0, ⟨g1, t1, cs1, f1, p1, q1, hg1, ht1, hv1, hd1, _, _⟩, _⟩, _, _⟩ := h
  obtain rfl := Option.some.inj ((show Tryz.prog.globalNamed "crier/packet.has" = some 0 by kernel_rfl).symm.trans hg0)
  obtain rfl := Option.some.inj ((show Tryz.prog.globalNamed "crier/packet.flags" = some 1 by kernel_rfl).symm.trans hg1)
  obtain rfl := Option.some.inj ((show (Tryz.prog.globals[0]?).map (·.type) = some 159 by kernel_rfl).symm.trans ht0)
  obtain rfl := Option.some.inj ((show (Tryz.prog.globals[1]?).map (·.type) = some 159 by kernel_rfl).symm.trans ht1)
  exact ⟨arr_cells (zs := hasZ) rfl (World.var?_cell hg0 hv0) hd0, arr_cells (zs := flagsZ) rfl (World.var?_cell hg1 hv1) hd1⟩
theorem door_met (os : Os) (args : Array Value) : laidMetH Tryz.prog Rows.packetChecksRow.laid ((World.doorLaid Tryz.prog 34 os).forCall (fun _ _ => 0) ⟨#[], args, []⟩).memory :=
  laidMetH_of_parts3 (fuel := 8) (laidMet_of_run' 8 (by kernel_rfl) (by kernel_rfl)) (by kernel_rfl) (by kernel_rfl)
def pk0 : Value := .agg #[.int .i64 0, .int .i64 0, .bool false, .int .i64 0, .string ⟨#[]⟩, .bool false, .string ⟨#[]⟩, .slice none 0 0, .int .i64 0, .bool false, .bool false, .string ⟨#[]⟩, .bool false, .slice none 0 0, .bool false, .int .i64 0, .bool false,
  .string ⟨#[]⟩, .slice none 0 0, .int .i64 0, .bool false, .int .i64 0, .slice none 0 0, .slice none 0 0, .slice none 0 0]
theorem lifted (os : Os) (started : os.Started) (H : Type) (enc : TypeId × Value → H) :
    ReturnsInHanded {} Tryz.checked os 4 .any (fun w args => (Rows.packetChecksSpec.pre enc Tryz.prog Tryz.f4 [] false w args ∧ laidMetH Tryz.prog Rows.packetChecksRow.laid w) ∧ sizedMet enc Tryz.prog Tryz.f4 (OpenSpec.ofChange Rows.packetChecksSpec) false w args)
      (Rows.packetChecksSpec.post enc Tryz.prog Tryz.f4 false true false false) := by
  refine returnsInHanded_of_change_and (C := Tryz.checked) (X := fun w _ => laidMetH Tryz.prog Rows.packetChecksRow.laid w) (fun _ _ _ hh h => h.of_heap hh) own started (by kernel_rfl) Tryz.func4
    (ChangeSpec.witness_shaped (enc := enc) (C := Tryz.checked) (os := os) (X := fun w _ => laidMetH Tryz.prog Rows.packetChecksRow.laid w) false (World.doorLaid Tryz.prog 34 os) #[pk0] 8 rfl (World.shaped_of_RefB (by kernel_rfl) (by kernel_rfl)) (by kernel_rfl) (by kernel_rfl) (by kernel_rfl) (door_met os _)) ?_
  intro W base args ds gs before hval0 hW _ _ hL _
  have hval : ∀ (j : Nat) t v, Tryz.f4.params[j]? = some t → args[j]? = some v → Value.okWide Tryz.prog W .any base t v := hval0
  have hW' := hW
  obtain ⟨p, q, hA0, hV, rfl, hfz, hnd⟩ := hW
  have hA : DataW.TrodAll enc Tryz.prog W 0 (fun _ => true) true Tryz.f4.params.toList args.toList ds p := hA0
  rw [Tryz.params4] at hA hval
  obtain ⟨v0, vs0, d0, ds0, p0, q0, hargs, rfl, rfl, h0, r0⟩ := trodAll_cons hA
  obtain ⟨rfl, rfl, rfl⟩ := trodAll_nil r0
  obtain rfl : args = #[v0] := by cases args; simp_all
  obtain ⟨rfl, rfl⟩ := trodVars_none hV
  have ok0 := hval 0 29 v0 rfl rfl
  unfold Value.okWide at ok0
  rw [Tryz.underlying29] at ok0
  obtain ⟨cs, rfl, _⟩ := ok0
  have k0 := h0
  have lt0 : ∀ x ∈ p0, x.block < W.heap.size := by obtain ⟨m, hm⟩ := k0; exact DataW.trod_lt m _ _ _ hm
  obtain ⟨fuel, hf⟩ := h0
  obtain ⟨pk, hpk, hfit⟩ := rd_pkt _ _ _ hf
  clear hA0 hval0 hA hval
  have hc := checksLaw_ok (w := W) (cs := cs.toList) (k := fun v w' => v = .bool true ∧ Ext W w') hpk hfit (tabs_of hL) (fun w' e => ⟨rfl, e⟩)
  refine hc.2.mono fun e W' he => ?_
  cases e <;> try exact he.elim
  obtain ⟨rfl, bel⟩ := he
  exact ⟨_, rfl, _, _, _, [], _, [], hW', trodAll_mk1 (shut_bool Tryz.underlying4 _), (trodAll_cons_mk (Below.trod laidOut (by kernel_rfl) (of_decide_eq_true (by kernel_rfl)) k0 bel lt0) trodAll_mk0), rfl, bel.frame _, fun h => by cases h⟩
theorem checks_row : Rows.PacketChecksSaid :=
  OpenClaim.holds_of_wide 4 Tryz.f4 rfl rfl rfl rfl rfl rfl rfl ⟨rfl, rfl, rfl, rfl, rfl⟩ rfl rfl rfl rfl rfl (by kernel_rfl) Tryz.func4 (by kernel_rfl)
    (of_decide_eq_true (by kernel_rfl)) (by unfold Func.isWrapper; first | (rw [if_pos (by decide +kernel)]; kernel_rfl) | (rw [if_neg (by decide +kernel)]; exact ⟨rfl, rfl⟩))
    (fun os started H enc _ => lifted os started H enc)
end Go.Proofs.YtdgffjkcpbolmaaGreatDoor.X
namespace Go.Proofs.YtdgffjkcpbolmaaGreatDoor
open Go
/-- The card: the row, with its tables tied to the program's text. -/
theorem packetChecks_card : Rows.PacketChecksCardSaid :=
  Claim7.holds_tied_plain_at .later [] [.data, .data] true _ false X.checks_row (fun _ h => by cases h) (by kernel_rfl) (fun _ h => by cases h) packetChecks_row_tie rfl ⟨rfl, rfl⟩ (by kernel_rfl) rfl
    (fun f fn hf hfn => by
      obtain rfl : f = 4 := Option.some.inj ((show Tryz.prog.funcNamed "crier/crierlaw2.PacketChecks" = some 4 by kernel_rfl).symm.trans hf) |>.symm
      obtain rfl : fn = Tryz.f4 := (Option.some.inj (Tryz.func4.symm.trans hfn)).symm
      exact ⟨by kernel_rfl, fun j t ht => by
        rw [Tryz.params4] at ht
        have hm : t ∈ [29] := by simpa using Array.mem_of_getElem? ht
        have hall : ([29].all fun u => !Tryz.prog.wantsStandIn u) = true := by kernel_rfl
        exact (show Tryz.prog.wantsStandIn t = false by simpa using List.all_eq_true.1 hall t hm)⟩)
    (by kernel_rfl)
#print axioms packetChecks_card
end Go.Proofs.YtdgffjkcpbolmaaGreatDoor
