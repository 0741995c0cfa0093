/-
  The law PacketChecks, walked: it answers true. No condition.
-/
import Derived.Test.YtdgffjkcpbolmaaGreatDoorGChecks
import Derived.Test.YtdgffjkcpbolmaaGreatDoorPkt5
import Derived.Test.YtdgffjkcpbolmaaGreatDoorCount
import Derived.Test.YtdgffjkcpbolmaaGreatDoorRef2a
import Derived.Test.YtdgffjkcpbolmaaGreatDoorLay3
import Derived.Test.YtdgffjkcpbolmaaGreatDoorHold
namespace Go.Proofs.YtdgffjkcpbolmaaGreatDoor.X
open Go Go.RowKit Go.Proofs.YtdgffjkcpbolmaaGreatDoor.Fx
set_option maxRecDepth 100000
set_option linter.unusedVariables false
set_option linter.unusedSimpArgs false
theorem LBSA_blk {P : Program} {w0 w' : World} {S T f d b o T0 n : Nat} {cs vs : List Value} {k : Value → Prop} [FO P S f d] [AT P T] [SzT P T n] (hb : Blk w0 b cs T0) (he : Ext w0 w') (hv : (cs.drop (o + d)).take n = vs) (hl : vs.length = n)
    (hk : k (.agg vs.toArray)) : LBS P (Ext w') S T f (.pointer (some ⟨b, o, none⟩)) k :=
  XS_of (fun w => run_fieldAt FO.eq) (XS_at (fun u hu => run_loadAgg AT.eq SzT.eq hl (fun j x hx => by
    rw [((hb.ext he).ext hu).cell, ← hx, ← hv]
    have hj : j < vs.length := (List.getElem?_eq_some_iff.1 hx).1
    rw [List.getElem?_take_of_lt (by omega), List.getElem?_drop])) hk)
section
variable {w w0 : World} {p : Pk} {k : Value → World → Prop}
theorem gd_tw {A B : Prop} (h : A) : gd (.bool true) true A B := h
theorem Pk.cells_rep {vw vp vm va vc vf : Value} (hw : Sl Kn.byte w vw p.will.payload) (hp : Sl Kn.byte w vp p.pass) (hm : Sl Kn.byte w vm p.msg.payload) (ha : Sl Kn.ask w va p.asks) (hc : Sl Kn.int w vc p.codes) (hf : Sl Kn.str w vf p.filters) :
    Kn.pk.rep w p (p.cells vw vp vm va vc vf) := ⟨vw, vp, vm, va, vc, vf, rfl, hw, hp, hm, ha, hc, hf⟩
theorem tells_ok {ca cb : List Value} (ha : Kn.pk.rep w0 p ca) (hb : Kn.pk.rep w0 p cb) (h0 : Ext w0 w) (ht : Tabs w) (hs : Small p) (hk : ∀ w', Ext w w' → k (.bool true) w') : CallF P 15 #[.agg ca.toArray, .agg cb.toArray] w k := by
  have ha' := ha
  have hb' := hb
  obtain ⟨vw, vp, vm, va, vc, vf, rfl, h1, h2, h3, h4, h5, h6⟩ := ha
  obtain ⟨uw, up, um, ua, uc, uf, rfl, g1, g2, g3, g4, g5, g6⟩ := hb
  refine c15 _ _ _ _ ?_
  unfold S15_0
  refine box_ok fun w1 b1 e1 n1 hA _ => box_ok fun w2 b2 e2 n2 hB _ => ?_
  replace hA := hA.ext e2
  have e := e1.trans e2
  have d := ext_drew w2
  have eb : Ext w w2.drew := e.trans d
  have ht := ht.ext eb
  have eq1 : ∀ {n : Int}, (Value.bool (n == n)) = .bool true := fun {n} => by simp
  refine LAS_blk hA d rfl (LAS_blk hB d rfl (check_ok ha' (h0.trans eb) ht hs fun w3 e3 => ⟨e3, rCheck_ok hb' ((h0.trans eb).trans e3) hs fun w4 e4 => ⟨e3.trans e4, s_eql ?_⟩⟩))
  rw [eq1]
  have e4 := e3.trans e4
  refine gd_tw (LAS_blk hA d rfl (LAS_blk hB d rfl (flags_ok ha' ((h0.trans eb).trans e4) (ht.ext e4) hs fun w5 e5 => ⟨e4.trans e5, rFlags_ok hb' (((h0.trans eb).trans e4).trans e5) hs fun w6 e6 => ⟨(e4.trans e5).trans e6, s_eql ?_⟩⟩)))
  rw [eq1]
  have e6 := (e4.trans e5).trans e6
  refine gd_tw (LAS_blk hA d rfl (LAS_blk hB d rfl (length2_ok ha' ((h0.trans eb).trans e6) (ht.ext e6) hs fun w7 e7 => ⟨e6.trans e7, rLength_ok hb' (((h0.trans eb).trans e6).trans e7) hs fun w8 e8 => ⟨(e6.trans e7).trans e8, s_eql ?_⟩⟩)))
  rw [eq1]
  have e8 := (e6.trans e7).trans e8
  refine gd_tw (LBSA_blk (o := 0) hA d rfl rfl (LBSA_blk (o := 0) hB d rfl rfl (checkMsg_ok (m := p.msg) ⟨vm, rfl, h3⟩ hs.fits.msg fun w9 e9 => ⟨e8.trans e9, rCheckMsg_ok (m := p.msg) ⟨um, rfl, g3⟩ hs.fits.msg fun w10 e10 => ⟨(e8.trans e9).trans e10, s_eql ?_⟩⟩)))
  rw [eq1]
  exact hk _ (eb.trans ((e8.trans e9).trans e10))
def cs0 : List Value := List.replicate 34 (.slice none 0 0)
theorem cs0_get {i : Nat} {v : Value} (h : cs0[i]? = some v) : v = .slice none 0 0 := by
  unfold cs0 at h
  rw [List.getElem?_replicate] at h
  split at h
  · exact (Option.some.inj h).symm
  · cases h
theorem cs0_some {i : Nat} (h : i < 34) : cs0[i]? = some (.slice none 0 0) := by unfold cs0; rw [List.getElem?_replicate, if_pos h]
theorem rows0 {r b : Nat} (h : rows r cs0 b) : b = r := by
  rcases h with h | ⟨i, v, hi, hv⟩
  · exact h
  · rw [cs0_get hi] at hv; cases hv
theorem RoomInv.new {r : Nat} (hb : Blk w r cs0 51) : RoomInv w r cs0 (· = r) 0 where
  deps b h := rows0 h
  below b h := by rw [h]; exact hb.lt
  blk := hb
  kind j K hK := by
    have hj : j < 4 := (List.getElem?_eq_some_iff.1 hK).1
    exact ⟨_, _, cs0_some (by omega), cs0_some (by omega), [], [], Own.nil _ _ _, Own.nil _ _ _, rfl, Nat.le_refl _, fun i full n h => by simp at h⟩
  none i v _ _ h := cs0_get h
  len := by simp [cs0]
  apart i v b h hv := by rw [cs0_get h] at hv; cases hv
  apart2 i j v u b _ h _ hv := by rw [cs0_get h] at hv; cases hv
theorem sl_one {w : World} {b T cap : Nat} {cs : List Value} (hp : Kn.pk.rep w p cs) (hb : Blk w b cs T) (hc : 1 ≤ cap) : Sl Kn.pk w (.slice (some ⟨b, 0, none⟩) 1 cap) [p] :=
  ⟨_, cap, rfl, ⟨hc, by simp⟩, fun _ => ⟨b, 0, rfl, fun i x hx => by
    have hi : i = 0 := by have := (List.getElem?_eq_some_iff.1 hx).1; simp at this; omega
    subst hi
    simp at hx
    subst hx
    exact ⟨cs, hp, fun j u hu => by rw [Nat.zero_mul, Nat.zero_add, hb.cell]; exact hu⟩⟩⟩
theorem bs1_ok {T E sz bytes : Nat} {cs : List Value} [ApT P T E sz bytes] (hl : cs.length = sz) (hs : sz ≤ 1000000) (hk : ∀ w' b, Ext w w' → Blk w' b cs E → k (.slice (some ⟨b, 0, none⟩) 1 1) w') :
    XV P (Instr.buildSlice T 1 #[(0, .agg cs.toArray)]) w k := by
  rw [XV_eq (run_buildSlice1 (P := P) (T := T) (E := E) (sz := sz) (v := .agg cs.toArray) (by simpa [Value.cells] using hl) hs)]
  exact hk _ _ (ext_alloc _ _) (Blk.new w cs E)
theorem oneP {p : Pk} : pksParts [p] = p.parts := by simp [pksParts]
set_option maxHeartbeats 1000000 in
theorem checksLaw_ok {cs : List Value} (hp : Kn.pk.rep w p cs) (hf : p.Fits 9223372036854775807) (ht : Tabs w) (hk : ∀ w', Ext w w' → k (.bool true) w') : CallF P 4 #[.agg cs.toArray] w k := by
  have hp' := hp
  obtain ⟨vw, vp, vm, va, vc, vf, rfl, h1, h2, h3, h4, h5, h6⟩ := hp
  refine c4 _ _ _ ?_
  unfold S4_0
  refine box_ok fun w1 b1 e1 n1 hB z1 => load_blkA hB rfl ?_
  refine bs1_ok (T := 65) (E := 29) (sz := 25) (cs := p.cells vw vp vm va vc vf) rfl (by omega) fun w2 bs e2 hS => ?_
  have e12 := e1.trans e2
  have hpk2 := Kn.pk_keeps _ _ _ _ hp' e12
  refine few_ok (Ext.refl w2) (sl_one hpk2 hS (Nat.le_refl _)) (fun q hq => by simp at hq; rw [hq]; exact hf) fun w3 r e3 hr => ?_
  refine not_cond (fun h => hk _ (e12.trans e3)) fun h => ?_
  have hs : Small p := Small.of (by have := hr h; rw [oneP] at this; exact this)
  have e13 := e12.trans e3
  rw [XV_eq (show (Instr.build 51 #[]).run P w3 = .ok (.agg cs0.toArray) w3 by kernel_rfl)]
  refine box_ok fun w4 rr e4 n4 hR z4 => ?_
  have e14 := e13.trans e4
  have hB4 := (hB.ext (e2.trans e3)).ext e4
  have hbl := hB.lt
  have s13 := (e2.trans e3).size
  refine load_blkA hB4 rfl ?_
  have hI := RoomInv.new (w := w4) (r := rr) hR
  refine rPacket_ok (w0 := w) hI e14 (fun b hb => by have := rows0 hb; have := e13.size; omega) h1 h2 h3 h4 h5 h6 (by have := hs.wpay; omega) (by have := hs.pass; omega) (by have := hs.mpay; omega) (by have := hs.asksN; omega) (by have := hs.codes; omega) (by have := hs.filtersN; omega) (by omega)
    fun w5 cs5 F5 bw bm bp ba bc bf vw' vp' vm' va' vc' vf' L => ?_
  have e5 : Ext w w5 := e14.chg_new L.lay.chg fun b hb => by have := rows0 hb; have := e13.size; omega
  have hB5 := hB4.chg L.lay.chg fun hb => by have := rows0 hb; omega
  have hin : Kn.pk.rep w5 p (p.cells vw' vp' vm' va' vc' vf') := Pk.cells_rep L.will.sl.sl L.pass.sl.sl L.msg.sl.sl L.asks.sl.sl L.codes.sl.sl L.filters.sl.sl
  have hp5 := Kn.pk_keeps _ _ _ _ hp' e5
  refine alloc_ok (T := 29) (zs := Pk.cells ⟨0, 0, false, 0, ⟨#[]⟩, false, ⟨⟨#[]⟩, [], 0, false⟩, false, ⟨#[]⟩, false, [], false, 0, false, ⟨⟨#[]⟩, [], 0, false⟩, 0, [], [], []⟩ (.slice none 0 0) (.slice none 0 0) (.slice none 0 0) (.slice none 0 0) (.slice none 0 0) (.slice none 0 0)) (by kernel_rfl) fun w6 b6 e6 n6 hN z6 => ?_
  have one : (p.cells vw' vp' vm' va' vc' vf').all oneCell = true := by
    obtain ⟨c1, q1, _⟩ := L.will.sl; obtain ⟨c2, q2, _⟩ := L.pass.sl; obtain ⟨c3, q3, _⟩ := L.msg.sl; obtain ⟨c4, q4, _⟩ := L.asks.sl; obtain ⟨c5, q5, _⟩ := L.codes.sl; obtain ⟨c6, q6, _⟩ := L.filters.sl
    rw [q1, q2, q3, q4, q5, q6]; rfl
  refine store_blkA (T := 29) hN rfl rfl one fun w7 hN7 c7 z7 => ?_
  have e57 : Ext w5 w7 := e6.chg_new c7 fun i hi => by omega
  have hB7 := hB5.ext e57
  have hI7 := L.inv.ext e57
  have e7 := e5.trans e57
  have ht7 := ht.ext e7
  refine load_blkA hN7 rfl (load_blkA hB7 rfl (tells_ok hin hp5 e57 ht7 hs fun w8 e8 => gd_tw ?_))
  refine load_blkA (hN7.ext e8) rfl (load_blkA (hB7.ext e8) rfl (tells_ok hin hp5 (e57.trans e8) (ht7.ext e8) hs fun w9 e9 => gd_tw ?_))
  have e79 := e8.trans e9
  refine load_blkA (hN7.ext e79) rfl (load_blkA (hB7.ext e79) rfl (same_ok (e57.trans e79) hin hp5 fun w10 r10 e10 hr10 => ?_))
  rw [hr10.2 rfl]
  refine gd_tw ?_
  refine Hold_ok (hI7.ext (e79.trans e10)) (by omega) fun w11 e11 => ?_
  exact hk _ (e7.trans ((e79.trans e10).trans e11))
end
end Go.Proofs.YtdgffjkcpbolmaaGreatDoor.X
