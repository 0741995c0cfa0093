/-
  The room: Message and Packet. No condition.
-/
import Derived.Test.YtdgffjkcpbolmaaGreatDoorLay2
namespace Go.Proofs.YtdgffjkcpbolmaaGreatDoor.X
open Go Go.RowKit Go.Proofs.YtdgffjkcpbolmaaGreatDoor.Fx
set_option maxRecDepth 100000
set_option linter.unusedVariables false
theorem Sl.one {α : Type} {E : Kn α} {w : World} {v : Value} {xs : List α} (h : Sl E w v xs) : oneCell v = true := by obtain ⟨a, c, rfl⟩ := h.shape; rfl
theorem SlB.one {α : Type} {E : Kn α} [Flat E] {w : World} {b : Nat} {v : Value} {xs : List α} (h : SlB E w b v xs) : oneCell v = true := by obtain ⟨c, rfl, _⟩ := h; rfl
/-- A room, and a variable beside it. -/
structure Beside (F : Nat → Prop) (w : World) (b : Nat) (cs : List Value) (T : Nat) : Prop where
  blk : Blk w b cs T
  out : ¬ F b
theorem Beside.lay {F F' : Nat → Prop} {w w' : World} {r : Nat} {cs cs' : List Value} {b T : Nat} {l : List Value} (h : Beside F w b l T) (hl : LayS w w' r cs F cs' F') (hd : ∀ b, rows r cs b → F b) : Beside F' w' b l T :=
  ⟨h.blk.chg hl.chg fun hr => h.out (hd b hr), fun hF => (hl.growF b hF).elim h.out fun hge => by have := h.blk.lt; omega⟩
section
variable {w w0 : World} {r L : Nat} {cs : List Value} {F : Nat → Prop} {k : Value → World → Prop}
theorem rMessage_ok {tp : ByteArray} {pv : Value} {q : Int} {rt : Bool} {xs : List UInt8} (hI : RoomInv w r cs F L) (hv : Sl Kn.byte w0 pv xs) (h0 : Ext w0 w) (hx : xs.length ≤ 1000000) (hL : L ≤ 1000000000)
    (hk : Laid Kn.byte w r L cs F xs fun v' w' => k (.agg #[.string tp, v', .int .i64 q, .bool rt]) w') : CallF P 26 #[.pointer (some ⟨r, 0, none⟩), .agg #[.string tp, pv, .int .i64 q, .bool rt]] w k := by
  refine c26 _ _ _ _ ?_
  unfold S26_0
  refine box_ok fun w1 b1 e1 n1 k1 z1 => ?_
  refine alloc_ok (T := 24) (zs := [.string ⟨#[]⟩, .slice none 0 0, .int .i64 0, .bool false]) (by kernel_rfl) fun w2 b2 e2 n2 k2 z2 => ?_
  have B1 : Beside F w2 b1 [.string tp, pv, .int .i64 q, .bool rt] 24 := ⟨k1.ext e2, fun h => by have := hI.below _ h; omega⟩
  have B2 : Beside F w2 b2 [.string ⟨#[]⟩, .slice none 0 0, .int .i64 0, .bool false] 24 := ⟨k2, fun h => by have := hI.below _ h; have := e1.size; omega⟩
  refine LB_blk B1.blk (o := 0) rfl ?_
  have hI2 := hI.ext (e1.trans e2)
  refine Bytes_ok hI2 hv (h0.trans (e1.trans e2)) hx hL fun v' w3 cs' F' b l hI3 hs hb hge hnr => ?_
  have C1 := B1.lay l hI2.deps
  have C2 := B2.lay l hI2.deps
  refine SB_blk C1.blk (SlB.one hs) (o := 0) rfl fun w4 k4 c4 z4 => ?_
  refine load_blkA k4 (T := 24) rfl ?_
  have hne : b2 ≠ b1 := by have := k1.lt; omega
  refine store_blkA (T := 24) (C2.blk.chg c4 fun h => hne h) rfl rfl ?_ fun w5 k5 c5 z5 => ?_
  · obtain ⟨c, rfl, _⟩ := hs; rfl
  refine ret_blkA k5 rfl ?_
  have ch : Chg (fun b => b = b1 ∨ b = b2) w3 w5 := (c4.mono fun b _ h => .inl h).trans (c5.mono fun b _ h => .inr h)
  have hn : ∀ b, F' b → ¬ (b = b1 ∨ b = b2) := by
    rintro b hF (rfl | rfl)
    · exact C1.out hF
    · exact C2.out hF
  have hb1 := B1.blk.lt
  have hb2 := B2.blk.lt
  have hs1 := e1.size
  have hs2 := e2.size
  refine hk v' w5 cs' F' b ⟨(((e1.trans e2).chg _).trans l.chg).chg_new ch ?_, fun c hc => (l.grow c hc).imp id fun h => by omega, fun c hc => (l.growF c hc).imp id fun h => by omega⟩ (hI3.chg ch hn) (hs.chg ch ?_) (by omega) (by omega) hnr
  · rintro i (rfl | rfl) hi <;> omega
  · rintro (rfl | rfl) <;> omega
end
/-! ### a whole packet -/
structure LentB {α : Type} (E : Kn α) [Flat E] (w : World) (r : Nat) (cs : List Value) (b1 b : Nat) (v : Value) (xs : List α) : Prop where
  sl : SlB E w b v xs
  lt : b < w.heap.size
  out : ¬ rows r cs b
  gt : b1 < b
theorem LentB.lay {α : Type} {E : Kn α} [Flat E] {w w' : World} {r b b1 : Nat} {cs cs' : List Value} {F F' : Nat → Prop} {v : Value} {xs : List α} (h : LentB E w r cs b1 b v xs) (l : LayS w w' r cs F cs' F') : LentB E w' r cs' b1 b v xs :=
  ⟨h.sl.chg l.chg h.out, Nat.lt_of_lt_of_le h.lt l.chg.size, fun hr => (l.grow b hr).elim h.out fun hg => by have := h.lt; omega, h.gt⟩
theorem LentB.chg {α : Type} {E : Kn α} [Flat E] {w w' : World} {r b b1 : Nat} {cs : List Value} {M : Nat → Prop} {v : Value} {xs : List α} (h : LentB E w r cs b1 b v xs) (l : Chg M w w') (hn : ¬ M b) : LentB E w' r cs b1 b v xs :=
  ⟨h.sl.chg l hn, Nat.lt_of_lt_of_le h.lt l.size, h.out, h.gt⟩
structure PSt (w0 ws : World) (r : Nat) (cs0 : List Value) (F0 : Nat → Prop) (w : World) (cs : List Value) (F : Nat → Prop) (L b1 b2 : Nat) (c1 c2 : List Value) (T : Nat) : Prop where
  inv : RoomInv w r cs F L
  one : Beside F w b1 c1 T
  two : Beside F w b2 c2 T
  lay : LayS ws w r cs0 F0 cs F
  g1 : ws.heap.size ≤ b1
  g2 : b1 < b2
  base : Ext w0 w
  low : ∀ b, rows r cs b → w0.heap.size ≤ b
  up : w0.heap.size ≤ ws.heap.size
section
variable {w0 ws w w' : World} {r L b1 b2 T : Nat} {cs0 cs cs' c1 c2 c1' : List Value} {F0 F F' : Nat → Prop}
theorem PSt.call (h : PSt w0 ws r cs0 F0 w cs F L b1 b2 c1 c2 T) (l : LayS w w' r cs F cs' F') (hI : RoomInv w' r cs' F' (L + 1)) : PSt w0 ws r cs0 F0 w' cs' F' (L + 1) b1 b2 c1 c2 T :=
  ⟨hI, h.one.lay l h.inv.deps, h.two.lay l h.inv.deps, h.lay.trans l, h.g1, h.g2, h.base.chg_new l.chg h.low, fun b hb => (l.grow b hb).elim (h.low b) fun hg => Nat.le_trans h.base.size hg, h.up⟩
theorem PSt.store (h : PSt w0 ws r cs0 F0 w cs F L b1 b2 c1 c2 T) (hc : Chg (· = b1) w w') (hb : Blk w' b1 c1' T) : PSt w0 ws r cs0 F0 w' cs F L b1 b2 c1' c2 T :=
  ⟨h.inv.chg hc fun b hF e => h.one.out (e ▸ hF), ⟨hb, h.one.out⟩, ⟨h.two.blk.chg hc fun e => by have := h.g2; omega, h.two.out⟩, ⟨h.lay.chg.chg_new hc fun i hi hl => by have := h.g1; omega, h.lay.grow, h.lay.growF⟩, h.g1, h.g2, h.base.chg_new hc fun i hi => by have := h.g1; have := h.up; omega, h.low, h.up⟩
theorem PSt.store2 (h : PSt w0 ws r cs0 F0 w cs F L b1 b2 c1 c2 T) (hc : Chg (· = b2) w w') : RoomInv w' r cs F L ∧ LayS ws w' r cs0 F0 cs F :=
  ⟨h.inv.chg hc fun b hF e => h.two.out (e ▸ hF), ⟨h.lay.chg.chg_new hc fun i hi hl => by have := h.g1; have := h.g2; omega, h.lay.grow, h.lay.growF⟩⟩
end
/-- What laying a packet leaves. -/
structure LaidPk (w : World) (r L : Nat) (cs : List Value) (F : Nat → Prop) (p : Pk) (w' : World) (cs' : List Value) (F' : Nat → Prop) (bw bm bp ba bc bf : Nat) (vw vp vm va vc vf : Value) : Prop where
  lay : LayS w w' r cs F cs' F'
  inv : RoomInv w' r cs' F' (L + 6)
  will : LentB Kn.byte w' r cs' w.heap.size bw vw p.will.payload
  msg : LentB Kn.byte w' r cs' bw bm vm p.msg.payload
  pass : LentB Kn.byte w' r cs' bm bp vp p.pass
  asks : LentB Kn.ask w' r cs' bp ba va p.asks
  codes : LentB Kn.int w' r cs' ba bc vc p.codes
  filters : LentB Kn.str w' r cs' bc bf vf p.filters
theorem LentB.up {α : Type} {E : Kn α} [Flat E] {w : World} {r b b1 b0 : Nat} {cs : List Value} {v : Value} {xs : List α} (h : LentB E w r cs b1 b v xs) (hb : b0 < b) : LentB E w r cs b0 b v xs := ⟨h.sl, h.lt, h.out, hb⟩
theorem rPacket_ok {w w0 : World} {r L : Nat} {cs : List Value} {F : Nat → Prop} {k : Value → World → Prop} {p : Pk} {vw vp vm va vc vf : Value} (hI : RoomInv w r cs F L) (h0 : Ext w0 w) (hlow : ∀ b, rows r cs b → w0.heap.size ≤ b)
    (hw : Sl Kn.byte w0 vw p.will.payload) (hp : Sl Kn.byte w0 vp p.pass) (hm : Sl Kn.byte w0 vm p.msg.payload) (ha : Sl Kn.ask w0 va p.asks) (hc : Sl Kn.int w0 vc p.codes) (hf : Sl Kn.str w0 vf p.filters)
    (l1 : p.will.payload.length ≤ 1000000) (l2 : p.pass.length ≤ 1000000) (l3 : p.msg.payload.length ≤ 1000000) (l4 : p.asks.length ≤ 1000000) (l5 : p.codes.length ≤ 1000000) (l6 : p.filters.length ≤ 1000000) (hL : L ≤ 1000000)
    (hk : ∀ w' cs' F' bw bm bp ba bc bf vw' vp' vm' va' vc' vf', LaidPk w r L cs F p w' cs' F' bw bm bp ba bc bf vw' vp' vm' va' vc' vf' → k (.agg (p.cells vw' vp' vm' va' vc' vf').toArray) w') :
    CallF P 8 #[.pointer (some ⟨r, 0, none⟩), .agg (p.cells vw vp vm va vc vf).toArray] w k := by
  refine c8 _ _ _ _ ?_
  unfold S8_0
  refine box_ok fun w1 b1 e1 n1 k1 z1 => ?_
  refine alloc_ok (T := 29) (zs := Pk.cells ⟨0, 0, false, 0, ⟨#[]⟩, false, ⟨⟨#[]⟩, [], 0, false⟩, false, ⟨#[]⟩, false, [], false, 0, false, ⟨⟨#[]⟩, [], 0, false⟩, 0, [], [], []⟩ (.slice none 0 0) (.slice none 0 0) (.slice none 0 0) (.slice none 0 0) (.slice none 0 0) (.slice none 0 0)) (by kernel_rfl) fun w2 b2 e2 n2 k2 z2 => ?_
  have St0 : PSt w0 w r cs F w2 cs F L b1 b2 (p.cells vw vp vm va vc vf) _ 29 :=
    ⟨hI.ext (e1.trans e2), ⟨k1.ext e2, fun h => by have := hI.below _ h; omega⟩, ⟨k2, fun h => by have := hI.below _ h; have := e1.size; omega⟩, LayS.ext (e1.trans e2), n1, by have := k1.lt; omega, h0.trans (e1.trans e2), hlow, h0.size⟩
  have hb2 := k2.lt
  have hb21 := St0.g2
  have hwb := St0.g1
  refine LB_agg St0.one.blk (o := 0) (vs := [.string p.will.topic, vw, .int .i64 p.will.qos, .bool p.will.retain]) rfl rfl ?_
  refine rMessage_ok St0.inv hw St0.base l1 (by omega) fun vw' w3 cs3 F3 bw y3 hI3 hs3 hb3 hg3 hn3 => ?_
  have St3 := St0.call y3 hI3
  refine SB_blkA St3.one.blk (T := 24) (o := 0) (n := 4) rfl (by simp [Pk.cells]) (by obtain ⟨c, rfl, _⟩ := hs3; rfl) fun w4 k4 c4 z4 => ?_
  have St4 := St3.store (c1' := p.cells vw' vp vm va vc vf) c4 k4
  have Lw4 : LentB Kn.byte w4 r cs3 w.heap.size bw vw' p.will.payload := LentB.chg ⟨hs3, hb3, hn3, by omega⟩ c4 (by omega)
  have hw4 := Lw4.lt
  -- the message
  refine LB_agg St4.one.blk (o := 0) (vs := [.string p.msg.topic, vm, .int .i64 p.msg.qos, .bool p.msg.retain]) rfl rfl ?_
  refine rMessage_ok St4.inv hm St4.base l3 (by omega) fun vm' w5 cs5 F5 bm y5 hI5 hs5 hb5 hg5 hn5 => ?_
  have St5 := St4.call y5 hI5
  refine SB_blkA St5.one.blk (T := 24) (o := 0) (n := 4) rfl (by simp [Pk.cells]) (by obtain ⟨c, rfl, _⟩ := hs5; rfl) fun w6 k6 c6 z6 => ?_
  have St6 := St5.store (c1' := p.cells vw' vp vm' va vc vf) c6 k6
  have Lw6 := (Lw4.lay y5).chg c6 (by omega)
  have Lm6 : LentB Kn.byte w6 r cs5 bw bm vm' p.msg.payload := LentB.chg ⟨hs5, hb5, hn5, by omega⟩ c6 (by omega)
  have hm6 := Lm6.lt
  -- the pass
  refine LB_blk St6.one.blk (o := 0) rfl ?_
  refine Bytes_ok St6.inv hp St6.base l2 (by omega) fun vp' w7 cs7 F7 bp y7 hI7 hs7 hb7 hg7 hn7 => ?_
  have St7 := St6.call y7 hI7
  refine SB_blk St7.one.blk (o := 0) (SlB.one hs7) rfl fun w8 k8 c8 z8 => ?_
  have St8 := St7.store (c1' := p.cells vw' vp' vm' va vc vf) c8 k8
  have Lw8 := (Lw6.lay y7).chg c8 (by omega)
  have Lm8 := (Lm6.lay y7).chg c8 (by omega)
  have Lp8 : LentB Kn.byte w8 r cs7 bm bp vp' p.pass := LentB.chg ⟨hs7, hb7, hn7, by omega⟩ c8 (by omega)
  have hp8 := Lp8.lt
  -- the asks
  refine LB_blk St8.one.blk (o := 0) rfl ?_
  refine Asks_ok St8.inv ha St8.base l4 (by omega) fun va' w9 cs9 F9 ba y9 hI9 hs9 hb9 hg9 hn9 => ?_
  have St9 := St8.call y9 hI9
  refine SB_blk St9.one.blk (o := 0) (SlB.one hs9) rfl fun wA kA cA zA => ?_
  have StA := St9.store (c1' := p.cells vw' vp' vm' va' vc vf) cA kA
  have LwA := (Lw8.lay y9).chg cA (by omega)
  have LmA := (Lm8.lay y9).chg cA (by omega)
  have LpA := (Lp8.lay y9).chg cA (by omega)
  have LaA : LentB Kn.ask wA r cs9 bp ba va' p.asks := LentB.chg ⟨hs9, hb9, hn9, by omega⟩ cA (by omega)
  have haA := LaA.lt
  -- the codes
  refine LB_blk StA.one.blk (o := 0) rfl ?_
  refine Ints_ok StA.inv hc StA.base l5 (by omega) fun vc' wB csB FB bc yB hIB hsB hbB hgB hnB => ?_
  have StB := StA.call yB hIB
  refine SB_blk StB.one.blk (o := 0) (SlB.one hsB) rfl fun wC kC cC zC => ?_
  have StC := StB.store (c1' := p.cells vw' vp' vm' va' vc' vf) cC kC
  have LwC := (LwA.lay yB).chg cC (by omega)
  have LmC := (LmA.lay yB).chg cC (by omega)
  have LpC := (LpA.lay yB).chg cC (by omega)
  have LaC := (LaA.lay yB).chg cC (by omega)
  have LcC : LentB Kn.int wC r csB ba bc vc' p.codes := LentB.chg ⟨hsB, hbB, hnB, by omega⟩ cC (by omega)
  have hcC := LcC.lt
  -- the filters
  refine LB_blk StC.one.blk (o := 0) rfl ?_
  refine Texts_ok StC.inv hf StC.base l6 (by omega) fun vf' wD csD FD bf yD hID hsD hbD hgD hnD => ?_
  have StD := StC.call yD hID
  refine SB_blk StD.one.blk (o := 0) (SlB.one hsD) rfl fun wE kE cE zE => ?_
  have StE := StD.store (c1' := p.cells vw' vp' vm' va' vc' vf') cE kE
  have LfE : LentB Kn.str wE r csD bc bf vf' p.filters := LentB.chg ⟨hsD, hbD, hnD, by omega⟩ cE (by omega)
  -- the answer
  refine load_blkA StE.one.blk (T := 29) rfl ?_
  refine store_blkA (T := 29) StE.two.blk rfl rfl ?_ fun wF kF cF zF => ?_
  · obtain ⟨c1, rfl, _⟩ := hs3; obtain ⟨c2, rfl, _⟩ := hs5; obtain ⟨c3, rfl, _⟩ := hs7; obtain ⟨c4, rfl, _⟩ := hs9; obtain ⟨c5, rfl, _⟩ := hsB; obtain ⟨c6, rfl, _⟩ := hsD; rfl
  refine ret_blkA kF rfl ?_
  obtain ⟨hIF, hLF⟩ := StE.store2 cF
  have d2 := LwC.gt; have d3 := LmC.gt; have d4 := LpC.gt; have d5 := LaC.gt; have d6 := LcC.gt; have d7 := LfE.gt
  exact hk _ _ _ bw bm bp ba bc bf vw' vp' vm' va' vc' vf' ⟨hLF, hIF, ((LwC.lay yD).chg cE (by omega)).chg cF (by omega), ((LmC.lay yD).chg cE (by omega)).chg cF (by omega), ((LpC.lay yD).chg cE (by omega)).chg cF (by omega),
    ((LaC.lay yD).chg cE (by omega)).chg cF (by omega), ((LcC.lay yD).chg cE (by omega)).chg cF (by omega), LfE.chg cF (by omega)⟩
end Go.Proofs.YtdgffjkcpbolmaaGreatDoor.X
