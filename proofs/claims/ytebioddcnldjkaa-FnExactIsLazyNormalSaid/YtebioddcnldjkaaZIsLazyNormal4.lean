/- Lemmas of the proof of IsLazyNormal, part 4. No condition. -/
import Derived.Test.YtebioddcnldjkaaZIsLazyNormal3
namespace Go.Proofs.Ytebioddcnldjkaa
section
open Go.RowKit
set_option linter.unusedVariables false
set_option linter.unusedSimpArgs false
set_option maxRecDepth 100000
section
variable {w0 w1 w2 : World} {row : Option Nat} {g : Nat}
theorem gr_step (h : w0.grownBy w1 row) (hb : Below w1.heap.size w1 w2) : w0.grownBy w2 row :=
  ⟨hb.os.trans h.os, hb.tape.trans h.tape, hb.output.trans h.output, Nat.le_trans h.size hb.size, fun k hk hne => (hb.block k (Nat.lt_of_lt_of_le hk h.size)).trans (h.block k hk hne)⟩
theorem gr_only (h : w0.grownBy w1 row) (ho : Only [g] w1 w2) (hg : w0.heap.size ≤ g) : w0.grownBy w2 row :=
  ⟨ho.os.trans h.os, ho.tape.trans h.tape, ho.output.trans h.output, Nat.le_trans h.size (Nat.le_of_eq ho.size.symm), fun k hk hne => (ho.block k (by intro hin; simp at hin; omega)).trans (h.block k hk hne)⟩
theorem gr_row (h : w0.grownBy w1 (some g)) (ho : Only [g] w1 w2) : w0.grownBy w2 (some g) :=
  ⟨ho.os.trans h.os, ho.tape.trans h.tape, ho.output.trans h.output, Nat.le_trans h.size (Nat.le_of_eq ho.size.symm), fun k hk hne => (ho.block k (by intro hin; simp at hin; exact hne (by rw [hin]))).trans (h.block k hk hne)⟩
theorem gr_trans (h : w0.grownBy w1 row) (h2 : w1.grownBy w2 row) : w0.grownBy w2 row :=
  ⟨h2.os.trans h.os, h2.tape.trans h.tape, h2.output.trans h.output, Nat.le_trans h.size h2.size, fun k hk hne => (h2.block k (Nat.lt_of_lt_of_le hk h.size) hne).trans (h.block k hk hne)⟩
end
theorem c_unk1 (d0 : DNet) (d1 : DPort) (dep : Int) (b : Bool) (hm : m_impl_Net_isKnown d0 d1 = some b) (v0 : Value) (w w0 : World) (gb gn : Nat) (at0 : DPort) (T : Below w.heap.size w w0) (hv0 : Pt netRd w v0 d0) (hgb : w.heap.size ≤ gb)
    (Bb : Blk w0 gb 28 #[.int .i64 at0.agent, .int .i64 at0.slot]) (Bn : Blk w0 gn 58 #[v0]) (hne : gn ≠ gb) :
    Calls Try.prog 72 #[.agg #[.int .i64 d1.agent, .int .i64 d1.slot], .int .i64 dep, .pointer (some ⟨gb, 0, none⟩), .pointer (some ⟨gn, 0, none⟩)] w0 fun e w' => e = .returned (.bool b) ∧ Blk w' gb 28 #[.int .i64 d1.agent, .int .i64 d1.slot] ∧ w0.grownBy w' (some gb) := by
  have Gr : w0.grownBy w0 (some gb) := World.grownBy.refl _ _
  refine enter 11 Try.func72 rfl rfl rfl ?_
  intro f hf
  have s0 : f 0 = .agg #[.int .i64 d1.agent, .int .i64 d1.slot] := hf 0 _ rfl
  have s2 : f 2 = .pointer (some ⟨gb, 0, none⟩) := hf 2 _ rfl
  have s3 : f 3 = .pointer (some ⟨gn, 0, none⟩) := hf 3 _ rfl
  have Eb := Nat.ne_of_lt Bb.lt
  refine wp_seq ?_
  refine wp_rl rfl ?_
  refine RL.box rfl s0 (fun w2 B4 hb5 szw2 => ?_)
  replace B4 : Blk w2 w0.heap.size 28 #[.int .i64 d1.agent, .int .i64 d1.slot] := B4
  have T := Tt T hb5
  have Gr := gr_step Gr hb5
  have Bb := blkT Bb hb5
  have Bn := blkT Bn hb5
  refine RL.y rfl (Y.assign (v := .bool false) rfl) ?_
  refine RL.nil ?_
  refine then_n ?_
  refine wp_seq ?_
  refine wp_rl rfl ?_
  refine RL.y rfl (Y.loadN (cs := [.int .i64 d1.agent, .int .i64 d1.slot]) rfl (by kernel_rfl) (cells2 (eqC (blkCell B4 (i := 0) rfl)) (eqC (blkCell B4 (i := 1) rfl)))) ?_
  refine RL.store (v := .agg #[.int .i64 d1.agent, .int .i64 d1.slot]) (cs' := #[.int .i64 d1.agent, .int .i64 d1.slot]) rfl s2 rfl Bb (by kernel_rfl) (by rfl) (by rfl) (by rfl) (fun w3 Bb3 ho6 => ?_)
  have B4 := B4.only_ ho6 (by intro hin; simp at hin; exact Eb hin.symm)
  have Bn := Bn.only_ ho6 (by intro hin; simp at hin; exact hne hin)
  have T := T.trans (ho6.below (by intro b hb; simp at hb; subst hb; exact hgb))
  have Gr := gr_row Gr ho6
  refine RL.nil ?_
  refine then_n ?_
  refine wp_seq ?_
  refine wp_rb rfl ?_
  refine RQ.y rfl (Y.load (v := v0) s3 (by kernel_rfl) (beC (blkCell Bn (i := 0) rfl))) ?_
  refine RQ.y rfl (Y.loadN (cs := [.int .i64 d1.agent, .int .i64 d1.slot]) rfl (by kernel_rfl) (cells2 (beC (blkCell B4 (i := 0) rfl)) (beC (blkCell B4 (i := 1) rfl)))) ?_
  refine RQ.call rfl (am2 rfl rfl) (by kernel_rfl) (v := .bool b) (bel (K := fun _ => True) fun w' hb' => (c_m_impl_Net_isKnown d0 d1 _ hm _ w' (Pt.at_ netRd_ok hv0 (Tt T hb')))) ?_
  refine RQ.y rfl (Y.assign (v := .bool b) rfl) ?_
  refine RQ.nil ?_
  intro w7 hb8
  refine then_n ?_
  refine wp_ret ?_
  exact ret1 rfl rfl rfl ⟨rfl, blkT Bb3 hb8, gr_step Gr hb8⟩
def dem_A1 (z : DPort) : Option (Bool × DPort) := some (true, z)
def dem_B1 (d0 : DNet) (d2 : Int) (self : DNet → DPort → Int → Option (Bool × DPort)) (y11 : DPort) (rec1 : Int → DPort → Option (Bool × DPort)) (K1 : DPort → Option (Bool × DPort)) (i : Int) (z : DPort) : Option (Bool × DPort) :=
  ((getI d0.agents y11.agent).bind fun x44 => (bif (decide (i < (x44.ports.length : Int))) then ((ck (d2 + 1)).bind fun s56 => ((self d0 (⟨y11.agent, i⟩ : DPort) s56).bind fun y57 => (bif y57.1 then (rec1 (i + 1) y57.2) else some (false, y57.2)))) else (K1 z)))
def dem_L1 (d0 : DNet) (d2 : Int) (self : DNet → DPort → Int → Option (Bool × DPort)) (y11 : DPort) (K1 : DPort → Option (Bool × DPort)) : Nat → Int → DPort → Option (Bool × DPort)
  | 0, _, _ => none
  | g + 1, i, z => dem_B1 d0 d2 self y11 (dem_L1 d0 d2 self y11 K1 g) K1 i z
def dem_R (self : DNet → DPort → Int → Option (Bool × DPort)) (d0 : DNet) (d1 : DPort) (d2 : Int) : Option (Bool × DPort) :=
  ((m_impl_Net_isKnown d0 d1).bind fun y6 => (bif y6 then ((m_impl_Net_peer d0 d1).bind fun y11 => ((m_impl_Net_isKnown d0 d1).bind fun y22 => (bif y22 then ((getI d0.agents y11.agent).bind fun x27 => (bif (x27.kind != 9) then some (true, d1) else (dem_L1 d0 d2 self y11 dem_A1 6 1 d1))) else some (true, d1)))) else some (false, d1)))
def dem : Nat → DNet → DPort → Int → Option (Bool × DPort)
  | 0, _, _, _ => none
  | gas + 1, d0, d1, d2 => dem_R (dem gas) d0 d1 d2
set_option maxHeartbeats 2000000 in
theorem c_dem : ∀ (gas : Nat) (d0 : DNet) (d1 : DPort) (d2 : Int) (r : Bool × DPort) (hm : dem gas d0 d1 d2 = some r) (v0 : Value) (w w0 : World) (gb gn : Nat) (at0 : DPort) (T : Below w.heap.size w w0) (hv0 : Pt netRd w v0 d0) (hgb : w.heap.size ≤ gb)
    (Bb : Blk w0 gb 28 #[.int .i64 at0.agent, .int .i64 at0.slot]) (Bn : Blk w0 gn 58 #[v0]) (hne : gn ≠ gb),
    Calls Try.prog 70 #[v0, .agg #[.int .i64 d1.agent, .int .i64 d1.slot], .int .i64 d2, .func (.func 72) #[] #[.pointer (some ⟨gb, 0, none⟩), .pointer (some ⟨gn, 0, none⟩)]] w0 fun e w' => e = .returned (.bool r.1) ∧ Blk w' gb 28 #[.int .i64 r.2.agent, .int .i64 r.2.slot] ∧ w0.grownBy w' (some gb) := by
  intro gas
  induction gas with
  | zero =>
    intro d0 d1 d2 r hm v0 w w0 gb gn at0 T hv0 hgb Bb Bn hne
    cases hm
  | succ gas ih =>
    intro d0 d1 d2 r hm v0 w w0 gb gn at0 T hv0 hgb Bb Bn hne
    obtain ⟨ba0, oa0, csa0, rfl, hba0, hRa0, hca0⟩ := hv0
    have hSa0 := hRa0
    obtain ⟨A1, n1, c1, rfl, ⟨h1, r1⟩⟩ := hRa0
    have e1 := h1.len; subst e1
    have q1 := len_le r1
    have Gr : w0.grownBy w0 (some gb) := World.grownBy.refl _ _
    obtain ⟨self, hself, hm⟩ : ∃ s, s = dem gas ∧ dem_R s d0 d1 d2 = some r := ⟨_, rfl, hm⟩
    unfold dem_R at hm
    refine enter 59 Try.func70 rfl rfl rfl ?_
    intro f hf
    have s0 : f 0 = .pointer (some ⟨ba0, oa0, none⟩) := hf 0 _ rfl
    have s1 : f 1 = .agg #[.int .i64 d1.agent, .int .i64 d1.slot] := hf 1 _ rfl
    have s2 : f 2 = .int .i64 d2 := hf 2 _ rfl
    have s3 : f 3 = .func (.func 72) #[] #[.pointer (some ⟨gb, 0, none⟩), .pointer (some ⟨gn, 0, none⟩)] := hf 3 _ rfl
    have Eb3 := Nat.ne_of_lt Bb.lt
    refine wp_seq ?_
    refine wp_rl rfl ?_
    refine RL.box rfl s1 (fun w2 B3 hb4 szw2 => ?_)
    replace B3 : Blk w2 w0.heap.size 28 #[.int .i64 d1.agent, .int .i64 d1.slot] := B3
    have GB3 : w.heap.size ≤ w0.heap.size := T.size
    have GW3 : w0.heap.size ≤ w0.heap.size := Nat.le_refl _
    have T := Tt T hb4
    have Gr := gr_step Gr hb4
    have Bb := blkT Bb hb4
    have Bn := blkT Bn hb4
    refine RL.y rfl (Y.assign (v := .bool false) rfl) ?_
    refine RL.nil ?_
    refine then_n ?_
    refine wp_seq ?_
    refine wp_seq ?_
    refine wp_rl rfl ?_
    refine RL.y rfl (Y.move (v := .func (.func 72) #[] #[.pointer (some ⟨gb, 0, none⟩), .pointer (some ⟨gn, 0, none⟩)]) s3) ?_
    refine RL.y rfl (Y.loadN (cs := [.int .i64 d1.agent, .int .i64 d1.slot]) rfl (by kernel_rfl) (cells2 (eqC (blkCell B3 (i := 0) rfl)) (eqC (blkCell B3 (i := 1) rfl)))) ?_
    refine RL.y rfl (Y.move (v := .int .i64 d2) s2) ?_
    obtain ⟨y6, e7, hm⟩ := bnd hm
    refine RL.callV rfl rfl (am2 rfl rfl) (by kernel_rfl) ((c_unk1 d0 d1 d2 y6 e7 _ w _ gb gn _ T (Pt.at_ netRd_ok ⟨ba0, oa0, _, rfl, hba0, hSa0, hca0⟩ (Below.refl _ _)) hgb Bb Bn hne).mono ?_)
    rintro _ w8 ⟨rfl, Bb8, hg9⟩
    refine ⟨_, rfl, ?_⟩
    have szw8 := hg9.size
    have B3 := (hg9.block _ B3.lt (by intro e; injection e with e; exact Eb3 e.symm)).trans B3
    have Bn := (hg9.block _ Bn.lt (by intro e; injection e with e; exact hne e)).trans Bn
    have T := T.grown hg9 T.size (by intro b hb; injection hb with hb; subst hb; exact hgb)
    have Gr := gr_trans Gr hg9
    have Bb := Bb8
    refine RL.y rfl (Y.not (b' := (!y6)) rfl rfl) ?_
    refine RL.nil ?_
    refine then_n ?_
    rcases bcases y6 with c10 | c10
    · replace hm := cF c10 hm
      refine cond_t rfl (vbn rfl c10 rfl) ?_
      refine wp_seq ?_
      refine wp_rs rfl ?_
      refine RQ.y rfl (Y.assign (v := .bool false) rfl) ?_
      refine RQ.nil ?_
      refine then_n ?_
      refine wp_ret ?_
      obtain rfl := Option.some.inj hm
      exact (then_r (ret1 rfl rfl rfl ⟨rfl, Bb, Gr⟩))
    · replace hm := cT c10 hm
      refine cond_f rfl (vbn rfl c10 rfl) ?_
      refine wp_skip ?_
      refine then_n ?_
      refine wp_seq ?_
      refine wp_rl rfl ?_
      refine RL.y rfl (Y.move (v := .pointer (some ⟨ba0, oa0, none⟩)) s0) ?_
      refine RL.y rfl (Y.loadN (cs := [.int .i64 d1.agent, .int .i64 d1.slot]) rfl (by kernel_rfl) (cells2 (eqC (blkCell B3 (i := 0) rfl)) (eqC (blkCell B3 (i := 1) rfl)))) ?_
      obtain ⟨y11, e12, hm⟩ := bnd hm
      refine RL.call rfl (am2 rfl rfl) (by kernel_rfl) ((c_m_impl_Net_peer d0 d1 _ e12 _ _ (ptArg netRd_ok hba0 hSa0 hca0 T)).mono ?_)
      rintro _ w13 ⟨rfl, hb14⟩
      refine ⟨_, rfl, ?_⟩
      have szw13 := hb14.size
      have B3 := blkT B3 hb14
      have T := Tt T hb14
      have Gr := gr_step Gr hb14
      have Bb := blkT Bb hb14
      have Bn := blkT Bn hb14
      have GW16 : w0.heap.size ≤ w13.heap.size := Gr.size
      have Eb16 := Nat.ne_of_lt Bb.lt
      have En16 := Nat.ne_of_lt Bn.lt
      refine RL.alloc (z := .agg #[.int .i64 0, .int .i64 0]) rfl (by kernel_rfl) (fun w15 B16 hb17 szw15 => ?_)
      replace B16 : Blk w15 w13.heap.size 28 #[.int .i64 0, .int .i64 0] := B16
      have GB16 : w.heap.size ≤ w13.heap.size := T.size
      have Eob18_ob5 := Nat.ne_of_lt B3.lt
      have B3 := blkT B3 hb17
      have T := Tt T hb17
      have Gr := gr_step Gr hb17
      have Bb := blkT Bb hb17
      have Bn := blkT Bn hb17
      refine RL.store (v := .agg #[.int .i64 y11.agent, .int .i64 y11.slot]) (cs' := #[.int .i64 y11.agent, .int .i64 y11.slot]) rfl rfl rfl B16 (by kernel_rfl) (by rfl) (by rfl) (by rfl) (fun w19 B20 ho21 => ?_)
      have szw19 := ho21.size
      have B3 := B3.only_ ho21 (by intro hin; simp at hin; exact Eob18_ob5 hin)
      have T := T.trans (ho21.below (by first | (simp; done) | (simp; omega)))
      have Gr := gr_only Gr ho21 GW16
      have Bb := Bb.only_ ho21 (by intro hin; simp at hin; exact Eb16 hin)
      have Bn := Bn.only_ ho21 (by intro hin; simp at hin; exact En16 hin)
      refine RL.nil ?_
      refine then_n ?_
      refine wp_seq ?_
      refine wp_seq ?_
      refine wp_rbd (by kernel_rfl) (by kernel_rfl) ?_
      refine RQ.y rfl (Y.move (v := .pointer (some ⟨ba0, oa0, none⟩)) s0) ?_
      refine RQ.y rfl (Y.loadN (cs := [.int .i64 d1.agent, .int .i64 d1.slot]) rfl (by kernel_rfl) (cells2 (beC (blkCell B3 (i := 0) rfl)) (beC (blkCell B3 (i := 1) rfl)))) ?_
      obtain ⟨y22, e23, hm⟩ := bnd hm
      refine RQ.call rfl (am2 rfl rfl) (by kernel_rfl) (v := .bool y22) (bel (K := fun _ => True) fun w' hb' => (c_m_impl_Net_isKnown d0 d1 _ e23 _ w' (ptArg netRd_ok hba0 hSa0 hca0 (Tt T hb')))) ?_
      refine RQ.y rfl (Y.not (b' := (!y22)) rfl rfl) ?_
      refine RQ.y rfl (Y.move (v := .bool (!y22)) rfl) ?_
      rcases bcases y22 with c24 | c24
      · replace hm := cF c24 hm
        refine RQ.skip (wantN (dj := 23) rfl (vbn rfl c24 rfl) rfl) ?_
        refine RQ.skip (wantN (dj := 23) rfl (vbn rfl c24 rfl) rfl) ?_
        refine RQ.skip (wantN (dj := 23) rfl (vbn rfl c24 rfl) rfl) ?_
        refine RQ.skip (wantN (dj := 23) rfl (vbn rfl c24 rfl) rfl) ?_
        refine RQ.skip (wantN (dj := 23) rfl (vbn rfl c24 rfl) rfl) ?_
        refine RQ.skip (wantN (dj := 23) rfl (vbn rfl c24 rfl) rfl) ?_
        refine RQ.skip (wantN (dj := 23) rfl (vbn rfl c24 rfl) rfl) ?_
        refine RQ.skip (wantN (dj := 23) rfl (vbn rfl c24 rfl) rfl) ?_
        refine RQ.skip (wantN (dj := 23) rfl (vbn rfl c24 rfl) rfl) ?_
        refine RQ.skip (wantN (dj := 23) rfl (vbn rfl c24 rfl) rfl) ?_
        refine RQ.y rfl (Y.pick (b := true) (v := .bool true) (vbn rfl c24 rfl) rfl) ?_
        refine RQ.nil ?_
        intro w25 hb26
        have szw25 := hb26.size
        have B20 := blkT B20 hb26
        have T := Tt T hb26
        have Gr := gr_step Gr hb26
        have Bb := blkT Bb hb26
        have Bn := blkT Bn hb26
        refine then_n ?_
        refine cond_t rfl rfl ?_
        refine wp_seq ?_
        refine wp_rs rfl ?_
        refine RQ.y rfl (Y.assign (v := .bool true) rfl) ?_
        refine RQ.nil ?_
        refine then_n ?_
        refine wp_ret ?_
        obtain rfl := Option.some.inj hm
        exact (then_r (ret1 rfl rfl rfl ⟨rfl, Bb, Gr⟩))
      · replace hm := cT c24 hm
        refine RQ.y (wantT (dj := 23) rfl (vbn rfl c24 rfl)) (Y.move (v := .pointer (some ⟨ba0, oa0, none⟩)) s0) ?_
        refine RQ.y (wantT (dj := 23) rfl (vbn rfl c24 rfl)) (Y.nilCheck rfl) ?_
        refine RQ.y (wantT (dj := 23) rfl (vbn rfl c24 rfl)) (Y.fieldAddr (off := 0) rfl (by kernel_rfl)) ?_
        refine RQ.y (wantT (dj := 23) rfl (vbn rfl c24 rfl)) (Y.load (v := .slice A1 d0.agents.length c1) rfl (by kernel_rfl) (beC (cellT T (hca0 0 _ rfl)))) ?_
        refine RQ.y (wantT (dj := 23) rfl (vbn rfl c24 rfl)) (Y.fieldAddr (off := 0) rfl (by kernel_rfl)) ?_
        refine RQ.y (wantT (dj := 23) rfl (vbn rfl c24 rfl)) (Y.load (v := .int .i64 y11.agent) rfl (by kernel_rfl) (beC (blkCell B20 (i := 0) rfl))) ?_
        obtain ⟨x27, hx30, hm⟩ := bnd hm
        obtain ⟨k28, hk31, hl32, hx30⟩ := getI_some hx30
        obtain ⟨b34, o35, rfl, hbb34⟩ := h1.addr (by omega)
        obtain ⟨cs29, hRcs29, hc33⟩ := h1.el hx30
        have hScs29 := hRcs29
        obtain ⟨A36, n36, c36, A37, n37, c37, rfl, ⟨h36, r36⟩, ⟨h37, r37⟩⟩ := hRcs29
        have e36 := h36.len; subst e36
        have q36 := len_le r36
        have e37 := h37.len; subst e37
        have q37 := len_le r37
        refine RQ.y (wantT (dj := 23) rfl (vbn rfl c24 rfl)) (Y.indexAddr (m := k28) (sz := 5) rfl rfl hk31 hl32 (by kernel_rfl)) ?_
        refine RQ.y (wantT (dj := 23) rfl (vbn rfl c24 rfl)) (Y.fieldAddr (off := 0) rfl (by kernel_rfl)) ?_
        refine RQ.y (wantT (dj := 23) rfl (vbn rfl c24 rfl)) (Y.load (v := .int .i64 x27.kind) rfl (by kernel_rfl) (beC (cellT T (hc33 0 _ rfl)))) ?_
        refine RQ.y (wantT (dj := 23) rfl (vbn rfl c24 rfl)) (Y.binI (v := .bool (x27.kind != 9)) rfl rfl rfl) ?_
        refine RQ.y rfl (Y.pick (b := false) (v := .bool (x27.kind != 9)) (vbn rfl c24 rfl) rfl) ?_
        refine RQ.nil ?_
        intro w38 hb39
        have szw38 := hb39.size
        have B20 := blkT B20 hb39
        have T := Tt T hb39
        have Gr := gr_step Gr hb39
        have Bb := blkT Bb hb39
        have Bn := blkT Bn hb39
        refine then_n ?_
        rcases bcases (x27.kind != 9) with c40 | c40
        · replace hm := cF c40 hm
          refine cond_f rfl (vb rfl c40) ?_
          refine wp_skip ?_
          refine then_n ?_
          refine wp_seq ?_
          refine wp_seq ?_
          refine wp_rs rfl ?_
          refine RQ.y rfl (Y.assign (v := .int .i64 1) rfl) ?_
          refine RQ.nil ?_
          refine then_n ?_
          refine wp_block ?_
          obtain ⟨K1, hK1, hm⟩ : ∃ K, K = dem_A1 ∧ dem_L1 d0 d2 self y11 K 6 1 d1 = some r := ⟨_, rfl, hm⟩
          refine wp_loopX (fun g f w' => ∃ (i42 : Int) (z42 : DPort), f 0 = .pointer (some ⟨ba0, oa0, none⟩) ∧ f 2 = .int .i64 d2 ∧ f 3 = .func (.func 72) #[] #[.pointer (some ⟨gb, 0, none⟩), .pointer (some ⟨gn, 0, none⟩)] ∧ f 9 = .pointer (some ⟨w13.heap.size, 0, none⟩) ∧ f 10 = .int .i64 i42 ∧ 0 ≤ i42 ∧ Blk w' w13.heap.size 28 #[.int .i64 y11.agent, .int .i64 y11.slot] ∧ Below w.heap.size w w' ∧ w0.grownBy w' (some gb) ∧ Blk w' gb 28 #[.int .i64 z42.agent, .int .i64 z42.slot] ∧ Blk w' gn 58 #[.pointer (some ⟨ba0, oa0, none⟩)] ∧ dem_L1 d0 d2 self y11 K1 g i42 z42 = some r) 0 (fun f w' => ∃ (z42 : DPort), Blk w' w13.heap.size 28 #[.int .i64 y11.agent, .int .i64 y11.slot] ∧ Below w.heap.size w w' ∧ w0.grownBy w' (some gb) ∧ Blk w' gb 28 #[.int .i64 z42.agent, .int .i64 z42.slot] ∧ Blk w' gn 58 #[.pointer (some ⟨ba0, oa0, none⟩)] ∧ dem_A1 z42 = some r) (6) ⟨1, d1, s0, s2, s3, rfl, rfl, (by omega), B20, T, Gr, Bb, Bn, hm⟩ ?_ ?_
          · rintro f w41 ⟨z42, B20, T, Gr, Bb, Bn, hm⟩
            unfold dem_A1 at hm
            refine blk_hit (then_n ?_)
            refine wp_seq ?_
            refine wp_rs rfl ?_
            refine RQ.y rfl (Y.assign (v := .bool true) rfl) ?_
            refine RQ.nil ?_
            refine then_n ?_
            refine wp_ret ?_
            obtain rfl := Option.some.inj hm
            exact (ret1 rfl rfl rfl ⟨rfl, Bb, Gr⟩)
          · rintro g f w43 ⟨i42, z42, s0_1, s2_1, s3_1, s9_1, s10_1, nn10_1, B20, T, Gr, Bb, Bn, hm⟩
            rcases g with _ | g
            · simp only [dem_L1] at hm; cases hm
            obtain ⟨rec1, hrec1, hm⟩ : ∃ z, z = dem_L1 d0 d2 self y11 K1 g ∧ dem_B1 d0 d2 self y11 z K1 i42 z42 = some r := ⟨_, rfl, hm⟩
            unfold dem_B1 at hm
            refine wp_seq ?_
            refine wp_seq ?_
            refine wp_rbd (by kernel_rfl) (by kernel_rfl) ?_
            refine RQ.y rfl (Y.move (v := .int .i64 i42) s10_1) ?_
            refine RQ.y rfl (Y.move (v := .pointer (some ⟨ba0, oa0, none⟩)) s0_1) ?_
            refine RQ.y rfl (Y.nilCheck rfl) ?_
            refine RQ.y rfl (Y.fieldAddr (off := 0) rfl (by kernel_rfl)) ?_
            refine RQ.y rfl (Y.load (v := .slice (some ⟨b34, o35, none⟩) d0.agents.length c1) rfl (by kernel_rfl) (beC (cellT T (hca0 0 _ rfl)))) ?_
            refine RQ.y rfl (Y.fieldAddr (off := 0) s9_1 (by kernel_rfl)) ?_
            refine RQ.y rfl (Y.load (v := .int .i64 y11.agent) rfl (by kernel_rfl) (beC (blkCell B20 (i := 0) rfl))) ?_
            obtain ⟨x44, hx47, hm⟩ := bnd hm
            obtain ⟨k45, hk48, hl49, hx47⟩ := getI_some hx47
            obtain ⟨cs46, hRcs46, hc50⟩ := h1.el hx47
            have hScs46 := hRcs46
            obtain ⟨A51, n51, c51, A52, n52, c52, rfl, ⟨h51, r51⟩, ⟨h52, r52⟩⟩ := hRcs46
            have e51 := h51.len; subst e51
            have q51 := len_le r51
            have e52 := h52.len; subst e52
            have q52 := len_le r52
            refine RQ.y rfl (Y.indexAddr (m := k45) (sz := 5) rfl rfl hk48 hl49 (by kernel_rfl)) ?_
            refine RQ.y rfl (Y.fieldAddr (off := 4) rfl (by kernel_rfl)) ?_
            refine RQ.y rfl (Y.load (v := .slice A52 x44.ports.length c52) rfl (by kernel_rfl) (beC (cellT T (hc50 4 _ rfl)))) ?_
            refine RQ.y rfl (Y.len (by kernel_rfl) rfl) ?_
            refine RQ.y rfl (Y.binI (v := .bool (decide (i42 < (x44.ports.length : Int)))) rfl rfl rfl) ?_
            refine RQ.nil ?_
            intro w53 hb54
            have szw53 := hb54.size
            have B20 := blkT B20 hb54
            have T := Tt T hb54
            have Gr := gr_step Gr hb54
            have Bb := blkT Bb hb54
            have Bn := blkT Bn hb54
            refine then_n ?_
            rcases bcases (decide (i42 < (x44.ports.length : Int))) with c55 | c55
            · replace hm := cF c55 hm
              have pc55 := of_decide_eq_false c55
              refine cond_f rfl (vb rfl c55) ?_
              refine wp_exit ?_
              exact (then_x (then_x (hit_x ⟨_, rfl, ⟨z42, B20, T, Gr, Bb, Bn, (by rw [hK1] at hm; exact hm)⟩⟩)))
            · replace hm := cT c55 hm
              have pc55 := of_decide_eq_true c55
              refine cond_t rfl (vb rfl c55) ?_
              refine wp_skip ?_
              refine then_n ?_
              refine wp_seq ?_
              refine wp_block ?_
              refine wp_seq ?_
              refine wp_rl rfl ?_
              refine RL.y rfl (Y.move (v := .pointer (some ⟨ba0, oa0, none⟩)) s0_1) ?_
              refine RL.y rfl (Y.fieldAddr (off := 0) s9_1 (by kernel_rfl)) ?_
              refine RL.y rfl (Y.load (v := .int .i64 y11.agent) rfl (by kernel_rfl) (eqC (blkCell B20 (i := 0) rfl))) ?_
              refine RL.y rfl (Y.move (v := .int .i64 i42) s10_1) ?_
              refine RL.y rfl (Y.build2 (cells := #[.int .i64 y11.agent, .int .i64 i42]) rfl rfl (by kernel_rfl) (by kernel_rfl)) ?_
              refine RL.y rfl (Y.move (v := .int .i64 d2) s2_1) ?_
              obtain ⟨s56, ks56, hm⟩ := bnd hm
              replace ks56 := ck_some ks56
              refine RL.y rfl (Y.binI (v := .int .i64 s56) rfl rfl (by rw [binI_add ks56.2, ks56.1])) ?_
              refine RL.y rfl (Y.move (v := .func (.func 72) #[] #[.pointer (some ⟨gb, 0, none⟩), .pointer (some ⟨gn, 0, none⟩)]) s3_1) ?_
              obtain ⟨y57, e58, hm⟩ := bnd hm
              have Eb20 : gb ≠ w13.heap.size := Eb16
              refine RL.call rfl (am4 rfl rfl rfl rfl) (by kernel_rfl) ((ih d0 (⟨y11.agent, i42⟩ : DPort) s56 y57 (by rw [← hself]; exact e58) _ w _ gb gn _ T (Pt.at_ netRd_ok ⟨ba0, oa0, _, rfl, hba0, hSa0, hca0⟩ (Below.refl _ _)) hgb Bb Bn hne).mono ?_)
              rintro _ w59 ⟨rfl, Bb9, hg60⟩
              refine ⟨_, rfl, ?_⟩
              have szw59 := hg60.size
              have B20 := (hg60.block _ B20.lt (by intro e; injection e with e; exact Eb20 e.symm)).trans B20
              have Bn := (hg60.block _ Bn.lt (by intro e; injection e with e; exact hne e)).trans Bn
              have T := T.grown hg60 T.size (by intro b hb; injection hb with hb; subst hb; exact hgb)
              have Gr := gr_trans Gr hg60
              have Bb := Bb9
              refine RL.y rfl (Y.not (b' := (!y57.1)) rfl rfl) ?_
              refine RL.nil ?_
              refine then_n ?_
              rcases bcases y57.1 with c61 | c61
              · replace hm := cF c61 hm
                refine cond_t rfl (vbn rfl c61 rfl) ?_
                refine wp_seq ?_
                refine wp_rs rfl ?_
                refine RQ.y rfl (Y.assign (v := .bool false) rfl) ?_
                refine RQ.nil ?_
                refine then_n ?_
                refine wp_ret ?_
                obtain rfl := Option.some.inj hm
                exact (blk_r (then_r (then_r (hit_r (blk_r (then_r (ret1 rfl rfl rfl ⟨rfl, Bb, Gr⟩)))))))
              · replace hm := cT c61 hm
                refine cond_f rfl (vbn rfl c61 rfl) ?_
                refine wp_skip ?_
                refine blk_n (then_n ?_)
                refine wp_rs rfl ?_
                refine RQ.y rfl (Y.move (v := .int .i64 i42) s10_1) ?_
                refine RQ.y rfl (Y.binI rfl rfl (binI_add (m := i42) (by omega))) ?_
                refine RQ.y rfl (Y.assign (v := .int .i64 (i42 + 1)) rfl) ?_
                refine RQ.nil ?_
                exact (then_n ⟨g, _, Nat.lt_succ_self _, rfl, ⟨(i42 + 1), y57.2, s0_1, s2_1, s3_1, s9_1, rfl, (by omega), B20, T, Gr, Bb, Bn, (by rw [← hrec1]; exact hm)⟩⟩)
        · replace hm := cT c40 hm
          refine cond_t rfl (vb rfl c40) ?_
          refine wp_seq ?_
          refine wp_rs rfl ?_
          refine RQ.y rfl (Y.assign (v := .bool true) rfl) ?_
          refine RQ.nil ?_
          refine then_n ?_
          refine wp_ret ?_
          obtain rfl := Option.some.inj hm
          exact (then_r (ret1 rfl rfl rfl ⟨rfl, Bb, Gr⟩))
end
section
open Go.RowKit
set_option linter.unusedVariables false
set_option linter.unusedSimpArgs false
set_option maxRecDepth 100000
def m_impl_rootPort  : Option DPort :=
  some (⟨0, 0⟩ : DPort)
set_option maxHeartbeats 2000000 in
theorem c_m_impl_rootPort  (r : DPort) (hm : m_impl_rootPort  = some r)  (w : World)  :
    Calls Try.prog 71 #[] w fun e w' => e = .returned (.agg #[.int .i64 r.agent, .int .i64 r.slot]) ∧ Below w.heap.size w w' := by
  have T := Below.refl w.heap.size w
  unfold m_impl_rootPort at hm
  refine enter 2 Try.func71 rfl rfl rfl ?_
  intro f hf
  refine wp_seq ?_
  refine wp_rl rfl ?_
  refine RL.alloc (z := .agg #[.int .i64 0, .int .i64 0]) rfl (by kernel_rfl) (fun w1 B2 hb3 szw1 => ?_)
  replace B2 : Blk w1 w.heap.size 28 #[.int .i64 0, .int .i64 0] := B2
  have GB2 : w.heap.size ≤ w.heap.size := T.size
  have T := Tt T hb3
  refine RL.nil ?_
  refine then_n ?_
  refine wp_seq ?_
  refine wp_rl rfl ?_
  refine RL.y rfl (Y.build2 (cells := #[.int .i64 0, .int .i64 0]) rfl rfl (by kernel_rfl) (by kernel_rfl)) ?_
  refine RL.store (v := .agg #[.int .i64 0, .int .i64 0]) (cs' := #[.int .i64 0, .int .i64 0]) rfl rfl rfl B2 (by kernel_rfl) (by rfl) (by rfl) (by rfl) (fun w5 B6 ho7 => ?_)
  have szw5 := ho7.size
  have T := T.trans (ho7.below (by first | (simp; done) | (simp; omega)))
  refine RL.nil ?_
  refine then_n ?_
  refine wp_ret ?_
  obtain rfl := Option.some.inj hm
  exact (retc (cs := [.int .i64 0, .int .i64 0]) rfl rfl rfl (by kernel_rfl) (blkCells B6) ⟨rfl, T⟩)
end
section
open Go.RowKit
set_option linter.unusedVariables false
set_option linter.unusedSimpArgs false
set_option maxRecDepth 100000
def unkM (d0 : DNet) : Option (DPort × Bool) := (dem (d0.agents.length + 2) d0 ⟨0, 0⟩ 1).bind fun y => some (y.2, !y.1)
set_option maxHeartbeats 2000000 in
theorem c_unkM (d0 : DNet) (r : DPort × Bool) (hm : unkM d0 = some r) (v0 : Value) (w : World) (hv0 : Pt netRd w v0 d0) :
    Calls Try.prog 44 #[v0] w fun e w' => e = .returned (.tuple #[.agg #[.int .i64 r.1.agent, .int .i64 r.1.slot], .bool r.2]) ∧ Below w.heap.size w w' := by
  have hv := hv0
  obtain ⟨ba0, oa0, csa0, rfl, hba0, hRa0, hca0⟩ := hv0
  have T := Below.refl w.heap.size w
  unfold unkM at hm
  obtain ⟨y, e5, hm⟩ := bnd hm
  obtain rfl := Option.some.inj hm
  refine enter 13 Try.func44 rfl rfl rfl ?_
  intro f hf
  have s0 : f 0 = .pointer (some ⟨ba0, oa0, none⟩) := hf 0 _ rfl
  refine wp_seq ?_
  refine wp_rl rfl ?_
  refine RL.box rfl s0 (fun w2 B3 hb4 szw2 => ?_)
  replace B3 : Blk w2 w.heap.size 58 #[.pointer (some ⟨ba0, oa0, none⟩)] := B3
  have T := Tt T hb4
  have G6 : w.heap.size ≤ w2.heap.size := T.size
  refine RL.alloc (z := .agg #[.int .i64 0, .int .i64 0]) rfl (by kernel_rfl) (fun w5 B6 hb7 szw5 => ?_)
  replace B6 : Blk w5 w2.heap.size 28 #[.int .i64 0, .int .i64 0] := B6
  have B3 := blkT B3 hb7
  have T := Tt T hb7
  refine RL.y rfl (Y.assign (v := .bool false) rfl) ?_
  refine RL.nil ?_
  refine then_n ?_
  refine wp_seq ?_
  refine wp_rl rfl ?_
  have E2 := Nat.ne_of_lt B3.lt
  have E3 := Nat.ne_of_lt B6.lt
  have G8 : w.heap.size ≤ w5.heap.size := T.size
  refine RL.alloc (z := .agg #[.int .i64 0, .int .i64 0]) rfl (by kernel_rfl) (fun w8 B9 hb10 szw8 => ?_)
  replace B9 : Blk w8 w5.heap.size 28 #[.int .i64 0, .int .i64 0] := B9
  have B3 := blkT B3 hb10
  have B6 := blkT B6 hb10
  have T := Tt T hb10
  refine RL.nil ?_
  refine then_n ?_
  refine wp_seq ?_
  refine wp_rg (fun w' => Below w.heap.size w w' ∧ Blk w' w.heap.size 58 #[.pointer (some ⟨ba0, oa0, none⟩)]) [(0, true), (2, true), (1, false), (3, false), (4, true)] (by kernel_rfl) (by kernel_rfl) (fun w11 hb12 szw11 => ?_)
  have B3 := blkT B3 hb12
  have B6 := blkT B6 hb12
  have B9 := blkT B9 hb12
  have T := Tt T hb12
  refine ⟨⟨T, B3⟩, ?_⟩
  refine RG.y rfl rfl (Y.load (v := .pointer (some ⟨ba0, oa0, none⟩)) rfl (by kernel_rfl) (fun w' hS => (blkCell hS.2 (i := 0) rfl))) ?_
  refine RG.y rfl rfl (Y.makeFunc (vals := #[.pointer (some ⟨w5.heap.size, 0, none⟩), .pointer (some ⟨w.heap.size, 0, none⟩)]) (am2 rfl rfl)) ?_
  refine RG.act rfl ?_
  refine RL.call rfl (vals := #[]) (by simp) (by kernel_rfl) ((c_m_impl_rootPort ⟨0, 0⟩ rfl _).mono ?_)
  rintro _ w13 ⟨rfl, hb14⟩
  refine ⟨_, rfl, ?_⟩
  have szw13 := hb14.size
  have B3 := blkT B3 hb14
  have B6 := blkT B6 hb14
  have B9 := blkT B9 hb14
  have T := Tt T hb14
  refine RL.nil ⟨⟨T, B3⟩, ?_⟩
  refine RG.act rfl ?_
  refine RL.call rfl (am4 rfl rfl rfl rfl) (by kernel_rfl) ((c_dem _ d0 ⟨0, 0⟩ 1 y e5 _ w _ w5.heap.size w.heap.size ⟨0, 0⟩ T hv G8 B9 B3 E2).mono ?_)
  rintro _ w15 ⟨rfl, Bb, hg⟩
  refine ⟨_, rfl, ?_⟩
  have B6 := (hg.block _ B6.lt (by intro e; injection e with e; exact E3 e)).trans B6
  have B3 := (hg.block _ B3.lt (by intro e; injection e with e; exact E2 e)).trans B3
  have T := T.grown hg T.size (by intro b hb; injection hb with hb; subst hb; exact G8)
  refine RL.nil ⟨⟨T, B3⟩, ?_⟩
  refine RG.y rfl rfl (Y.assign (v := .bool y.1) rfl) ?_
  refine RG.nil ?_
  refine then_n ?_
  refine wp_seq ?_
  refine wp_rl rfl ?_
  refine RL.y rfl (Y.loadN (cs := [.int .i64 y.2.agent, .int .i64 y.2.slot]) rfl (by kernel_rfl) (cells2 (eqC (blkCell Bb (i := 0) rfl)) (eqC (blkCell Bb (i := 1) rfl)))) ?_
  refine RL.y rfl (Y.move (v := .bool y.1) rfl) ?_
  refine RL.y rfl (Y.not (b' := (!y.1)) rfl rfl) ?_
  refine RL.store (v := .agg #[.int .i64 y.2.agent, .int .i64 y.2.slot]) (cs' := #[.int .i64 y.2.agent, .int .i64 y.2.slot]) rfl rfl rfl B6 (by kernel_rfl) (by rfl) (by rfl) (by rfl) (fun w16 B17 ho18 => ?_)
  have T := T.trans (ho18.below (by intro b hb; simp at hb; subst hb; exact G6))
  refine RL.y rfl (Y.assign (v := .bool (!y.1)) rfl) ?_
  refine RL.nil ?_
  refine then_n ?_
  refine wp_ret ?_
  exact retct (cs := [.int .i64 y.2.agent, .int .i64 y.2.slot]) rfl rfl rfl rfl (by kernel_rfl) (blkCells B17) ⟨rfl, T⟩
end
section
open Go.RowKit
set_option linter.unusedVariables false
set_option linter.unusedSimpArgs false
set_option maxRecDepth 100000
def m_spec_IsLazyNormal (d0 : DNet) : Option Bool :=
  ((m_spec_l11Ok d0).bind fun y6 => (bif y6 then ((m_spec_l17Next (d0.agents.length + 2) d0 (⟨0, 0⟩ : DPort)).bind fun y11 => some (y11.2 == 3)) else some false))
set_option maxHeartbeats 2000000 in
theorem c_m_spec_IsLazyNormal (d0 : DNet) (r : Bool) (hm : m_spec_IsLazyNormal d0 = some r) (v0 : Value) (w : World) (hv0 : St netRd w v0 d0) :
    Calls Try.prog 16 #[v0] w fun e w' => e = .returned (.bool r) ∧ Below w.heap.size w w' := by
  obtain ⟨csa0, rfl, ⟨A1, n1, c1, rfl, ⟨h1, r1⟩⟩⟩ := hv0
  have e1 := h1.len; subst e1
  have q1 := len_le r1
  have T := Below.refl w.heap.size w
  unfold m_spec_IsLazyNormal at hm
  refine enter 14 Try.func16 rfl rfl rfl ?_
  intro f hf
  have s0 : f 0 = .agg #[.slice A1 d0.agents.length c1] := hf 0 _ rfl
  refine wp_seq ?_
  refine wp_rl rfl ?_
  refine RL.box rfl s0 (fun w2 B3 hb4 szw2 => ?_)
  replace B3 : Blk w2 w.heap.size 33 #[.slice A1 d0.agents.length c1] := B3
  have GB3 : w.heap.size ≤ w.heap.size := T.size
  have T := Tt T hb4
  refine RL.y rfl (Y.assign (v := .bool false) rfl) ?_
  refine RL.nil ?_
  refine then_n ?_
  refine wp_seq ?_
  refine wp_seq ?_
  refine wp_rb rfl ?_
  obtain ⟨y6, e7, hm⟩ := bnd hm
  refine RQ.call rfl (am1 rfl) (by kernel_rfl) (v := .bool y6) (bel (K := fun _ => True) fun w' hb' => (c_m_spec_l11Ok d0 _ e7 _ w' (ptBox (R := netRd) (blkT B3 hb') ⟨_, _, _, rfl, ⟨SlAt.now agentRd_ok h1 (Nat.le_refl _) (Tt T hb'), r1⟩⟩))) ?_
  refine RQ.y rfl (Y.not (b' := (!y6)) rfl rfl) ?_
  refine RQ.nil ?_
  intro w8 hb9
  have szw8 := hb9.size
  have B3 := blkT B3 hb9
  have T := Tt T hb9
  refine then_n ?_
  rcases bcases y6 with c10 | c10
  · replace hm := cF c10 hm
    refine cond_t rfl (vbn rfl c10 rfl) ?_
    refine wp_seq ?_
    refine wp_rs rfl ?_
    refine RQ.y rfl (Y.assign (v := .bool false) rfl) ?_
    refine RQ.nil ?_
    refine then_n ?_
    refine wp_ret ?_
    obtain rfl := Option.some.inj hm
    exact (then_r (ret1 rfl rfl rfl ⟨rfl, T⟩))
  · replace hm := cT c10 hm
    refine cond_f rfl (vbn rfl c10 rfl) ?_
    refine wp_skip ?_
    refine then_n ?_
    refine wp_seq ?_
    refine wp_rl rfl ?_
    refine RL.y rfl (Y.build0 (cells := #[.int .i64 0, .int .i64 0])  (by kernel_rfl) (by kernel_rfl)) ?_
    obtain ⟨y11, e12, hm⟩ := bnd hm
    refine RL.call rfl (am2 rfl rfl) (by kernel_rfl) ((c_m_spec_l17Next (d0.agents.length + 2) d0 (⟨0, 0⟩ : DPort) _ e12 _ _ (ptBox (R := netRd) B3 ⟨_, _, _, rfl, ⟨SlAt.now agentRd_ok h1 (Nat.le_refl _) T, r1⟩⟩)).mono ?_)
    rintro _ w13 ⟨rfl, hb14⟩
    refine ⟨_, rfl, ?_⟩
    have szw13 := hb14.size
    have B3 := blkT B3 hb14
    have T := Tt T hb14
    refine RL.y rfl (Y.move (v := .tuple #[.agg #[.int .i64 y11.1.a, .int .i64 y11.1.b], .int .i64 y11.2]) rfl) ?_
    refine RL.y rfl (Y.extract (i := 0) rfl rfl) ?_
    refine RL.y rfl (Y.extract (i := 1) rfl rfl) ?_
    refine RL.alloc (z := .agg #[.int .i64 0, .int .i64 0]) rfl (by kernel_rfl) (fun w15 B16 hb17 szw15 => ?_)
    replace B16 : Blk w15 w13.heap.size 65 #[.int .i64 0, .int .i64 0] := B16
    have GB16 : w.heap.size ≤ w13.heap.size := T.size
    have Eob18_ob5 := Nat.ne_of_lt B3.lt
    have B3 := blkT B3 hb17
    have T := Tt T hb17
    refine RL.store (v := .agg #[.int .i64 y11.1.a, .int .i64 y11.1.b]) (cs' := #[.int .i64 y11.1.a, .int .i64 y11.1.b]) rfl rfl rfl B16 (by kernel_rfl) (by rfl) (by rfl) (by rfl) (fun w19 B20 ho21 => ?_)
    have szw19 := ho21.size
    have B3 := B3.only_ ho21 (by intro hin; simp at hin; exact Eob18_ob5 hin)
    have T := T.trans (ho21.below (by first | (simp; done) | (simp; omega)))
    refine RL.y rfl (Y.assign (v := .int .i64 y11.2) rfl) ?_
    refine RL.nil ?_
    refine then_n ?_
    refine wp_seq ?_
    refine wp_rs rfl ?_
    refine RQ.y rfl (Y.move (v := .int .i64 y11.2) rfl) ?_
    refine RQ.y rfl (Y.binI (v := .bool (y11.2 == 3)) rfl rfl rfl) ?_
    refine RQ.y rfl (Y.assign (v := .bool (y11.2 == 3)) rfl) ?_
    refine RQ.nil ?_
    refine then_n ?_
    refine wp_ret ?_
    obtain rfl := Option.some.inj hm
    exact (ret1 rfl rfl rfl ⟨rfl, T⟩)
def m_impl_IsLazyNormal (d0 : DNet) : Option Bool :=
  ((m_impl_ValidNet d0).bind fun y6 => (bif y6 then ((unkM d0).bind fun y11 => some (!y11.2)) else some false))
set_option maxHeartbeats 2000000 in
theorem c_m_impl_IsLazyNormal (d0 : DNet) (r : Bool) (hm : m_impl_IsLazyNormal d0 = some r) (v0 : Value) (w : World) (hv0 : St netRd w v0 d0) :
    Calls Try.prog 17 #[v0] w fun e w' => e = .returned (.bool r) ∧ Below w.heap.size w w' := by
  obtain ⟨csa0, rfl, ⟨A1, n1, c1, rfl, ⟨h1, r1⟩⟩⟩ := hv0
  have e1 := h1.len; subst e1
  have q1 := len_le r1
  have T := Below.refl w.heap.size w
  unfold m_impl_IsLazyNormal at hm
  refine enter 14 Try.func17 rfl rfl rfl ?_
  intro f hf
  have s0 : f 0 = .agg #[.slice A1 d0.agents.length c1] := hf 0 _ rfl
  refine wp_seq ?_
  refine wp_rl rfl ?_
  refine RL.box rfl s0 (fun w2 B3 hb4 szw2 => ?_)
  replace B3 : Blk w2 w.heap.size 33 #[.slice A1 d0.agents.length c1] := B3
  have GB3 : w.heap.size ≤ w.heap.size := T.size
  have T := Tt T hb4
  refine RL.y rfl (Y.assign (v := .bool false) rfl) ?_
  refine RL.nil ?_
  refine then_n ?_
  refine wp_seq ?_
  refine wp_seq ?_
  refine wp_rb rfl ?_
  refine RQ.y rfl (Y.loadN (cs := [.slice A1 d0.agents.length c1]) rfl (by kernel_rfl) (cells1 (beC (blkCell B3 (i := 0) rfl)))) ?_
  obtain ⟨y6, e7, hm⟩ := bnd hm
  refine RQ.call rfl (am1 rfl) (by kernel_rfl) (v := .bool y6) (bel (K := fun _ => True) fun w' hb' => (c_m_impl_ValidNet d0 _ e7 _ w' (stArg (R := netRd) ⟨_, _, _, rfl, ⟨SlAt.now agentRd_ok h1 (Nat.le_refl _) (Tt T hb'), r1⟩⟩))) ?_
  refine RQ.y rfl (Y.not (b' := (!y6)) rfl rfl) ?_
  refine RQ.nil ?_
  intro w8 hb9
  have szw8 := hb9.size
  have B3 := blkT B3 hb9
  have T := Tt T hb9
  refine then_n ?_
  rcases bcases y6 with c10 | c10
  · replace hm := cF c10 hm
    refine cond_t rfl (vbn rfl c10 rfl) ?_
    refine wp_seq ?_
    refine wp_rs rfl ?_
    refine RQ.y rfl (Y.assign (v := .bool false) rfl) ?_
    refine RQ.nil ?_
    refine then_n ?_
    refine wp_ret ?_
    obtain rfl := Option.some.inj hm
    exact (then_r (ret1 rfl rfl rfl ⟨rfl, T⟩))
  · replace hm := cT c10 hm
    refine cond_f rfl (vbn rfl c10 rfl) ?_
    refine wp_skip ?_
    refine then_n ?_
    refine wp_seq ?_
    refine wp_rl rfl ?_
    obtain ⟨y11, e12, hm⟩ := bnd hm
    refine RL.call rfl (am1 rfl) (by kernel_rfl) ((c_unkM d0 _ e12 _ _ (ptBox (R := netRd) B3 ⟨_, _, _, rfl, ⟨SlAt.now agentRd_ok h1 (Nat.le_refl _) T, r1⟩⟩)).mono ?_)
    rintro _ w13 ⟨rfl, hb14⟩
    refine ⟨_, rfl, ?_⟩
    have szw13 := hb14.size
    have B3 := blkT B3 hb14
    have T := Tt T hb14
    refine RL.y rfl (Y.move (v := .tuple #[.agg #[.int .i64 y11.1.agent, .int .i64 y11.1.slot], .bool y11.2]) rfl) ?_
    refine RL.y rfl (Y.extract (i := 0) rfl rfl) ?_
    refine RL.y rfl (Y.extract (i := 1) rfl rfl) ?_
    refine RL.alloc (z := .agg #[.int .i64 0, .int .i64 0]) rfl (by kernel_rfl) (fun w15 B16 hb17 szw15 => ?_)
    replace B16 : Blk w15 w13.heap.size 28 #[.int .i64 0, .int .i64 0] := B16
    have GB16 : w.heap.size ≤ w13.heap.size := T.size
    have Eob18_ob5 := Nat.ne_of_lt B3.lt
    have B3 := blkT B3 hb17
    have T := Tt T hb17
    refine RL.store (v := .agg #[.int .i64 y11.1.agent, .int .i64 y11.1.slot]) (cs' := #[.int .i64 y11.1.agent, .int .i64 y11.1.slot]) rfl rfl rfl B16 (by kernel_rfl) (by rfl) (by rfl) (by rfl) (fun w19 B20 ho21 => ?_)
    have szw19 := ho21.size
    have B3 := B3.only_ ho21 (by intro hin; simp at hin; exact Eob18_ob5 hin)
    have T := T.trans (ho21.below (by first | (simp; done) | (simp; omega)))
    refine RL.y rfl (Y.assign (v := .bool y11.2) rfl) ?_
    refine RL.nil ?_
    refine then_n ?_
    refine wp_seq ?_
    refine wp_rs rfl ?_
    refine RQ.y rfl (Y.move (v := .bool y11.2) rfl) ?_
    refine RQ.y rfl (Y.not (b' := (!y11.2)) rfl rfl) ?_
    refine RQ.y rfl (Y.assign (v := .bool (!y11.2)) rfl) ?_
    refine RQ.nil ?_
    refine then_n ?_
    refine wp_ret ?_
    obtain rfl := Option.some.inj hm
    exact (ret1 rfl rfl rfl ⟨rfl, T⟩)
end
section
open Go.RowKit
set_option linter.unusedVariables false
set_option linter.unusedSimpArgs false
/-- The agents that were entered, each by its port 0 from the one before it; the last one first. -/
inductive Tr (xs : List DAgent) : List Nat → Prop
  | root : Tr xs [0]
  | step {i a : Nat} {L : List Nat} (h : Tr xs (a :: L)) (hp : (peer xs ⟨(i : Int), 0⟩).agent = (a : Int)) (h0 : i ≠ 0) : Tr xs (i :: a :: L)
theorem Tr.mem {xs : List DAgent} {i : Nat} (h0 : i ≠ 0) : ∀ {M : List Nat}, Tr xs M → i ∈ M → ∃ (pre rest : List Nat) (b : Nat), M = pre ++ i :: b :: rest ∧ (peer xs ⟨(i : Int), 0⟩).agent = (b : Int)
  | _, .root, h => by simp at h; exact absurd h h0
  | _, .step (i := j) (a := a) (L := L) h hp hj, hm => by
    rcases List.mem_cons.1 hm with rfl | hm
    · exact ⟨[], L, a, rfl, hp⟩
    · obtain ⟨pre, rest, b, e, hb⟩ := Tr.mem h0 h hm
      exact ⟨j :: pre, rest, b, by rw [e]; rfl, hb⟩
theorem Tr.new {xs : List DAgent} {i a : Nat} {L : List Nat} (h : Tr xs (a :: L)) (nd : (a :: L).Nodup) (hp : (peer xs ⟨(i : Int), 0⟩).agent = (a : Int)) (h0 : i ≠ 0) : i ∉ a :: L := by
  intro hm
  obtain ⟨pre, rest, b, e, hb⟩ := Tr.mem h0 h hm
  have hba : b = a := by omega
  subst hba
  cases pre with
  | nil =>
    simp only [List.nil_append, List.cons.injEq] at e
    have := (List.nodup_cons.1 nd).1
    rw [e.2] at this
    simp at this
  | cons c pre =>
    simp only [List.cons_append, List.cons.injEq] at e
    have := (List.nodup_cons.1 nd).1
    rw [e.2] at this
    simp at this
/-- What both ways give at a port. -/
def Both (xs : List DAgent) (rs : Option (DPair × Int)) (ri : Option (Bool × DPort)) : Prop :=
  ∃ (pr : DPair) (c : Int) (b : Bool) (z : DPort), rs = some (pr, c) ∧ ri = some (b, z) ∧ ((b = true ∧ c = 3) ∨ (b = false ∧ c ≠ 3 ∧ hasPort xs z = true ∧ known xs z = false ∧ ∃ l, m_spec_l17Walk ⟨xs⟩ z = some (l, pr, c)))
theorem known_at {xs : List DAgent} (G : Good xs) {p : DPort} (hp : hasPort xs p = true) (hk : known xs p = true) : ∃ (i : Nat) (x : DAgent), peer xs p = ⟨(i : Int), 0⟩ ∧ xs[i]? = some x ∧ i ≠ 0 := by
  obtain ⟨i, s, x, hqe, hx, _, ha⟩ := hasPort_at (G.peer hp).1
  unfold known at hk
  rw [hqe] at hk
  simp only [Bool.and_eq_true, beq_iff_eq] at hk
  have hs : s = 0 := by have := hk.1; omega
  subst hs
  refine ⟨i, x, hqe, hx, fun h0 => ?_⟩
  subst h0
  have hr := (G.root 0 x hx).2 rfl
  have h2 := hk.2
  rw [agentAt_nat hx, hr] at h2
  simp at h2
theorem walk_one {xs : List DAgent} (G : Good xs) {p : DPort} (hp : hasPort xs p = true) (hk : known xs p = false) : ∃ rs, m_spec_l17Walk ⟨xs⟩ p = some rs ∧ (rs.2.2 = 0 ∨ rs.2.2 = 5) := by
  have hq := (G.peer hp).1
  obtain ⟨S, hS, h1, h2⟩ := stops G hq
  obtain ⟨rs, e1, f1, f2⟩ := walk_spec G (p := p) hq hS h1 h2
  refine ⟨rs, ?_, ?_⟩
  · unfold m_spec_l17Walk
    rw [p_value G hp, Option.bind_some, hk, cond_false, p_speer hp, Option.bind_some]
    exact e1
  · cases hf : found xs (peer xs p) S with
    | true => left; rw [f1 hf]
    | false => right; exact f2 hf
theorem both {xs : List DAgent} (G : Good xs) (hs : Small xs) : ∀ (gas : Nat) (p : DPort) (a : Nat) (L : List Nat), hasPort xs p = true → p.agent = (a : Int) → Tr xs (a :: L) → (a :: L).Nodup → (∀ x ∈ a :: L, x < xs.length) → xs.length + 1 ≤ gas + (a :: L).length →
    Both xs (m_spec_l17Next gas ⟨xs⟩ p) (dem gas ⟨xs⟩ p ((a :: L).length : Int))
  | 0, p, a, L, hp, ha, ht, nd, hn, hg => by
    have := php xs.length (a :: L) nd hn
    omega
  | gas + 1, p, a, L, hp, ha, ht, nd, hn, hg => by
    have hlen := php xs.length (a :: L) nd hn
    have h6 := G.len
    unfold m_spec_l17Next dem m_spec_l17Next_R dem_R
    rw [p_isKnown G hp, Option.bind_some]
    cases hk : known xs p with
    | false =>
      obtain ⟨rs, e1, hr⟩ := walk_one G hp hk
      have hc : rs.2.2 ≠ 3 := by rcases hr with h | h <;> omega
      rw [e1, Option.bind_some, cond_false, show (rs.2.2 != 3) = true by simpa using hc, cond_true]
      exact ⟨_, _, _, _, rfl, rfl, .inr ⟨rfl, hc, hp, hk, rs.1, e1⟩⟩
    | true =>
      have ew : m_spec_l17Walk ⟨xs⟩ p = some ([], ⟨0, 0⟩, 3) := by unfold m_spec_l17Walk; rw [p_value G hp, Option.bind_some, hk, cond_true]
      obtain ⟨i, x, hq, hx, hi0⟩ := known_at G hp hk
      have hpp := (G.peer hp).2.1
      rw [hq] at hpp
      rw [ew, Option.bind_some, cond_true, show (((3 : Int)) != 3) = false from rfl, cond_false, p_speer hp, p_peer hp, Option.bind_some, Option.bind_some, hq]
      simp only [getI_nat hx, Option.bind_some, Option.getD_some, p_isKnown G hp, hk, cond_true]
      cases hc : (x.kind != 9) with
      | true =>
        rw [cond_true, cond_true]
        exact ⟨_, _, _, _, rfl, rfl, .inl ⟨rfl, rfl⟩⟩
      | false =>
        rw [cond_false, cond_false]
        have hpa : (peer xs ⟨(i : Int), 0⟩).agent = (a : Int) := by rw [hpp, ha]
        have hni := ht.new nd hpa hi0
        have ht' : Tr xs (i :: a :: L) := .step ht hpa hi0
        have nd' : (i :: a :: L).Nodup := List.nodup_cons.2 ⟨hni, nd⟩
        have hn' : ∀ y ∈ i :: a :: L, y < xs.length := fun y hy => by
          rcases List.mem_cons.1 hy with rfl | hy
          · exact lt_of_some hx
          · exact hn y hy
        have hlen' := php xs.length (i :: a :: L) nd' hn'
        have h4 := (agentOk_small (G.ok i x hx)).1
        have key : ∀ (m k g gs : Nat) (z48 : DPair) (z : DPort), k + m = x.ports.length → m < g → m < gs →
            Both xs (m_spec_l17Next_L1 ⟨xs⟩ (m_spec_l17Next gas) ⟨(i : Int), 0⟩ m_spec_l17Next_A1 gs (k : Int) ⟨0, 0⟩ z48) (dem_L1 ⟨xs⟩ ((a :: L).length : Int) (dem gas) ⟨(i : Int), 0⟩ dem_A1 g (k : Int) z) := by
          intro m
          induction m with
          | zero =>
            intro k g gs z48 z hm hg1 hg2
            obtain ⟨g, rfl⟩ : ∃ q, g = q + 1 := ⟨g - 1, by omega⟩
            obtain ⟨gs, rfl⟩ : ∃ q, gs = q + 1 := ⟨gs - 1, by omega⟩
            have hk' : k = x.ports.length := by omega
            subst hk'
            simp -implicitDefEqProofs only [m_spec_l17Next_L1, m_spec_l17Next_B1, dem_L1, dem_B1, getI_nat hx, Option.bind_some, dge, cond_false, m_spec_l17Next_A1, dem_A1]
            exact ⟨_, _, _, _, rfl, rfl, .inl ⟨rfl, rfl⟩⟩
          | succ m ih2 =>
            intro k g gs z48 z hm hg1 hg2
            obtain ⟨g, rfl⟩ : ∃ q, g = q + 1 := ⟨g - 1, by omega⟩
            obtain ⟨gs, rfl⟩ : ∃ q, gs = q + 1 := ⟨gs - 1, by omega⟩
            have hkl : k < x.ports.length := by omega
            obtain ⟨pr, c, b, z', r1, r2, hrel⟩ := both G hs gas ⟨(i : Int), (k : Int)⟩ i (a :: L) (hasPort_of hx hkl) rfl ht' nd' hn' (by simp only [List.length_cons] at hg ⊢; omega)
            have hdep : (((a :: L).length : Nat) : Int) + 1 = (((i :: a :: L).length : Nat) : Int) := by simp
            simp -implicitDefEqProofs only [m_spec_l17Next_L1, m_spec_l17Next_B1, dem_L1, dem_B1, getI_nat hx, Option.bind_some, dlt hkl, cond_true, m_spec_l13Port, r1]
            rw [hdep, ck_ok (by omega), Option.bind_some, r2, Option.bind_some]
            rcases hrel with ⟨rfl, rfl⟩ | ⟨rfl, hc3, hrest⟩
            · rw [show ((3 : Int) != 3) = false from rfl, cond_false]
              simp only [cond_true]
              have := ih2 (k + 1) g gs pr z' (by omega) (by omega) (by omega)
              simpa only [Int.natCast_add, Int.cast_ofNat_Int] using this
            · rw [show (c != 3) = true by simpa using hc3, cond_true]
              simp only [cond_false]
              exact ⟨_, _, _, _, rfl, rfl, .inr ⟨rfl, hc3, hrest⟩⟩
        have h1 : 1 ≤ x.ports.length := G.pos hx
        exact key (x.ports.length - 1) 1 6 (x.ports.length + 1) ⟨0, 0⟩ p (by omega) (by omega) (by omega)
noncomputable def lazyN (d : DNet) : Bool := bif validNet d then ((m_spec_l17Next (d.agents.length + 2) d ⟨0, 0⟩).getD default).2 == 3 else false
theorem both0 {xs : List DAgent} (G : Good xs) (hs : Small xs) : Both xs (m_spec_l17Next (xs.length + 2) ⟨xs⟩ ⟨0, 0⟩) (dem (xs.length + 2) ⟨xs⟩ ⟨0, 0⟩ 1) := by
  have h1 := G.one
  have hx := List.getElem?_eq_getElem (show 0 < xs.length by omega)
  exact both G hs (xs.length + 2) ⟨0, 0⟩ 0 [] (hasPort_of (i := 0) (k := 0) hx (G.pos hx)) rfl .root (by simp) (fun y hy => by simp at hy; omega) (by simp)
theorem p_sIsLazyNormal (d : DNet) (hs : Small d.agents) : m_spec_IsLazyNormal d = some (lazyN d) := by
  unfold m_spec_IsLazyNormal lazyN
  rw [p_ok _ hs, Option.bind_some]
  cases hv : validNet d with
  | false => rfl
  | true =>
    obtain ⟨xs⟩ := d
    obtain ⟨pr, c, b, z, e1, e2, _⟩ := both0 (good hv) hs
    rw [cond_true, cond_true, e1, Option.bind_some]
    rfl
theorem p_iIsLazyNormal (d : DNet) (hs : Small d.agents) : m_impl_IsLazyNormal d = some (lazyN d) := by
  unfold m_impl_IsLazyNormal lazyN
  rw [p_valid _ hs, Option.bind_some]
  cases hv : validNet d with
  | false => rfl
  | true =>
    obtain ⟨xs⟩ := d
    obtain ⟨pr, c, b, z, e1, e2, h⟩ := both0 (good hv) hs
    unfold unkM
    rw [cond_true, cond_true, e1, e2, Option.bind_some, Option.bind_some]
    simp only [Option.getD_some, Bool.not_not]
    rcases h with ⟨rfl, rfl⟩ | ⟨rfl, hc, _⟩
    · rfl
    · rw [show (c == 3) = false by simpa using hc]
end
section
open Go.RowKit
set_option linter.unusedVariables false
theorem specIsLazyNormal_v (v : Value) (x : DNet) (w : World) {B : Nat} (h : RdT netRd w B v x) (hB : B ≤ w.heap.size) (hs : szNet x ≤ 1048576) :
    Calls Try.prog 16 #[v] w fun e w' => e = .returned (.bool (lazyN x)) ∧ Below w.heap.size w w' :=
  c_m_spec_IsLazyNormal x _ (p_sIsLazyNormal x hs) v w (h.more netRd_ok hB)
theorem implIsLazyNormal_v (v : Value) (x : DNet) (w : World) {B : Nat} (h : RdT netRd w B v x) (hB : B ≤ w.heap.size) (hs : szNet x ≤ 1048576) :
    Calls Try.prog 17 #[v] w fun e w' => e = .returned (.bool (lazyN x)) ∧ Below w.heap.size w w' :=
  c_m_impl_IsLazyNormal x _ (p_iIsLazyNormal x hs) v w (h.more netRd_ok hB)
end
section
open Go.RowKit
set_option linter.unusedVariables false
set_option linter.unusedSimpArgs false
theorem szInt64S_v (v : Value) (xs : List Int) (left : Int) (w : World) {B : Nat} (h : RdS intRd 1 w B v xs) (hB : B ≤ w.heap.size) (h0 : 0 ≤ left) (h1 : left ≤ 1048576) :
    Calls Try.prog 85 #[v, .int .i64 left] w fun e w' => e = .returned (.int .i64 (szL left xs.length)) ∧ Below w.heap.size w w' := by
  obtain ⟨A, n, c, rfl, h, hnc, hcm⟩ := h
  have hr := Below.refl w.heap.size w
  have hl := h.len
  rw [← hl]
  unfold maxLen at hcm
  clear h hl
  by_cases hl : left - n < 0
  · have He := Lib.hid (szL_neg hl)
    go_enter Try.func85, Try.ntmps85
    go_wp2
    go_ret
    exact ⟨by rw [He.out]; rfl, hr⟩
  · have He := Lib.hid (szL_pos hl)
    go_enter Try.func85, Try.ntmps85
    go_wp2
    go_ret
    exact ⟨by rw [He.out]; rfl, hr⟩
theorem szPortS_v (v : Value) (xs : List DPort) (left : Int) (w : World) {B : Nat} (h : RdS portRd 2 w B v xs) (hB : B ≤ w.heap.size) (h0 : 0 ≤ left) (h1 : left ≤ 1048576) :
    Calls Try.prog 86 #[v, .int .i64 left] w fun e w' => e = .returned (.int .i64 (szL left xs.length)) ∧ Below w.heap.size w w' := by
  obtain ⟨A, n, c, rfl, h, hnc, hcm⟩ := h
  have hr := Below.refl w.heap.size w
  have hl := h.len
  rw [← hl]
  unfold maxLen at hcm
  clear h hl
  by_cases hl : left - n < 0
  · have He := Lib.hid (szL_neg hl)
    go_enter Try.func86, Try.ntmps86
    go_wp2
    go_ret
    exact ⟨by rw [He.out]; rfl, hr⟩
  · have He := Lib.hid (szL_pos hl)
    go_enter Try.func86, Try.ntmps86
    go_wp2
    go_ret
    exact ⟨by rw [He.out]; rfl, hr⟩
set_option maxHeartbeats 1000000 in
theorem szAgent_v (v : Value) (x : DAgent) (left : Int) (w : World) {B : Nat} (h : RdT agentRd w B v x) (hB : B ≤ w.heap.size) (h0 : 0 ≤ left) (h1 : left ≤ 1048576) :
    Calls Try.prog 59 #[v, .int .i64 left] w fun e w' => e = .returned (.int .i64 (szL left (szAgent x))) ∧ Below w.heap.size w w' := by
  obtain ⟨cs, rfl, A1, n1, c1, A2, n2, c2, rfl, ⟨g1, r1⟩, ⟨g2, r2⟩⟩ := h
  have hb : ∀ o1, Below w.heap.size w (w.alloc o1) := fun o1 => (Below.refl _ _).alloc (Nat.le_refl _) _
  obtain ⟨s0, es0⟩ : ∃ s : Nat, s = x.data.length := ⟨_, rfl⟩
  obtain ⟨s1, es1⟩ : ∃ s : Nat, s = x.ports.length := ⟨_, rfl⟩
  have Hs : Hid (szAgent x = s0 + s1) := by show _ = _; rw [es0, es1]; rfl
  have Es0 := Lib.hid es0
  have Es1 := Lib.hid es1
  clear es0 es1
  by_cases d0 : left - (s0 : Int) < 0
  · have He : Hid (szL left (szAgent x) = -1) := by show _ = _; rw [Hs.out, szL_neg (by omega)]
    go_enter Try.func59, Try.ntmps59
    go_wp2_with fail
    refine (szInt64S_v _ x.data (left) _ (B := B) ⟨A1, n1, c1, rfl, g1.below intRd_ok ((hb _).mono hB), r1⟩ (Nat.le_trans hB (hb _).size) (by omega) (by omega)).mono ?_
    rw [← Es0.out, szL_neg (by omega)]
    rintro e w1 ⟨rfl, q1⟩
    have T := (hb _).trans (q1.mono (hb _).size)
    have B1 := (Blk.new w _ _).below q1 (by simp)
    have z1 : w.heap.size + 1 ≤ w1.heap.size := by have := q1.size; simpa using this
    clear q1
    go_wp2_with fail
    go_ret
    exact ⟨by rw [He.out]; rfl, T⟩
  · skip
    by_cases d1 : left - s0 - (s1 : Int) < 0
    · have He : Hid (szL left (szAgent x) = -1) := by show _ = _; rw [Hs.out, szL_neg (by omega)]
      go_enter Try.func59, Try.ntmps59
      go_wp2_with fail
      refine (szInt64S_v _ x.data (left) _ (B := B) ⟨A1, n1, c1, rfl, g1.below intRd_ok ((hb _).mono hB), r1⟩ (Nat.le_trans hB (hb _).size) (by omega) (by omega)).mono ?_
      rw [← Es0.out, szL_pos (by omega)]
      rintro e w1 ⟨rfl, q1⟩
      have T := (hb _).trans (q1.mono (hb _).size)
      have B1 := (Blk.new w _ _).below q1 (by simp)
      have z1 : w.heap.size + 1 ≤ w1.heap.size := by have := q1.size; simpa using this
      clear q1
      have cB := B1.cell
      go_wp2_with fail
      clear cB
      refine (szPortS_v _ x.ports (left - s0) _ (B := B) ⟨A2, n2, c2, rfl, g2.below portRd_ok ((T).mono hB), r2⟩ (Nat.le_trans hB (T).size) (by omega) (by omega)).mono ?_
      rw [← Es1.out, szL_neg (by omega)]
      rintro e w2 ⟨rfl, q2⟩
      have T := T.trans (q2.mono T.size)
      have B1 := B1.below q2 (by omega)
      have z2 := Nat.le_trans z1 q2.size
      clear q2
      go_wp2_with fail
      go_ret
      exact ⟨by rw [He.out]; rfl, T⟩
    · skip
      have He : Hid (szL left (szAgent x) = left - s0 - s1) := by show _ = _; rw [Hs.out, szL_pos (by omega)]; try omega
      go_enter Try.func59, Try.ntmps59
      go_wp2_with fail
      refine (szInt64S_v _ x.data (left) _ (B := B) ⟨A1, n1, c1, rfl, g1.below intRd_ok ((hb _).mono hB), r1⟩ (Nat.le_trans hB (hb _).size) (by omega) (by omega)).mono ?_
      rw [← Es0.out, szL_pos (by omega)]
      rintro e w1 ⟨rfl, q1⟩
      have T := (hb _).trans (q1.mono (hb _).size)
      have B1 := (Blk.new w _ _).below q1 (by simp)
      have z1 : w.heap.size + 1 ≤ w1.heap.size := by have := q1.size; simpa using this
      clear q1
      have cB := B1.cell
      go_wp2_with fail
      clear cB
      refine (szPortS_v _ x.ports (left - s0) _ (B := B) ⟨A2, n2, c2, rfl, g2.below portRd_ok ((T).mono hB), r2⟩ (Nat.le_trans hB (T).size) (by omega) (by omega)).mono ?_
      rw [← Es1.out, szL_pos (by omega)]
      rintro e w2 ⟨rfl, q2⟩
      have T := T.trans (q2.mono T.size)
      have B1 := B1.below q2 (by omega)
      have z2 := Nat.le_trans z1 q2.size
      clear q2
      go_wp2_with fail
      go_ret
      exact ⟨by rw [He.out]; rfl, T⟩
theorem szAgentS_take {xs : List DAgent} {k : Nat} {x : DAgent} (h : xs[k]? = some x) : ((xs.take (k + 1)).map szAgent).sum = ((xs.take k).map szAgent).sum + szAgent x := by
  rw [take_succ_some h]; simp
theorem szAgentS_le (xs : List DAgent) (k : Nat) : ((xs.take k).map szAgent).sum ≤ (xs.map szAgent).sum := by
  have h : ((xs.take k ++ xs.drop k).map szAgent).sum = (xs.map szAgent).sum := by rw [List.take_append_drop]
  rw [List.map_append, List.sum_append] at h
  omega
set_option maxHeartbeats 1000000 in
theorem szAgentS_v (v : Value) (xs : List DAgent) (left : Int) (w : World) {B : Nat} (h : RdS agentRd 5 w B v xs) (hB : B ≤ w.heap.size) (h0 : 0 ≤ left) (h1 : left ≤ 1048576) :
    Calls Try.prog 34 #[v, .int .i64 left] w fun e w' => e = .returned (.int .i64 (szL left (szAgentS xs))) ∧ Below w.heap.size w w' := by
  obtain ⟨A, n, c, rfl, hx, hnc, hcm⟩ := h
  have hr := Below.refl w.heap.size w
  unfold maxLen at hcm
  have lx := Lib.hid hx.len
  by_cases hl : left - n < 0
  · have He : Hid (szL left (szAgentS xs) = -1) := szL_neg (by unfold szAgentS; rw [← lx.out]; omega)
    go_enter Try.func34, Try.ntmps34
    go_wp2
    go_ret
    exact ⟨by rw [He.out]; rfl, hr⟩
  · go_enter Try.func34, Try.ntmps34
    go_wp2
    go_loopw [1, 5] (fun s i wr => ∃ (k : Nat) (l : Int), k ≤ n ∧ i = .int .i64 k ∧ s = .int .i64 l ∧ 0 ≤ l ∧ l ≤ 1048576 ∧ Hid (l = left - n - (((xs.take k).map szAgent).sum : Nat)) ∧ Below w.heap.size w wr) (fun _ i _ => n - (intOf i).toNat)
    case atStart => exact ⟨0, left - n, by omega, rfl, rfl, by omega, by omega, by simp [Hid], hr⟩
    case round =>
      obtain ⟨k, s, hk, rfl, rfl, hs0, hs1, hs, hq⟩ := hrel
      by_cases hlt : k < n
      · obtain ⟨b, off, x, A1, n1, c1, A2, n2, c2, rfl, hb, hxk, hc0, hc1, hc2, hc3, hc4, ⟨g1, r1⟩, ⟨g2, r2⟩⟩ := (hx.below agentRd_ok (hq.mono hB)).agent hlt
        have Hxk := Lib.hid hxk
        clear hxk
        by_cases hd : s - (szAgent x : Int) < 0
        · have f := szL_neg hd
          have He : Hid (szL left (szAgentS xs) = -1) := szL_neg (by
            have e1 := szAgentS_le xs (k + 1)
            rw [szAgentS_take Hxk.out] at e1
            have e2 := hs.out
            have e3 := lx.out
            unfold szAgentS
            omega)
          go_wp2_with fail
          refine (szAgent_v _ x s _ (B := B) ⟨_, rfl, A1, n1, c1, A2, n2, c2, rfl, ⟨g1, r1⟩, ⟨g2, r2⟩⟩ (Nat.le_trans hB hq.size) hs0 hs1).mono ?_
          rintro e w1 ⟨rfl, q1⟩
          go_wp2_with fail
          go_ret
          exact ⟨by rw [He.out]; rfl, hq.trans (q1.mono hq.size)⟩
        · have f := szL_pos hd
          have Hn : Hid (s - (szAgent x : Int) = left - n - (((xs.take (k + 1)).map szAgent).sum : Nat)) := by
            have e1 := szAgentS_take Hxk.out
            have e2 := hs.out
            show _ = _
            rw [e1]
            omega
          go_wp2_with fail
          refine (szAgent_v _ x s _ (B := B) ⟨_, rfl, A1, n1, c1, A2, n2, c2, rfl, ⟨g1, r1⟩, ⟨g2, r2⟩⟩ (Nat.le_trans hB hq.size) hs0 hs1).mono ?_
          rintro e w1 ⟨rfl, q1⟩
          go_wp2_with fail
          go_roundw
          case rel => exact ⟨k + 1, s - (szAgent x : Int), by omega, by go_num, rfl, by omega, by omega, Hn.out, hq.trans (q1.mono hq.size)⟩
          case measure => simp [intOf]; omega
      · have He : Hid (szL left (szAgentS xs) = s) := by
          have e1 : xs.take k = xs := List.take_of_length_le (by have := lx.out; omega)
          have e2 := hs.out
          rw [e1] at e2
          have e3 := lx.out
          show _ = _
          rw [szL_pos (by unfold szAgentS; omega)]
          unfold szAgentS
          omega
        go_wp2_with fail
        go_ret
        exact ⟨by rw [He.out]; rfl, hq⟩
set_option maxHeartbeats 1000000 in
theorem szNet_v (v : Value) (x : DNet) (left : Int) (w : World) {B : Nat} (h : RdT netRd w B v x) (hB : B ≤ w.heap.size) (h0 : 0 ≤ left) (h1 : left ≤ 1048576) :
    Calls Try.prog 9 #[v, .int .i64 left] w fun e w' => e = .returned (.int .i64 (szL left (szNet x))) ∧ Below w.heap.size w w' := by
  obtain ⟨cs, rfl, A1, n1, c1, rfl, ⟨g1, r1⟩⟩ := h
  have hb : ∀ o1, Below w.heap.size w (w.alloc o1) := fun o1 => (Below.refl _ _).alloc (Nat.le_refl _) _
  obtain ⟨s0, es0⟩ : ∃ s : Nat, s = szAgentS x.agents := ⟨_, rfl⟩
  have Hs : Hid (szNet x = s0) := by show _ = _; rw [es0]; rfl
  have Es0 := Lib.hid es0
  clear es0
  by_cases d0 : left - (s0 : Int) < 0
  · have He : Hid (szL left (szNet x) = -1) := by show _ = _; rw [Hs.out, szL_neg (by omega)]
    go_enter Try.func9, Try.ntmps9
    go_wp2_with fail
    refine (szAgentS_v _ x.agents (left) _ (B := B) ⟨A1, n1, c1, rfl, g1.below agentRd_ok ((hb _).mono hB), r1⟩ (Nat.le_trans hB (hb _).size) (by omega) (by omega)).mono ?_
    rw [← Es0.out, szL_neg (by omega)]
    rintro e w1 ⟨rfl, q1⟩
    have T := (hb _).trans (q1.mono (hb _).size)
    have B1 := (Blk.new w _ _).below q1 (by simp)
    have z1 : w.heap.size + 1 ≤ w1.heap.size := by have := q1.size; simpa using this
    clear q1
    go_wp2_with fail
    go_ret
    exact ⟨by rw [He.out]; rfl, T⟩
  · skip
    have He : Hid (szL left (szNet x) = left - s0) := by show _ = _; rw [Hs.out, szL_pos (by omega)]; try omega
    go_enter Try.func9, Try.ntmps9
    go_wp2_with fail
    refine (szAgentS_v _ x.agents (left) _ (B := B) ⟨A1, n1, c1, rfl, g1.below agentRd_ok ((hb _).mono hB), r1⟩ (Nat.le_trans hB (hb _).size) (by omega) (by omega)).mono ?_
    rw [← Es0.out, szL_pos (by omega)]
    rintro e w1 ⟨rfl, q1⟩
    have T := (hb _).trans (q1.mono (hb _).size)
    have B1 := (Blk.new w _ _).below q1 (by simp)
    have z1 : w.heap.size + 1 ≤ w1.heap.size := by have := q1.size; simpa using this
    clear q1
    go_wp2_with fail
    go_ret
    exact ⟨by rw [He.out]; rfl, T⟩
end
section
open Go.RowKit
set_option linter.unusedVariables false
set_option linter.unusedSimpArgs false
theorem toPort_v (v : Value) (x : DPort) (w : World) {B : Nat} (h : RdT portRd w B v x) :
    Calls Try.prog 12 #[v] w fun e w' => e = .returned (.agg #[.int .i64 x.agent, .int .i64 x.slot]) ∧ Below w.heap.size w w' := by
  obtain ⟨cs, rfl, rfl⟩ := h
  go_enter Try.func12, Try.ntmps12
  go_wp2_with fail
  exact bodyPost_ret (v := .agg #[.int .i64 x.agent, .int .i64 x.slot]) (by simp [results, Try.results12, go_sem]) rfl ⟨rfl, (((Below.refl _ _).alloc (Nat.le_refl _) _).alloc (by simp) _).alloc (by simp; omega) _⟩
theorem info_PortS : (Try.prog.info? 28).map (fun i => (i.zero, i.size, i.bytes)) = some (some (.agg #[.int .i64 0, .int .i64 0]), 2, 16) := by kernel_rfl
set_option maxHeartbeats 1000000 in
theorem toPortS_v (v : Value) (xs : List DPort) (w : World) {B : Nat} (h : RdS portRd 2 w B v xs) (hB : B ≤ w.heap.size) (hs : xs.length ≤ 1048576) :
    Calls Try.prog 89 #[v] w fun e w' => Ret1 (fun v' => OwS portOw 2 w' v' xs w.heap.size w'.heap.size) e ∧ Below w.heap.size w w' := by
  obtain ⟨A, n, c, rfl, hx, hnc, hcm⟩ := h
  have lx := Lib.hid hx.len
  have hlen := hs
  have hn : n ≤ 1048576 := by have := lx.out; omega
  have hmk := run_make_sz 79 28 Try.underlying79 info_PortS n (by omega) (by omega)
  go_enter Try.func89, Try.ntmps89
  go_wp2
  clear hmk
  go_loopw [4] (fun i wr => ∃ k : Nat, k ≤ n ∧ i = .int .i64 k ∧ Below w.heap.size w wr ∧ w.heap.size + 1 ≤ wr.heap.size ∧ (∃ arr, Blk wr w.heap.size 28 arr ∧ Hid (arr.size = n * 2)) ∧ ∃ bs, ElAt portOw 2 wr w.heap.size 0 (xs.take k) bs ∧ bs.Nodup ∧ ∀ b ∈ bs, w.heap.size + 1 ≤ b ∧ b < wr.heap.size) (fun i _ => n - (intOf i).toNat)
  case atStart => exact ⟨0, by omega, rfl, (Below.refl _ _).alloc (Nat.le_refl _) _, by simp, ⟨_, Blk.new _ _ _, by simp [Hid, madeCells_size]⟩, [], rfl, List.nodup_nil, fun b hb => by simp at hb⟩
  case round =>
    obtain ⟨k, hk, rfl, hb, hzz, ⟨arr, BA, hasz⟩, bs, hel, hnd, hin⟩ := hrel
    by_cases hlt : k < n
    · obtain ⟨b, off, x, rfl, hlb, hxk, hc0, hc1⟩ := (hx.below portRd_ok (hb.mono hB)).port hlt
      have Hxk := Lib.hid hxk
      clear hxk
      go_wp2_with fail
      refine (toPort_v _ x _ (B := 0) ⟨_, rfl, rfl⟩).mono ?_
      rintro e w1 ⟨rfl, q1⟩
      obtain ⟨bl, HO, nd1, in1⟩ : ∃ bl, portOw w1 [.int .i64 x.agent, .int .i64 x.slot] x bl ∧ bl.Nodup ∧ ∀ b ∈ bl, wr.heap.size ≤ b ∧ b < w1.heap.size := ⟨[], ⟨rfl, rfl⟩, List.nodup_nil, fun b hb => by simp at hb⟩
      have BA := BA.below q1 (by omega)
      obtain ⟨z0, hz0⟩ := BA.some_ (i := k * 2) (by rw [hasz.out]; omega)
      obtain ⟨z1, hz1⟩ := BA.some_ (i := k * 2 + 1) (by rw [hasz.out]; omega)
      have fz := BA.frozen
      have zz := q1.size
      have Hel := Lib.hid (hel.keep portOw_ok (q1.block _ (by omega)) (fun k hk => q1.block k (hin k hk).2))
      clear hel
      have TB : ∀ y0 y1, Below w.heap.size w ((w1.setCell ⟨w.heap.size, k * 2, none⟩ y0).setCell ⟨w.heap.size, k * 2 + 1, none⟩ y1) := fun y0 y1 => (((hb.trans (q1.mono hb.size)).setCell (p := ⟨w.heap.size, k * 2, none⟩) (Nat.le_refl _) _).setCell (p := ⟨w.heap.size, k * 2 + 1, none⟩) (Nat.le_refl _) _)
      go_wp2_with fail
      go_roundw
      case rel =>
        refine ⟨k + 1, by omega, by go_num, TB _ _, by simp [World.setCell]; omega, ⟨_, ((BA.set_ (k * 2) _).set_ (k * 2 + 1) _), by simpa [Hid] using hasz⟩, bs ++ bl, ?_⟩
        rw [take_succ_some Hxk.out]
        have hlk : (xs.take k).length = k := by have := lx.out; simp; omega
        have h1 := ElAt.setRun portOw_ok (vs := [.int .i64 x.agent, .int .i64 x.slot]) (p := k * 2) Hel.out (fun hh => by have := hin _ hh; omega) (Or.inr (by rw [hlk]; omega))
        have hnn := nodup_two hnd nd1 hin in1 hzz zz
        refine ⟨ElAt.append h1 (ElAt.one (portOw_ok.keep (w' := setRun w1 w.heap.size (k * 2) [.int .i64 x.agent, .int .i64 x.slot]) (fun b hb => setRun_block (fun e => by have := in1 b hb; omega)) HO) ?_), hnn.1, fun b hb => by have := hnn.2 b hb; simp only [World.size_setCell]; exact this⟩
        rw [hlk, Nat.zero_add]
        exact setRun_csAt (vs := [.int .i64 x.agent, .int .i64 x.slot]) (fun j hj => by
          have hj : j < 2 := by simpa using hj
          match j, hj with
          | 0, _ => exact ⟨z0, hz0⟩
          | 1, _ => exact ⟨z1, hz1⟩) (fun j hj => fz _)
      case measure => simp [intOf]; omega
    · have hkn : k = n := by omega
      have e : xs.take k = xs := List.take_of_length_le (by have := lx.out; omega)
      rw [e] at hel
      have Hkn := Lib.hid hkn
      clear hkn e
      go_wp2
      go_ret
      exact ⟨⟨_, rfl, some ⟨w.heap.size, 0, none⟩, n, n, w.heap.size :: bs, rfl, ⟨lx.out, .inr ⟨_, _, bs, rfl, rfl, hel⟩⟩, List.nodup_cons.2 ⟨fun hh => by have := hin _ hh; omega, hnd⟩, fun b hb => by
        rcases List.mem_cons.1 hb with rfl | hb
        · omega
        · have := hin b hb; omega, Nat.le_refl _, by unfold maxLen; omega⟩, hb⟩
end
section
open Go.RowKit
set_option linter.unusedVariables false
set_option linter.unusedSimpArgs false
set_option maxHeartbeats 1000000 in
theorem toAgent_v (v : Value) (x : DAgent) (w : World) {B : Nat} (h : RdT agentRd w B v x) (hB : B ≤ w.heap.size) (hs : szAgent x ≤ 1048576) :
    Calls Try.prog 62 #[v] w fun e w' => Ret1 (fun v' => OwT agentOw w' v' x w.heap.size w'.heap.size) e ∧ Below w.heap.size w w' := by
  obtain ⟨cs, rfl, A1, n1, c1, A2, n2, c2, rfl, ⟨h1, r1⟩, ⟨h2, r2⟩⟩ := h
  unfold szAgent at hs
  have hb : ∀ o1 o2 o3, Below w.heap.size w (((w.alloc o1).alloc o2).alloc o3) := fun o1 o2 o3 => (((Below.refl _ _).alloc (Nat.le_refl _) _).alloc (by simp) _).alloc (by simp; omega) _
  go_enter Try.func62, Try.ntmps62
  go_wp2_with fail
  refine (toInt64S_v _ x.data _ (B := B) ⟨A1, n1, c1, rfl, h1.below intRd_ok ((hb _ _ _).mono hB), r1⟩ (Nat.le_trans hB (hb _ _ _).size) (by first | omega | (unfold lenOk; omega))).mono ?_
  rintro e w1 ⟨⟨v1, rfl, O1⟩, q1⟩
  have z1 : w.heap.size + 1 + 1 + 1 ≤ w1.heap.size := by have := q1.size; simpa using this
  have O1 := O1.wide (lo' := w.heap.size + 1 + 1 + 1) (hi' := w1.heap.size) (by simp) (Nat.le_refl _)
  obtain ⟨A1', m1, d1, bs1, rfl, ow1, nd1, in1, rr1⟩ := O1
  have T1 := (hb _ _ _).trans (q1.mono (hb _ _ _).size)
  have BB := blk3_0.below q1 (by simp <;> omega)
  have BR := blk3_1.below q1 (by simp <;> omega)
  have BO := blk3_2.below q1 (by simp <;> omega)
  clear q1
  have cB := BB.cell
  have cO := BO.cell
  have fO := BO.frozen
  go_wp2_with fail
  clear cB cO fO
  have T1 := T1.setCell (p := ⟨w.heap.size + 1 + 1, 3, none⟩) (by simp; omega) (.slice A1' m1 d1)
  have BB := BB.far (p := ⟨w.heap.size + 1 + 1, 3, none⟩) (by simp; omega) (.slice A1' m1 d1)
  have BR := BR.far (p := ⟨w.heap.size + 1 + 1, 3, none⟩) (by simp) (.slice A1' m1 d1)
  have BO := BO.set_ 3 (.slice A1' m1 d1)
  have ow1 := ow1.keep intOw_ok (w' := World.setCell w1 ⟨w.heap.size + 1 + 1, 3, none⟩ (.slice A1' m1 d1)) (fun k hk => Below.heap_setCell _ _ _ _ (by have := in1 k hk; simp; omega))
  refine (toPortS_v _ x.ports _ (B := B) ⟨A2, n2, c2, rfl, h2.below portRd_ok (T1.mono hB), r2⟩ (Nat.le_trans hB T1.size) (by first | omega | (unfold lenOk; omega))).mono ?_
  rintro e w2 ⟨⟨v2, rfl, O2⟩, q2⟩
  have z2 : w1.heap.size ≤ w2.heap.size := by have := q2.size; simpa using this
  have O2 := O2.wide (lo' := w1.heap.size) (hi' := w2.heap.size) (by simp) (Nat.le_refl _)
  obtain ⟨A2', m2, d2, bs2, rfl, ow2, nd2, in2, rr2⟩ := O2
  have T1 := T1.trans (q2.mono T1.size)
  have BB := BB.below q2 (by simp <;> omega)
  have BR := BR.below q2 (by simp <;> omega)
  have BO := BO.below q2 (by simp <;> omega)
  have ow1 := ow1.keep intOw_ok (w' := w2) (fun k hk => q2.block k (by have := in1 k hk; simp <;> omega))
  clear q2
  have cB := BB.cell
  have cO := BO.cell
  have fO := BO.frozen
  have cR := BR.cell
  have fR := BR.frozen
  go_wp2_with fail
  have hfin : ∀ w', OnlyIn (w.heap.size + 1) (w.heap.size + 1 + 1 + 1) w2 w' → (Ret1 (fun v' => OwT agentOw w' v' x w.heap.size w'.heap.size) (.returned (.agg #[.int .i64 x.kind, .int .i64 x.level, .int .i64 x.value, (.slice A1' m1 d1), (.slice A2' m2 d2)])) ∧ Below w.heap.size w w') := fun w' ho => by
    refine ⟨⟨_, rfl, [.int .i64 x.kind, .int .i64 x.level, .int .i64 x.value, (.slice A1' m1 d1), (.slice A2' m2 d2)], bs1 ++ bs2, rfl, ⟨A1', m1, d1, A2', m2, d2, bs1, bs2, rfl, ⟨ow1.keep intOw_ok (fun k hk => ho.block k (.inr (by have := in1 k hk; omega))), rr1⟩, ⟨ow2.keep portOw_ok (fun k hk => ho.block k (.inr (by have := in2 k hk; omega))), rr2⟩, rfl⟩, ?_⟩, T1.trans (ho.below.mono (by omega))⟩
    have h1 : bs1.Nodup ∧ ∀ b ∈ bs1, w.heap.size ≤ b ∧ b < w1.heap.size := ⟨nd1, fun b hb => by have := in1 b hb; omega⟩
    have h2 := nodup_two (lo := w.heap.size) (mid := w1.heap.size) (hi := w2.heap.size) h1.1 nd2 (fun b hb => by have := h1.2 b hb; omega) in2 (by omega) (by omega)
    exact ⟨h2.1, fun b hb => by have := h2.2 b hb; have := ho.size; omega⟩
  refine bodyPost_ret (v := .agg #[.int .i64 x.kind, .int .i64 x.level, .int .i64 x.value, (.slice A1' m1 d1), (.slice A2' m2 d2)]) (by simp [results, Try.results62, go_sem, cR]) rfl (hfin _ ?_)
  repeat (first | (with_reducible exact OnlyIn.refl _ _ _) | (with_reducible refine OnlyIn.setCell ?_ ⟨by simp, by simp⟩ _))
theorem szAgentS_el {xs : List DAgent} {k : Nat} {x : DAgent} (h : xs[k]? = some x) : szAgent x ≤ szAgentS xs := by
  have h1 := szAgentS_take h
  have h2 := szAgentS_le xs (k + 1)
  unfold szAgentS
  omega
theorem info_AgentS : (Try.prog.info? 81).map (fun i => (i.zero, i.size, i.bytes)) = some (some (.agg #[.int .i64 0, .int .i64 0, .int .i64 0, .slice none 0 0, .slice none 0 0]), 5, 72) := by kernel_rfl
set_option maxHeartbeats 1000000 in
theorem toAgentS_v (v : Value) (xs : List DAgent) (w : World) {B : Nat} (h : RdS agentRd 5 w B v xs) (hB : B ≤ w.heap.size) (hs : szAgentS xs ≤ 1048576) :
    Calls Try.prog 38 #[v] w fun e w' => Ret1 (fun v' => OwS agentOw 5 w' v' xs w.heap.size w'.heap.size) e ∧ Below w.heap.size w w' := by
  obtain ⟨A, n, c, rfl, hx, hnc, hcm⟩ := h
  have lx := Lib.hid hx.len
  have hlen : xs.length ≤ 1048576 := by unfold szAgentS at hs; omega
  have hn : n ≤ 1048576 := by have := lx.out; omega
  have hmk := run_make_sz 31 81 Try.underlying31 info_AgentS n (by omega) (by omega)
  go_enter Try.func38, Try.ntmps38
  go_wp2
  clear hmk
  go_loopw [4] (fun i wr => ∃ k : Nat, k ≤ n ∧ i = .int .i64 k ∧ Below w.heap.size w wr ∧ w.heap.size + 1 ≤ wr.heap.size ∧ (∃ arr, Blk wr w.heap.size 81 arr ∧ Hid (arr.size = n * 5)) ∧ ∃ bs, ElAt agentOw 5 wr w.heap.size 0 (xs.take k) bs ∧ bs.Nodup ∧ ∀ b ∈ bs, w.heap.size + 1 ≤ b ∧ b < wr.heap.size) (fun i _ => n - (intOf i).toNat)
  case atStart => exact ⟨0, by omega, rfl, (Below.refl _ _).alloc (Nat.le_refl _) _, by simp, ⟨_, Blk.new _ _ _, by simp [Hid, madeCells_size]⟩, [], rfl, List.nodup_nil, fun b hb => by simp at hb⟩
  case round =>
    obtain ⟨k, hk, rfl, hb, hzz, ⟨arr, BA, hasz⟩, bs, hel, hnd, hin⟩ := hrel
    by_cases hlt : k < n
    · obtain ⟨b, off, x, A1, n1, c1, A2, n2, c2, rfl, hlb, hxk, hc0, hc1, hc2, hc3, hc4, ⟨h1, r1⟩, ⟨h2, r2⟩⟩ := (hx.below agentRd_ok (hb.mono hB)).agent hlt
      have Hxk := Lib.hid hxk
      clear hxk
      go_wp2_with fail
      refine (toAgent_v _ x _ (B := B) ⟨_, rfl, A1, n1, c1, A2, n2, c2, rfl, ⟨h1, r1⟩, ⟨h2, r2⟩⟩ (Nat.le_trans hB hb.size) (by have := szAgentS_el Hxk.out; omega)).mono ?_
      rintro e w1 ⟨⟨v1, rfl, O1⟩, q1⟩
      obtain ⟨cs1, bl, rfl, HO, nd1, in1⟩ := O1
      have HO' := HO
      obtain ⟨A1', m1, d1, A2', m2, d2, b1, b2, rfl, _⟩ := HO'
      have BA := BA.below q1 (by omega)
      obtain ⟨z0, hz0⟩ := BA.some_ (i := k * 5) (by rw [hasz.out]; omega)
      obtain ⟨z1, hz1⟩ := BA.some_ (i := k * 5 + 1) (by rw [hasz.out]; omega)
      obtain ⟨z2, hz2⟩ := BA.some_ (i := k * 5 + 2) (by rw [hasz.out]; omega)
      obtain ⟨z3, hz3⟩ := BA.some_ (i := k * 5 + 3) (by rw [hasz.out]; omega)
      obtain ⟨z4, hz4⟩ := BA.some_ (i := k * 5 + 4) (by rw [hasz.out]; omega)
      have fz := BA.frozen
      have zz := q1.size
      have Hel := Lib.hid (hel.keep agentOw_ok (q1.block _ (by omega)) (fun k hk => q1.block k (hin k hk).2))
      clear hel
      have TB : ∀ y0 y1 y2 y3 y4, Below w.heap.size w (((((w1.setCell ⟨w.heap.size, k * 5, none⟩ y0).setCell ⟨w.heap.size, k * 5 + 1, none⟩ y1).setCell ⟨w.heap.size, k * 5 + 2, none⟩ y2).setCell ⟨w.heap.size, k * 5 + 3, none⟩ y3).setCell ⟨w.heap.size, k * 5 + 4, none⟩ y4) := fun y0 y1 y2 y3 y4 => ((((((hb.trans (q1.mono hb.size)).setCell (p := ⟨w.heap.size, k * 5, none⟩) (Nat.le_refl _) _).setCell (p := ⟨w.heap.size, k * 5 + 1, none⟩) (Nat.le_refl _) _).setCell (p := ⟨w.heap.size, k * 5 + 2, none⟩) (Nat.le_refl _) _).setCell (p := ⟨w.heap.size, k * 5 + 3, none⟩) (Nat.le_refl _) _).setCell (p := ⟨w.heap.size, k * 5 + 4, none⟩) (Nat.le_refl _) _)
      go_wp2_with fail
      go_roundw
      case rel =>
        refine ⟨k + 1, by omega, by go_num, TB _ _ _ _ _, by simp [World.setCell]; omega, ⟨_, (((((BA.set_ (k * 5) _).set_ (k * 5 + 1) _).set_ (k * 5 + 2) _).set_ (k * 5 + 3) _).set_ (k * 5 + 4) _), by simpa [Hid] using hasz⟩, bs ++ bl, ?_⟩
        rw [take_succ_some Hxk.out]
        have hlk : (xs.take k).length = k := by have := lx.out; simp; omega
        have h1 := ElAt.setRun agentOw_ok (vs := [.int .i64 x.kind, .int .i64 x.level, .int .i64 x.value, .slice A1' m1 d1, .slice A2' m2 d2]) (p := k * 5) Hel.out (fun hh => by have := hin _ hh; omega) (Or.inr (by rw [hlk]; omega))
        have hnn := nodup_two hnd nd1 hin in1 hzz zz
        refine ⟨ElAt.append h1 (ElAt.one (agentOw_ok.keep (w' := setRun w1 w.heap.size (k * 5) [.int .i64 x.kind, .int .i64 x.level, .int .i64 x.value, .slice A1' m1 d1, .slice A2' m2 d2]) (fun b hb => setRun_block (fun e => by have := in1 b hb; omega)) HO) ?_), hnn.1, fun b hb => by have := hnn.2 b hb; simp only [World.size_setCell]; exact this⟩
        rw [hlk, Nat.zero_add]
        exact setRun_csAt (vs := [.int .i64 x.kind, .int .i64 x.level, .int .i64 x.value, .slice A1' m1 d1, .slice A2' m2 d2]) (fun j hj => by
          have hj : j < 5 := by simpa using hj
          match j, hj with
          | 0, _ => exact ⟨z0, hz0⟩
          | 1, _ => exact ⟨z1, hz1⟩
          | 2, _ => exact ⟨z2, hz2⟩
          | 3, _ => exact ⟨z3, hz3⟩
          | 4, _ => exact ⟨z4, hz4⟩) (fun j hj => fz _)
      case measure => simp [intOf]; omega
    · have hkn : k = n := by omega
      have e : xs.take k = xs := List.take_of_length_le (by have := lx.out; omega)
      rw [e] at hel
      have Hkn := Lib.hid hkn
      clear hkn e
      go_wp2
      go_ret
      exact ⟨⟨_, rfl, some ⟨w.heap.size, 0, none⟩, n, n, w.heap.size :: bs, rfl, ⟨lx.out, .inr ⟨_, _, bs, rfl, rfl, hel⟩⟩, List.nodup_cons.2 ⟨fun hh => by have := hin _ hh; omega, hnd⟩, fun b hb => by
        rcases List.mem_cons.1 hb with rfl | hb
        · omega
        · have := hin b hb; omega, Nat.le_refl _, by unfold maxLen; omega⟩, hb⟩
set_option maxHeartbeats 1000000 in
theorem toNet_v (v : Value) (x : DNet) (w : World) {B : Nat} (h : RdT netRd w B v x) (hB : B ≤ w.heap.size) (hs : szNet x ≤ 1048576) :
    Calls Try.prog 11 #[v] w fun e w' => Ret1 (fun v' => OwT netOw w' v' x w.heap.size w'.heap.size) e ∧ Below w.heap.size w w' := by
  obtain ⟨cs, rfl, A1, n1, c1, rfl, ⟨h1, r1⟩⟩ := h
  unfold szNet at hs
  have hb : ∀ o1 o2 o3, Below w.heap.size w (((w.alloc o1).alloc o2).alloc o3) := fun o1 o2 o3 => (((Below.refl _ _).alloc (Nat.le_refl _) _).alloc (by simp) _).alloc (by simp; omega) _
  go_enter Try.func11, Try.ntmps11
  go_wp2_with fail
  refine (toAgentS_v _ x.agents _ (B := B) ⟨A1, n1, c1, rfl, h1.below agentRd_ok ((hb _ _ _).mono hB), r1⟩ (Nat.le_trans hB (hb _ _ _).size) (by first | omega | (unfold lenOk; omega))).mono ?_
  rintro e w1 ⟨⟨v1, rfl, O1⟩, q1⟩
  have z1 : w.heap.size + 1 + 1 + 1 ≤ w1.heap.size := by have := q1.size; simpa using this
  have O1 := O1.wide (lo' := w.heap.size + 1 + 1 + 1) (hi' := w1.heap.size) (by simp) (Nat.le_refl _)
  obtain ⟨A1', m1, d1, bs1, rfl, ow1, nd1, in1, rr1⟩ := O1
  have T1 := (hb _ _ _).trans (q1.mono (hb _ _ _).size)
  have BB := blk3_0.below q1 (by simp <;> omega)
  have BR := blk3_1.below q1 (by simp <;> omega)
  have BO := blk3_2.below q1 (by simp <;> omega)
  clear q1
  have cB := BB.cell
  have cO := BO.cell
  have fO := BO.frozen
  have cR := BR.cell
  have fR := BR.frozen
  go_wp2_with fail
  have hfin : ∀ w', OnlyIn (w.heap.size + 1) (w.heap.size + 1 + 1 + 1) w1 w' → (Ret1 (fun v' => OwT netOw w' v' x w.heap.size w'.heap.size) (.returned (.agg #[(.slice A1' m1 d1)])) ∧ Below w.heap.size w w') := fun w' ho => by
    refine ⟨⟨_, rfl, [(.slice A1' m1 d1)], bs1, rfl, ⟨A1', m1, d1, bs1, rfl, ⟨ow1.keep agentOw_ok (fun k hk => ho.block k (.inr (by have := in1 k hk; omega))), rr1⟩, rfl⟩, ?_⟩, T1.trans (ho.below.mono (by omega))⟩
    have h1 : bs1.Nodup ∧ ∀ b ∈ bs1, w.heap.size ≤ b ∧ b < w1.heap.size := ⟨nd1, fun b hb => by have := in1 b hb; omega⟩
    exact ⟨h1.1, fun b hb => by have := h1.2 b hb; have := ho.size; omega⟩
  refine bodyPost_ret (v := .agg #[(.slice A1' m1 d1)]) (by simp [results, Try.results11, go_sem, cR]) rfl (hfin _ ?_)
  repeat (first | (with_reducible exact OnlyIn.refl _ _ _) | (with_reducible refine OnlyIn.setCell ?_ ⟨by simp, by simp⟩ _))
end
section
open Go.RowKit
set_option linter.unusedVariables false
set_option linter.unusedSimpArgs false
set_option maxHeartbeats 1000000 in
theorem eqPort_v (v u : Value) (x y : DPort) (w : World) {B B' : Nat} (h : RdT portRd w B v x) (h' : RdT portRd w B' u y) (hB : B ≤ w.heap.size) (hB' : B' ≤ w.heap.size) :
    Calls Try.prog 14 #[v, u] w fun e w' => e = .returned (.bool (decide (x = y))) ∧ Below w.heap.size w w' := by
  obtain ⟨cs, rfl, rfl⟩ := h
  obtain ⟨cs, rfl, rfl⟩ := h'
  have hb : ∀ o1 o2, Below w.heap.size w ((w.alloc o1).alloc o2) := fun o1 o2 => ((Below.refl _ _).alloc (Nat.le_refl _) _).alloc (by simp) _
  by_cases e0 : x.agent = y.agent
  · have f0 : (x.agent != y.agent) = false := by simp [e0]
    by_cases e1 : x.slot = y.slot
    · have f1 : (x.slot != y.slot) = false := by simp [e1]
      have He : Hid (decide (x = y) = true) := decide_eq_true (by cases x; cases y; simp_all)
      clear e0 e1
      go_enter Try.func14, Try.ntmps14
      go_wp2_with fail
      go_ret
      exact ⟨by rw [He.out]; rfl, hb _ _⟩
    · have f1 : (x.slot != y.slot) = true := by simp [e1]
      have He : Hid (decide (x = y) = false) := decide_eq_false (by intro exy; exact e1 (by rw [exy]))
      clear e0 e1
      go_enter Try.func14, Try.ntmps14
      go_wp2_with fail
      go_ret
      exact ⟨by rw [He.out]; rfl, hb _ _⟩
  · have f0 : (x.agent != y.agent) = true := by simp [e0]
    have He : Hid (decide (x = y) = false) := decide_eq_false (by intro exy; exact e0 (by rw [exy]))
    clear e0
    go_enter Try.func14, Try.ntmps14
    go_wp2_with fail
    go_ret
    exact ⟨by rw [He.out]; rfl, hb _ _⟩
set_option maxHeartbeats 1000000 in
theorem eqPortS_v (v u : Value) (xs ys : List DPort) (w : World) {B B' : Nat} (h : RdS portRd 2 w B v xs) (h' : RdS portRd 2 w B' u ys) (hB : B ≤ w.heap.size) (hB' : B' ≤ w.heap.size) :
    Calls Try.prog 92 #[v, u] w fun e w' => e = .returned (.bool (eqL xs ys)) ∧ Below w.heap.size w w' := by
  obtain ⟨A, n, c, rfl, hx, hnc, hcm⟩ := h
  obtain ⟨C, m, d, rfl, hy, hmd, hdm⟩ := h'
  unfold maxLen at hcm hdm
  have lx := Lib.hid hx.len
  have ly := Lib.hid hy.len
  have hr := Below.refl w.heap.size w
  by_cases hnm : n = m
  · subst hnm
    go_enter Try.func92, Try.ntmps92
    go_wp2
    go_loopw [5] (fun i wr => ∃ k : Nat, k ≤ n ∧ i = .int .i64 k ∧ Hid (xs.take k = ys.take k) ∧ Below w.heap.size w wr) (fun i _ => n - (intOf i).toNat)
    case atStart => exact ⟨0, by omega, rfl, rfl, hr⟩
    case round =>
      obtain ⟨k, hk, rfl, ht, hq⟩ := hrel
      by_cases hlt : k < n
      · have hx' := hx.below portRd_ok (hq.mono hB)
        have hy' := hy.below portRd_ok (hq.mono hB')
        obtain ⟨b, off, x, rfl, hb, hxk, hc0, hc1⟩ := hx'.port hlt
        obtain ⟨b', off', y, rfl, hb', hyk, hc0', hc1'⟩ := hy'.port hlt
        have Hxk := Lib.hid hxk
        have Hyk := Lib.hid hyk
        clear hxk hyk hx' hy'
        have hzB : B ≤ wr.drew.heap.size := Nat.le_trans hB hq.size
        have hzB' : B' ≤ wr.drew.heap.size := Nat.le_trans hB' hq.size
        by_cases hxy : x = y
        · have hf : decide (x = y) = true := decide_eq_true hxy
          have Hxy := Lib.hid hxy
          clear hxy
          go_wp2_with fail
          go_region_with (go_at_call 14; refine (eqPort_v _ _ x y _ (B := 0) (B' := 0) ⟨_, rfl, rfl⟩ ⟨_, rfl, rfl⟩ (Nat.zero_le _) (Nat.zero_le _)).mono ?_; rintro e w1 ⟨rfl, hq1⟩)
          all_goals
            go_wp2_with fail
            go_roundw
            case rel => exact ⟨k + 1, by omega, by go_num, eqL_step Hxk.out Hyk.out ht.out Hxy.out, hq.drew.trans (hq1.mono hq.size)⟩
            case measure => simp [intOf]; omega
        · have hf : decide (x = y) = false := decide_eq_false hxy
          have Hno := Lib.hid (eqL_no Hxk.out Hyk.out hxy)
          clear hxy
          go_wp2_with fail
          go_region_with (go_at_call 14; refine (eqPort_v _ _ x y _ (B := 0) (B' := 0) ⟨_, rfl, rfl⟩ ⟨_, rfl, rfl⟩ (Nat.zero_le _) (Nat.zero_le _)).mono ?_; rintro e w1 ⟨rfl, hq1⟩)
          all_goals
            go_wp2_with fail
            go_ret
            exact ⟨by rw [Hno.out]; rfl, hq.drew.trans (hq1.mono hq.size)⟩
      · have Hyes := Lib.hid (eqL_yes (k := k) ht.out (by have := lx.out; omega) (by have := ly.out; omega))
        go_wp2
        go_ret
        exact ⟨by rw [Hyes.out]; rfl, hq⟩
  · have Hno := Lib.hid (eqL_len (xs := xs) (ys := ys) (by have := lx.out; have := ly.out; omega))
    have hf : ((n : Int) != (m : Int)) = true := by simp; omega
    go_enter Try.func92, Try.ntmps92
    go_wp2
    go_ret
    exact ⟨by rw [Hno.out]; rfl, hr⟩
end
section
open Go.RowKit
set_option linter.unusedVariables false
set_option linter.unusedSimpArgs false
set_option maxHeartbeats 1000000 in
theorem eqAgent_v (v u : Value) (x y : DAgent) (w : World) {B B' : Nat} (h : RdT agentRd w B v x) (h' : RdT agentRd w B' u y) (hB : B ≤ w.heap.size) (hB' : B' ≤ w.heap.size) :
    Calls Try.prog 67 #[v, u] w fun e w' => e = .returned (.bool (decide (x = y))) ∧ Below w.heap.size w w' := by
  obtain ⟨cs, rfl, A1, n1, c1, A2, n2, c2, rfl, ⟨h1, r1⟩, ⟨h2, r2⟩⟩ := h
  obtain ⟨cs, rfl, A1', n1', c1', A2', n2', c2', rfl, ⟨h1', r1'⟩, ⟨h2', r2'⟩⟩ := h'
  have hb : ∀ o1 o2, Below w.heap.size w ((w.alloc o1).alloc o2) := fun o1 o2 => ((Below.refl _ _).alloc (Nat.le_refl _) _).alloc (by simp) _
  by_cases e0 : x.kind = y.kind
  · have f0 : (x.kind != y.kind) = false := by simp [e0]
    by_cases e1 : x.level = y.level
    · have f1 : (x.level != y.level) = false := by simp [e1]
      by_cases e2 : x.value = y.value
      · have f2 : (x.value != y.value) = false := by simp [e2]
        by_cases e3 : x.data = y.data
        · have f3 : eqL x.data y.data = true := decide_eq_true e3
          by_cases e4 : x.ports = y.ports
          · have f4 : eqL x.ports y.ports = true := decide_eq_true e4
            have He : Hid (decide (x = y) = true) := decide_eq_true (by cases x; cases y; simp_all)
            clear e0 e1 e2 e3 e4
            go_enter Try.func67, Try.ntmps67
            go_wp2_with fail
            refine (eqInt64S_v _ _ x.data y.data _ (B := B) (B' := B') ⟨A1, n1, c1, rfl, h1.below intRd_ok ((hb _ _).mono hB), r1⟩ ⟨A1', n1', c1', rfl, h1'.below intRd_ok ((hb _ _).mono hB'), r1'⟩ (Nat.le_trans hB (hb _ _).size) (Nat.le_trans hB' (hb _ _).size)).mono ?_
            rintro e w1 ⟨rfl, q1⟩
            have T := (hb _ _).trans (q1.mono (hb _ _).size)
            have B1 := blk2_0.below q1 (by simp <;> omega)
            have B2 := blk2_1.below q1 (by simp <;> omega)
            have z1 : w.heap.size + 1 + 1 ≤ w1.heap.size := by have := q1.size; simpa using this
            clear q1
            have g1 := B1.cell
            have g2 := B2.cell
            go_wp2_with fail
            clear g1 g2
            refine (eqPortS_v _ _ x.ports y.ports _ (B := B) (B' := B') ⟨A2, n2, c2, rfl, h2.below portRd_ok ((T).mono hB), r2⟩ ⟨A2', n2', c2', rfl, h2'.below portRd_ok ((T).mono hB'), r2'⟩ (Nat.le_trans hB (T).size) (Nat.le_trans hB' (T).size)).mono ?_
            rintro e w2 ⟨rfl, q2⟩
            have T := T.trans (q2.mono T.size)
            have B1 := B1.below q2 (by omega)
            have B2 := B2.below q2 (by omega)
            have z2 := Nat.le_trans z1 q2.size
            clear q2
            go_wp2_with fail
            go_ret
            exact ⟨by rw [He.out]; rfl, T⟩
          · have f4 : eqL x.ports y.ports = false := decide_eq_false e4
            have He : Hid (decide (x = y) = false) := decide_eq_false (by intro exy; exact e4 (by rw [exy]))
            clear e0 e1 e2 e3 e4
            go_enter Try.func67, Try.ntmps67
            go_wp2_with fail
            refine (eqInt64S_v _ _ x.data y.data _ (B := B) (B' := B') ⟨A1, n1, c1, rfl, h1.below intRd_ok ((hb _ _).mono hB), r1⟩ ⟨A1', n1', c1', rfl, h1'.below intRd_ok ((hb _ _).mono hB'), r1'⟩ (Nat.le_trans hB (hb _ _).size) (Nat.le_trans hB' (hb _ _).size)).mono ?_
            rintro e w1 ⟨rfl, q1⟩
            have T := (hb _ _).trans (q1.mono (hb _ _).size)
            have B1 := blk2_0.below q1 (by simp <;> omega)
            have B2 := blk2_1.below q1 (by simp <;> omega)
            have z1 : w.heap.size + 1 + 1 ≤ w1.heap.size := by have := q1.size; simpa using this
            clear q1
            have g1 := B1.cell
            have g2 := B2.cell
            go_wp2_with fail
            clear g1 g2
            refine (eqPortS_v _ _ x.ports y.ports _ (B := B) (B' := B') ⟨A2, n2, c2, rfl, h2.below portRd_ok ((T).mono hB), r2⟩ ⟨A2', n2', c2', rfl, h2'.below portRd_ok ((T).mono hB'), r2'⟩ (Nat.le_trans hB (T).size) (Nat.le_trans hB' (T).size)).mono ?_
            rintro e w2 ⟨rfl, q2⟩
            have T := T.trans (q2.mono T.size)
            have B1 := B1.below q2 (by omega)
            have B2 := B2.below q2 (by omega)
            have z2 := Nat.le_trans z1 q2.size
            clear q2
            go_wp2_with fail
            go_ret
            exact ⟨by rw [He.out]; rfl, T⟩
        · have f3 : eqL x.data y.data = false := decide_eq_false e3
          have He : Hid (decide (x = y) = false) := decide_eq_false (by intro exy; exact e3 (by rw [exy]))
          clear e0 e1 e2 e3
          go_enter Try.func67, Try.ntmps67
          go_wp2_with fail
          refine (eqInt64S_v _ _ x.data y.data _ (B := B) (B' := B') ⟨A1, n1, c1, rfl, h1.below intRd_ok ((hb _ _).mono hB), r1⟩ ⟨A1', n1', c1', rfl, h1'.below intRd_ok ((hb _ _).mono hB'), r1'⟩ (Nat.le_trans hB (hb _ _).size) (Nat.le_trans hB' (hb _ _).size)).mono ?_
          rintro e w1 ⟨rfl, q1⟩
          have T := (hb _ _).trans (q1.mono (hb _ _).size)
          have B1 := blk2_0.below q1 (by simp <;> omega)
          have B2 := blk2_1.below q1 (by simp <;> omega)
          have z1 : w.heap.size + 1 + 1 ≤ w1.heap.size := by have := q1.size; simpa using this
          clear q1
          go_wp2_with fail
          go_ret
          exact ⟨by rw [He.out]; rfl, T⟩
      · have f2 : (x.value != y.value) = true := by simp [e2]
        have He : Hid (decide (x = y) = false) := decide_eq_false (by intro exy; exact e2 (by rw [exy]))
        clear e0 e1 e2
        go_enter Try.func67, Try.ntmps67
        go_wp2_with fail
        go_ret
        exact ⟨by rw [He.out]; rfl, hb _ _⟩
    · have f1 : (x.level != y.level) = true := by simp [e1]
      have He : Hid (decide (x = y) = false) := decide_eq_false (by intro exy; exact e1 (by rw [exy]))
      clear e0 e1
      go_enter Try.func67, Try.ntmps67
      go_wp2_with fail
      go_ret
      exact ⟨by rw [He.out]; rfl, hb _ _⟩
  · have f0 : (x.kind != y.kind) = true := by simp [e0]
    have He : Hid (decide (x = y) = false) := decide_eq_false (by intro exy; exact e0 (by rw [exy]))
    clear e0
    go_enter Try.func67, Try.ntmps67
    go_wp2_with fail
    go_ret
    exact ⟨by rw [He.out]; rfl, hb _ _⟩
set_option maxHeartbeats 1000000 in
theorem eqAgentS_v (v u : Value) (xs ys : List DAgent) (w : World) {B B' : Nat} (h : RdS agentRd 5 w B v xs) (h' : RdS agentRd 5 w B' u ys) (hB : B ≤ w.heap.size) (hB' : B' ≤ w.heap.size) :
    Calls Try.prog 42 #[v, u] w fun e w' => e = .returned (.bool (eqL xs ys)) ∧ Below w.heap.size w w' := by
  obtain ⟨A, n, c, rfl, hx, hnc, hcm⟩ := h
  obtain ⟨C, m, d, rfl, hy, hmd, hdm⟩ := h'
  unfold maxLen at hcm hdm
  have lx := Lib.hid hx.len
  have ly := Lib.hid hy.len
  have hr := Below.refl w.heap.size w
  by_cases hnm : n = m
  · subst hnm
    go_enter Try.func42, Try.ntmps42
    go_wp2
    go_loopw [5] (fun i wr => ∃ k : Nat, k ≤ n ∧ i = .int .i64 k ∧ Hid (xs.take k = ys.take k) ∧ Below w.heap.size w wr) (fun i _ => n - (intOf i).toNat)
    case atStart => exact ⟨0, by omega, rfl, rfl, hr⟩
    case round =>
      obtain ⟨k, hk, rfl, ht, hq⟩ := hrel
      by_cases hlt : k < n
      · have hx' := hx.below agentRd_ok (hq.mono hB)
        have hy' := hy.below agentRd_ok (hq.mono hB')
        obtain ⟨b, off, x, A1, n1, c1, A2, n2, c2, rfl, hb, hxk, hc0, hc1, hc2, hc3, hc4, ⟨h1, r1⟩, ⟨h2, r2⟩⟩ := hx'.agent hlt
        obtain ⟨b', off', y, A1', n1', c1', A2', n2', c2', rfl, hb', hyk, hc0', hc1', hc2', hc3', hc4', ⟨h1', r1'⟩, ⟨h2', r2'⟩⟩ := hy'.agent hlt
        have Hxk := Lib.hid hxk
        have Hyk := Lib.hid hyk
        clear hxk hyk hx' hy'
        have hzB : B ≤ wr.drew.heap.size := Nat.le_trans hB hq.size
        have hzB' : B' ≤ wr.drew.heap.size := Nat.le_trans hB' hq.size
        by_cases hxy : x = y
        · have hf : decide (x = y) = true := decide_eq_true hxy
          have Hxy := Lib.hid hxy
          clear hxy
          go_wp2_with fail
          go_region_with (go_at_call 67; refine (eqAgent_v _ _ x y _ (B := B) (B' := B') ⟨_, rfl, A1, n1, c1, A2, n2, c2, rfl, ⟨h1.drew intRd_ok, r1⟩, ⟨h2.drew portRd_ok, r2⟩⟩ ⟨_, rfl, A1', n1', c1', A2', n2', c2', rfl, ⟨h1'.drew intRd_ok, r1'⟩, ⟨h2'.drew portRd_ok, r2'⟩⟩ hzB hzB').mono ?_; rintro e w1 ⟨rfl, hq1⟩)
          all_goals
            go_wp2_with fail
            go_roundw
            case rel => exact ⟨k + 1, by omega, by go_num, eqL_step Hxk.out Hyk.out ht.out Hxy.out, hq.drew.trans (hq1.mono hq.size)⟩
            case measure => simp [intOf]; omega
        · have hf : decide (x = y) = false := decide_eq_false hxy
          have Hno := Lib.hid (eqL_no Hxk.out Hyk.out hxy)
          clear hxy
          go_wp2_with fail
          go_region_with (go_at_call 67; refine (eqAgent_v _ _ x y _ (B := B) (B' := B') ⟨_, rfl, A1, n1, c1, A2, n2, c2, rfl, ⟨h1.drew intRd_ok, r1⟩, ⟨h2.drew portRd_ok, r2⟩⟩ ⟨_, rfl, A1', n1', c1', A2', n2', c2', rfl, ⟨h1'.drew intRd_ok, r1'⟩, ⟨h2'.drew portRd_ok, r2'⟩⟩ hzB hzB').mono ?_; rintro e w1 ⟨rfl, hq1⟩)
          all_goals
            go_wp2_with fail
            go_ret
            exact ⟨by rw [Hno.out]; rfl, hq.drew.trans (hq1.mono hq.size)⟩
      · have Hyes := Lib.hid (eqL_yes (k := k) ht.out (by have := lx.out; omega) (by have := ly.out; omega))
        go_wp2
        go_ret
        exact ⟨by rw [Hyes.out]; rfl, hq⟩
  · have Hno := Lib.hid (eqL_len (xs := xs) (ys := ys) (by have := lx.out; have := ly.out; omega))
    have hf : ((n : Int) != (m : Int)) = true := by simp; omega
    go_enter Try.func42, Try.ntmps42
    go_wp2
    go_ret
    exact ⟨by rw [Hno.out]; rfl, hr⟩
set_option maxHeartbeats 1000000 in
theorem eqNet_v (v u : Value) (x y : DNet) (w : World) {B B' : Nat} (h : RdT netRd w B v x) (h' : RdT netRd w B' u y) (hB : B ≤ w.heap.size) (hB' : B' ≤ w.heap.size) :
    Calls Try.prog 15 #[v, u] w fun e w' => e = .returned (.bool (decide (x = y))) ∧ Below w.heap.size w w' := by
  obtain ⟨cs, rfl, A1, n1, c1, rfl, ⟨h1, r1⟩⟩ := h
  obtain ⟨cs, rfl, A1', n1', c1', rfl, ⟨h1', r1'⟩⟩ := h'
  have hb : ∀ o1 o2, Below w.heap.size w ((w.alloc o1).alloc o2) := fun o1 o2 => ((Below.refl _ _).alloc (Nat.le_refl _) _).alloc (by simp) _
  by_cases e0 : x.agents = y.agents
  · have f0 : eqL x.agents y.agents = true := decide_eq_true e0
    have He : Hid (decide (x = y) = true) := decide_eq_true (by cases x; cases y; simp_all)
    clear e0
    go_enter Try.func15, Try.ntmps15
    go_wp2_with fail
    refine (eqAgentS_v _ _ x.agents y.agents _ (B := B) (B' := B') ⟨A1, n1, c1, rfl, h1.below agentRd_ok ((hb _ _).mono hB), r1⟩ ⟨A1', n1', c1', rfl, h1'.below agentRd_ok ((hb _ _).mono hB'), r1'⟩ (Nat.le_trans hB (hb _ _).size) (Nat.le_trans hB' (hb _ _).size)).mono ?_
    rintro e w1 ⟨rfl, q1⟩
    have T := (hb _ _).trans (q1.mono (hb _ _).size)
    have B1 := blk2_0.below q1 (by simp <;> omega)
    have B2 := blk2_1.below q1 (by simp <;> omega)
    have z1 : w.heap.size + 1 + 1 ≤ w1.heap.size := by have := q1.size; simpa using this
    clear q1
    go_wp2_with fail
    go_ret
    exact ⟨by rw [He.out]; rfl, T⟩
  · have f0 : eqL x.agents y.agents = false := decide_eq_false e0
    have He : Hid (decide (x = y) = false) := decide_eq_false (by intro exy; exact e0 (by rw [exy]))
    clear e0
    go_enter Try.func15, Try.ntmps15
    go_wp2_with fail
    refine (eqAgentS_v _ _ x.agents y.agents _ (B := B) (B' := B') ⟨A1, n1, c1, rfl, h1.below agentRd_ok ((hb _ _).mono hB), r1⟩ ⟨A1', n1', c1', rfl, h1'.below agentRd_ok ((hb _ _).mono hB'), r1'⟩ (Nat.le_trans hB (hb _ _).size) (Nat.le_trans hB' (hb _ _).size)).mono ?_
    rintro e w1 ⟨rfl, q1⟩
    have T := (hb _ _).trans (q1.mono (hb _ _).size)
    have B1 := blk2_0.below q1 (by simp <;> omega)
    have B2 := blk2_1.below q1 (by simp <;> omega)
    have z1 : w.heap.size + 1 + 1 ≤ w1.heap.size := by have := q1.size; simpa using this
    clear q1
    go_wp2_with fail
    go_ret
    exact ⟨by rw [He.out]; rfl, T⟩
end
section
open Go.RowKit
set_option linter.unusedVariables false
set_option linter.unusedSimpArgs false
set_option maxRecDepth 100000
set_option maxHeartbeats 8000000 in
theorem walk_IsLazyNormal (w : World) (v0 : Value) (x : DNet) (R0 : RdT netRd w w.heap.size v0 x) :
    Calls Try.prog 4 #[v0] w fun e w' => e = .returned (.bool true) ∧ Below w.heap.size w w' := by
  obtain ⟨a0A0, a0n0, a0c0, rfl⟩ : ∃ a0A0 a0n0 a0c0, v0 = .agg #[.slice a0A0 a0n0 a0c0] := by obtain ⟨cs, rfl, ⟨A0, n0, c0, rfl, _⟩⟩ := R0; exact ⟨A0, n0, c0, rfl⟩
  by_cases d0 : (szNet x : Int) ≤ 1048576
  case neg =>
    have T := Below.refl w.heap.size w
    have T : Below w.heap.size w (w.alloc (.cells #[.slice a0A0 a0n0 a0c0] 24)) := T.alloc (by first | exact Nat.le_refl _ | (simp; done) | (simp; omega)) _
    have B0 : Blk (w.alloc (.cells #[.slice a0A0 a0n0 a0c0] 24)) (w.heap.size) 24 #[.slice a0A0 a0n0 a0c0] := by have := Blk.new w 24 #[.slice a0A0 a0n0 a0c0]; simpa using this
    have zb0 : (w.alloc (.cells #[.slice a0A0 a0n0 a0c0] 24)).heap.size = w.heap.size + 1 := by simp
    go_enter Try.func4, Try.ntmps4
    go_wp2_with fail
    refine (szNet_v _ x (1048576) _ (R0.below netRd_ok T) T.size (by omega) (by omega)).mono ?_
    rw [szL_neg (by omega)]
    rintro e w1 ⟨rfl, b1⟩
    have z1 := b1.size
    have B0 := B0.below b1 (by omega)
    have T := T.trans (b1.mono (by omega))
    have gB0 := B0.cell
    go_wp2_with fail
    go_ret
    exact ⟨rfl, T⟩
  have s0 : szNet x ≤ 1048576 := by omega
  have T := Below.refl w.heap.size w
  have T : Below w.heap.size w (w.alloc (.cells #[.slice a0A0 a0n0 a0c0] 24)) := T.alloc (by first | exact Nat.le_refl _ | (simp; done) | (simp; omega)) _
  have B0 : Blk (w.alloc (.cells #[.slice a0A0 a0n0 a0c0] 24)) (w.heap.size) 24 #[.slice a0A0 a0n0 a0c0] := by have := Blk.new w 24 #[.slice a0A0 a0n0 a0c0]; simpa using this
  have zb0 : (w.alloc (.cells #[.slice a0A0 a0n0 a0c0] 24)).heap.size = w.heap.size + 1 := by simp
  go_enter Try.func4, Try.ntmps4
  go_wp2_with fail
  refine (szNet_v _ x (1048576) _ (R0.below netRd_ok T) T.size (by omega) (by omega)).mono ?_
  rw [szL_pos (by omega)]
  rintro e w1 ⟨rfl, b1⟩
  have z1 := b1.size
  have B0 := B0.below b1 (by omega)
  have T := T.trans (b1.mono (by omega))
  have gB0 := B0.cell
  go_wp2_with fail
  refine (toNet_v _ x _ (R0.below netRd_ok T) T.size s0).mono ?_
  rintro e w2 ⟨⟨t1, rfl, p2⟩, b2⟩
  have z2 := b2.size
  have B0 := B0.below b2 (by omega)
  have T := T.trans (b2.mono (by omega))
  clear gB0
  have gB0 := B0.cell
  go_wp2_with fail
  refine (specIsLazyNormal_v _ x _ (p2.reads (netOw_reads (w2).heap.size) (by omega)) (Nat.le_refl _) s0).mono ?_
  rintro e w3 ⟨rfl, b3⟩
  have z3 := b3.size
  have B0 := B0.below b3 (by omega)
  have p2 := p2.below netOw_ok b3 (by omega)
  have T := T.trans (b3.mono (by omega))
  clear gB0
  have gB0 := B0.cell
  clear p2
  go_wp2_with fail
  refine (toNet_v _ x _ (R0.below netRd_ok T) T.size s0).mono ?_
  rintro e w4 ⟨⟨t4, rfl, p5⟩, b4⟩
  have z4 := b4.size
  have B0 := B0.below b4 (by omega)
  have T := T.trans (b4.mono (by omega))
  clear gB0
  have gB0 := B0.cell
  obtain ⟨l7A0, l7n0, l7c0, rfl⟩ : ∃ l7A0 l7n0 l7c0, t4 = .agg #[.slice l7A0 l7n0 l7c0] := by obtain ⟨cs, bs, rfl, ⟨A0, n0, c0, b0, rfl, _⟩, _⟩ := p5; exact ⟨A0, n0, c0, rfl⟩
  have b5 : Below w4.heap.size w4 (w4.alloc (.cells #[.slice l7A0 l7n0 l7c0] 33)) := (Below.refl _ _).alloc (Nat.le_refl _) _
  have z5 : (w4.alloc (.cells #[.slice l7A0 l7n0 l7c0] 33)).heap.size = w4.heap.size + 1 := World.size_alloc _ _
  have B0 := B0.below b5 (by omega)
  have p5 := p5.below netOw_ok b5 (by omega)
  have T := T.trans (b5.mono (by omega))
  have X6 : Blk (w4.alloc (.cells #[.slice l7A0 l7n0 l7c0] 33)) w4.heap.size 33 #[.slice l7A0 l7n0 l7c0] := Blk.new _ _ _
  clear gB0
  have gB0 := B0.cell
  have gX6 := X6.cell
  go_wp2_with fail
  refine (implIsLazyNormal_v _ x _ (p5.reads (netOw_reads ((w4.alloc (.cells #[.slice l7A0 l7n0 l7c0] 33))).heap.size) (by omega)) (Nat.le_refl _) s0).mono ?_
  rintro e w6 ⟨rfl, b6⟩
  have z6 := b6.size
  have B0 := B0.below b6 (by omega)
  have X6 := X6.below b6 (by omega)
  have p5 := p5.below netOw_ok b6 (by omega)
  have T := T.trans (b6.mono (by omega))
  clear gB0
  clear gX6
  have gB0 := B0.cell
  have gX6 := X6.cell
  go_wp2_with fail
  have T := T.drew
  have B0 := B0.drew
  have X6 := X6.drew
  have p5 := p5.keep netOw_ok (w' := w6.drew) (fun _ _ _ => rfl)
  have zd7 : w6.drew.heap.size = w6.heap.size := rfl
  go_region_held3 (fun w' => w'.cell? ⟨w4.heap.size, 0, none⟩ = some (.slice l7A0 l7n0 l7c0) ∧ w'.cell? ⟨w.heap.size, 0, none⟩ = some (.slice a0A0 a0n0 a0c0)) (exact ⟨gX6 0, gB0 0⟩) (first
    | (go_at_call 11; refine (toNet_v _ x _ (R0.below netRd_ok T) T.size s0).mono ?_; rintro e w8 ⟨⟨t9, rfl, p10⟩, b8⟩; have z8 := b8.size; have B0 := B0.below b8 (by omega); have X6 := X6.below b8 (by omega); have p5 := p5.below netOw_ok b8 (by omega); have T := T.trans (b8.mono (by omega)); clear gB0; clear gX6; have gB0 := B0.cell; have gX6 := X6.cell)
    | (go_at_call 15; refine (eqNet_v _ _ _ _ _ (p5.reads (netOw_reads (w8).heap.size) (by omega)) (p10.reads (netOw_reads (w8).heap.size) (by omega)) (Nat.le_refl _) (Nat.le_refl _)).mono ?_; rintro e w9 ⟨rfl, b9⟩; have z9 := b9.size; have B0 := B0.below b9 (by omega); have X6 := X6.below b9 (by omega); have p5 := p5.below netOw_ok b9 (by omega); have p10 := p10.below netOw_ok b9 (by omega); have T := T.trans (b9.mono (by omega)); clear gB0; clear gX6; have gB0 := B0.cell; have gX6 := X6.cell))
  go_wp2_with fail
  go_ret
  exact ⟨rfl, T⟩
end
section
open Go.RowKit Go.ChangeShapes Go.WideShapes Go.Deep Go.WideMaps
set_option linter.unusedVariables false
def Opens {α : Type} (P : Program) (t : TypeId) (R : Rd α) : Prop := ∀ (H : Type) (enc : TypeId × Value → H) (W : World) (fuel : Nat) (cs : List Value) (x : DataW H × List MemPlace),
  DataW.trod enc P W 0 (fun _ => true) true fuel t cs = some x → ∃ d, R W W.heap.size cs d
theorem opens_int {P : Program} {t : TypeId} (ht : P.underlying t = some (.int .i64)) : Opens P t intRd := fun H enc W fuel cs x h => by
  obtain ⟨n, hc, _, _⟩ := DataW.trod_int ht h
  exact ⟨n, hc⟩
theorem spot_none {w : World} {a : Addr} {v : Value} (h : w.cell? a = some v) : a.spot = none := by
  unfold World.cell? at h
  split at h
  · cases hs : a.spot with
    | none => rfl
    | some s => simp [hs] at h
  · simp at h
theorem opens_slice {α : Type} {P : Program} {t e : TypeId} {R : Rd α} {sz : Nat} (ht : P.underlying t = some (.slice e)) (hsz : P.cellsOf e = sz) (hpos : 0 < sz) (ok : RdOk R sz) (he : Opens P e R) : Opens P t (slRd R sz) := fun H enc W fuel cs x h => by
  rcases open_slice ht h with ⟨rfl, rfl⟩ | ⟨a, len, cap, m, n, D, Pl, rfl, hb, hl, hm, hmm, hx, hel⟩
  · exact ⟨[], none, 0, 0, rfl, SlAt.none_, Nat.le_refl _, Nat.zero_le _⟩
  · have hmc : len ≤ m := by rw [hmm]; simp; omega
    have hel' : ∀ i, i < len → ∃ p : List Value × α, R W W.heap.size p.1 p.2 ∧ ∀ j, j < sz → W.cell? (a.add (i * sz + j)) = p.1[j]? := fun i hi => by
      obtain ⟨cs', hc, htr⟩ := hel i (by omega)
      obtain ⟨d, hd⟩ := he H enc W n cs' (D i, Pl i) htr
      obtain ⟨_, hlen, hat⟩ := World.cells?_some hc
      exact ⟨(cs', d), hd, fun j hj => by
        have := hat j (by rw [hsz]; exact hj)
        rw [hsz, Go.Deep.add_add] at this
        exact this⟩
    rcases Nat.eq_zero_or_pos len with h0 | h0
    · subst h0
      exact ⟨[], some a, 0, cap, rfl, SlAt.none_, Nat.zero_le _, hm⟩
    · have hne : Nonempty (List Value × α) := let ⟨p, _⟩ := hel' 0 h0; ⟨p⟩
      have hf : ∃ f : Nat → List Value × α, ∀ i, i < len → R W W.heap.size (f i).1 (f i).2 ∧ ∀ j, j < sz → W.cell? (a.add (i * sz + j)) = (f i).1[j]? := by
        classical
        refine ⟨fun i => if hi : i < len then Classical.choose (hel' i hi) else Classical.choice hne, fun i hi => ?_⟩
        simp only [dif_pos hi]
        exact Classical.choose_spec (hel' i hi)
      obtain ⟨f, hf⟩ := hf
      have hc0 : ∃ v, W.cell? a = some v := by
        obtain ⟨hR, hc⟩ := hf 0 h0
        have hlR := ok.len hR
        have h1 := hc 0 hpos
        have h2 : a.add (0 * sz + 0) = a := by simp [Addr.add]
        rw [h2, List.getElem?_eq_getElem (by omega)] at h1
        exact ⟨_, h1⟩
      obtain ⟨v0, hv0⟩ := hc0
      have hsp := spot_none hv0
      have hbl := World.block_lt_of_cell? _ _ hv0
      have ea : a = ⟨a.block, a.off, none⟩ := by cases a; simp_all
      refine ⟨(List.range len).map fun i => (f i).2, some a, len, cap, rfl, ⟨by simp, fun _ => ⟨a.block, a.off, by rw [← ea], hbl, fun i x hx => ?_⟩⟩, hl, hm⟩
      have hi : i < len := by simpa using lt_of_some hx
      have hx' : (f i).2 = x := by simpa [hi] using hx
      subst hx'
      obtain ⟨hR, hc⟩ := hf i hi
      refine ⟨_, hR, fun j v hj => ?_⟩
      have hj' : j < sz := by have := lt_of_some hj; rw [ok.len hR] at this; exact this
      have h1 := hc j hj'
      rw [hj] at h1
      have e2 : a.add (i * sz + j) = ⟨a.block, a.off + i * sz + j, none⟩ := by
        rw [ea]; simp only [Addr.add_lit]; congr 1; omega
      rw [← e2]
      exact h1
/-- An argument's value as its cells. -/
theorem opens_arg {α : Type} {P : Program} {t : TypeId} {R : Rd α} (h : Opens P t R) {H : Type} {enc : TypeId × Value → H} {W : World} {v : Value} {d : DataW H} {ps : List MemPlace} (ht : DataW.Trod enc P W 0 (fun _ => true) true t v d ps) : ∃ x, R W W.heap.size v.cells.toList x := by
  obtain ⟨fuel, hf⟩ := ht
  exact h H enc W fuel _ _ hf
end
section
open Go.RowKit
theorem opens_ints : Opens Try.prog 41 (slRd intRd 1) := opens_slice Try.underlying41 (by kernel_rfl) (by decide) intRd_ok (opens_int Try.underlying2)
end
section
open Go.RowKit Go.ChangeShapes Go.WideShapes Go.Deep Go.WideMaps
set_option linter.unusedVariables false
set_option linter.unusedSimpArgs false
theorem trod_fields {P : Program} {t : TypeId} {fs : Array Field} {H : Type} {enc : TypeId × Value → H} {W : World} {fuel : Nat} {cs : List Value} {x : DataW H × List MemPlace} (ht : P.underlying t = some (.struct fs)) (h : DataW.trod enc P W 0 (fun _ => true) true fuel t cs = some x) :
    cs.length = P.cellsOf t ∧ ∃ n, ∀ (i : Nat) (f : Field), fs[i]? = some f → ∃ y, DataW.trod enc P W 0 (fun _ => true) true n f.type ((cs.drop f.offset).take (P.cellsOf f.type)) = some y := by
  obtain ⟨xs, n, _, _, hl, hlen, hf⟩ := DataW.trod_struct ht h
  refine ⟨hl, n, fun i f hi => ?_⟩
  have hlt : i < fs.size := (Array.getElem?_eq_some_iff.1 hi).1
  exact ⟨xs[i], by rw [hf i f hi]; exact List.getElem?_eq_getElem (by omega)⟩
/-- A struct argument. -/
theorem open_st {α : Type} {P : Program} {t : TypeId} {fs : Array Field} {R : Rd α} (h : Opens P t R) (ht : P.underlying t = some (.struct fs)) {r : Reach} {b0 : Nat} {H : Type} {enc : TypeId × Value → H} {W : World} {v : Value} {d : DataW H} {ps : List MemPlace}
    (hv : Value.okWide P W r b0 t v) (hd : DataW.Trod enc P W 0 (fun _ => true) true t v d ps) : ∃ x, RdT R W W.heap.size v x := by
  obtain ⟨cs, rfl, _⟩ := okWide_struct ht hv
  obtain ⟨x, hx⟩ := opens_arg h hd
  exact ⟨x, cs.toList, by simp, by simpa [Value.cells] using hx⟩
theorem len1 {α : Type} {l : List α} (h : l.length = 1) : ∃ a0, l = [a0] := by
  match l, h with
  | [a0], _ => exact ⟨a0, rfl⟩
theorem len2 {α : Type} {l : List α} (h : l.length = 2) : ∃ a0 a1, l = [a0, a1] := by
  match l, h with
  | [a0, a1], _ => exact ⟨a0, a1, rfl⟩
theorem len5 {α : Type} {l : List α} (h : l.length = 5) : ∃ a0 a1 a2 a3 a4, l = [a0, a1, a2, a3, a4] := by
  match l, h with
  | [a0, a1, a2, a3, a4], _ => exact ⟨a0, a1, a2, a3, a4, rfl⟩
theorem opens_Port : Opens Try.prog 26 portRd := fun H enc W fuel cs x h => by
  obtain ⟨hl, m, hf⟩ := trod_fields Try.underlying26 h
  replace hl : cs.length = 2 := hl.trans (by kernel_rfl)
  obtain ⟨a0, a1, rfl⟩ := len2 hl
  obtain ⟨y0, h0⟩ : ∃ y, DataW.trod enc Try.prog W 0 (fun _ => true) true m 2 (([a0, a1].drop 0).take (Try.prog.cellsOf 2)) = some y := hf 0 _ rfl
  have k0 : Try.prog.cellsOf 2 = 1 := by kernel_rfl
  rw [k0] at h0; simp only [List.drop_zero, List.drop_succ_cons, List.take_succ_cons, List.take_zero] at h0
  obtain ⟨d0, e0⟩ := opens_int Try.underlying2 H enc W _ _ _ h0
  unfold intRd at e0; simp only [List.cons.injEq, and_true] at e0
  obtain ⟨y1, h1⟩ : ∃ y, DataW.trod enc Try.prog W 0 (fun _ => true) true m 2 (([a0, a1].drop 1).take (Try.prog.cellsOf 2)) = some y := hf 1 _ rfl
  have k1 : Try.prog.cellsOf 2 = 1 := by kernel_rfl
  rw [k1] at h1; simp only [List.drop_zero, List.drop_succ_cons, List.take_succ_cons, List.take_zero] at h1
  obtain ⟨d1, e1⟩ := opens_int Try.underlying2 H enc W _ _ _ h1
  unfold intRd at e1; simp only [List.cons.injEq, and_true] at e1
  subst e0; subst e1
  exact ⟨⟨d0, d1⟩, rfl⟩
theorem opens_PortS : Opens Try.prog 88 (slRd portRd 2) := opens_slice Try.underlying88 (by kernel_rfl) (by decide) portRd_ok opens_Port
theorem opens_Agent : Opens Try.prog 90 agentRd := fun H enc W fuel cs x h => by
  obtain ⟨hl, m, hf⟩ := trod_fields Try.underlying90 h
  replace hl : cs.length = 5 := hl.trans (by kernel_rfl)
  obtain ⟨a0, a1, a2, a3, a4, rfl⟩ := len5 hl
  obtain ⟨y0, h0⟩ : ∃ y, DataW.trod enc Try.prog W 0 (fun _ => true) true m 2 (([a0, a1, a2, a3, a4].drop 0).take (Try.prog.cellsOf 2)) = some y := hf 0 _ rfl
  have k0 : Try.prog.cellsOf 2 = 1 := by kernel_rfl
  rw [k0] at h0; simp only [List.drop_zero, List.drop_succ_cons, List.take_succ_cons, List.take_zero] at h0
  obtain ⟨d0, e0⟩ := opens_int Try.underlying2 H enc W _ _ _ h0
  unfold intRd at e0; simp only [List.cons.injEq, and_true] at e0
  obtain ⟨y1, h1⟩ : ∃ y, DataW.trod enc Try.prog W 0 (fun _ => true) true m 2 (([a0, a1, a2, a3, a4].drop 1).take (Try.prog.cellsOf 2)) = some y := hf 1 _ rfl
  have k1 : Try.prog.cellsOf 2 = 1 := by kernel_rfl
  rw [k1] at h1; simp only [List.drop_zero, List.drop_succ_cons, List.take_succ_cons, List.take_zero] at h1
  obtain ⟨d1, e1⟩ := opens_int Try.underlying2 H enc W _ _ _ h1
  unfold intRd at e1; simp only [List.cons.injEq, and_true] at e1
  obtain ⟨y2, h2⟩ : ∃ y, DataW.trod enc Try.prog W 0 (fun _ => true) true m 2 (([a0, a1, a2, a3, a4].drop 2).take (Try.prog.cellsOf 2)) = some y := hf 2 _ rfl
  have k2 : Try.prog.cellsOf 2 = 1 := by kernel_rfl
  rw [k2] at h2; simp only [List.drop_zero, List.drop_succ_cons, List.take_succ_cons, List.take_zero] at h2
  obtain ⟨d2, e2⟩ := opens_int Try.underlying2 H enc W _ _ _ h2
  unfold intRd at e2; simp only [List.cons.injEq, and_true] at e2
  obtain ⟨y3, h3⟩ : ∃ y, DataW.trod enc Try.prog W 0 (fun _ => true) true m 41 (([a0, a1, a2, a3, a4].drop 3).take (Try.prog.cellsOf 41)) = some y := hf 3 _ rfl
  have k3 : Try.prog.cellsOf 41 = 1 := by kernel_rfl
  rw [k3] at h3; simp only [List.drop_zero, List.drop_succ_cons, List.take_succ_cons, List.take_zero] at h3
  obtain ⟨d3, A3, n3, c3, e3, g3, r3⟩ := opens_ints H enc W _ _ _ h3
  simp only [List.cons.injEq, and_true] at e3
  obtain ⟨y4, h4⟩ : ∃ y, DataW.trod enc Try.prog W 0 (fun _ => true) true m 88 (([a0, a1, a2, a3, a4].drop 4).take (Try.prog.cellsOf 88)) = some y := hf 4 _ rfl
  have k4 : Try.prog.cellsOf 88 = 1 := by kernel_rfl
  rw [k4] at h4; simp only [List.drop_zero, List.drop_succ_cons, List.take_succ_cons, List.take_zero] at h4
  obtain ⟨d4, A4, n4, c4, e4, g4, r4⟩ := opens_PortS H enc W _ _ _ h4
  simp only [List.cons.injEq, and_true] at e4
  subst e0; subst e1; subst e2; subst e3; subst e4
  exact ⟨⟨d0, d1, d2, d3, d4⟩, A3, n3, c3, A4, n4, c4, rfl, ⟨g3, r3⟩, ⟨g4, r4⟩⟩
theorem opens_AgentS : Opens Try.prog 22 (slRd agentRd 5) := opens_slice Try.underlying22 (by kernel_rfl) (by decide) agentRd_ok opens_Agent
theorem opens_Net : Opens Try.prog 24 netRd := fun H enc W fuel cs x h => by
  obtain ⟨hl, m, hf⟩ := trod_fields Try.underlying24 h
  replace hl : cs.length = 1 := hl.trans (by kernel_rfl)
  obtain ⟨a0, rfl⟩ := len1 hl
  obtain ⟨y0, h0⟩ : ∃ y, DataW.trod enc Try.prog W 0 (fun _ => true) true m 22 (([a0].drop 0).take (Try.prog.cellsOf 22)) = some y := hf 0 _ rfl
  have k0 : Try.prog.cellsOf 22 = 1 := by kernel_rfl
  rw [k0] at h0; simp only [List.drop_zero, List.drop_succ_cons, List.take_succ_cons, List.take_zero] at h0
  obtain ⟨d0, A0, n0, c0, e0, g0, r0⟩ := opens_AgentS H enc W _ _ _ h0
  simp only [List.cons.injEq, and_true] at e0
  subst e0
  exact ⟨⟨d0⟩, A0, n0, c0, rfl, ⟨g0, r0⟩⟩
end
section
open Go.ChangeShapes Go.WideShapes Go.ChangeAt Go.RowKit Go.WideElems
set_option linter.unusedVariables false
theorem own : ownKnob Try.prog.godebug = none := by kernel_rfl
theorem laid : laidOutB Try.prog = true := by kernel_rfl
section
variable {H : Type} {enc : TypeId × Value → H}
theorem trodAll_stays {W W' : World} {sp : Nat → Bool} (hb : Below W.heap.size W W') : ∀ (ts : List TypeId) (vs : List Value) (ds : List (DataW H)) (ps : List MemPlace),
    (∀ t ∈ ts, Try.prog.readableRec t = true ∧ t < Try.prog.types.size) → DataW.TrodAll enc Try.prog W 0 (fun _ => true) true ts vs ds ps →
    (∀ x ∈ ps, x.block < W.heap.size) → (∀ x ∈ ps, sp x.block = true) → DataW.TrodAll enc Try.prog W' 0 sp true ts vs ds ps
  | [], [], [], ps, _, h, _, _ => h
  | t :: ts, v :: vs, d :: ds, ps, hts, h, hlt, hsp => by
    obtain ⟨p, q, h1, h2, rfl⟩ := h
    have ht := hts t (by simp)
    exact ⟨p, q, Trod_stays laid ht.1 ht.2 h1 (fun x hx => hb.same (hlt x (by simp [hx]))) (fun x hx => hsp x (by simp [hx])),
      trodAll_stays hb ts vs ds q (fun t' h' => hts t' (by simp [h'])) h2 (fun x hx => hlt x (by simp [hx])) (fun x hx => hsp x (by simp [hx])), rfl⟩
  | [], _ :: _, _, _, _, h, _, _ => h.elim
  | [], [], _ :: _, _, _, h, _, _ => h.elim
  | _ :: _, [], _, _, _, h, _, _ => h.elim
  | _ :: _, _ :: _, [], _, _, h, _, _ => h.elim
theorem post_law {f : Func} {s : ChangeSpec} {W W' : World} {args : Array Value} {ds : List (DataW H)} {before : List MemPlace}
    (hv : s.vars = []) (hr1 : f.resultTypes = #[4])
    (hp0 : (f.params.toList.all fun t => Try.prog.readableRec t && decide (t < Try.prog.types.size)) = true)
    (hres : (s.fn H (ds ++ [])).results = [.lit (.bool true)]) (hargs : (s.fn H (ds ++ [])).args = ds) (hvars : (s.fn H (ds ++ [])).vars = [])
    (hW : DataW.Whole enc Try.prog f.params.toList s.vars false W args.toList ds [] before)
    (hb : Below W.heap.size W W') :
    s.post enc Try.prog f false true false false W args (.bool true) W' := by
  have hp : ∀ t ∈ f.params.toList, Try.prog.readableRec t = true ∧ t < Try.prog.types.size := fun t ht => by simpa using List.all_eq_true.1 hp0 t ht
  have hlt : ∀ p ∈ before, p.block < W.heap.size := fun p hp => hW.lt p hp
  have hold : ∀ p ∈ before, (fun b => decide (b < W.heap.size)) p.block = true := fun p hp => by simpa using hlt p hp
  have hWh := hW
  obtain ⟨p, q, hA, hV, rfl, hfz, _⟩ := hWh
  rw [hv] at hV
  obtain rfl : q = [] := hV
  rw [List.append_nil] at hlt hold
  have hA' : ∀ sp : Nat → Bool, (∀ x ∈ p, sp x.block = true) → DataW.TrodAll enc Try.prog W' 0 sp true f.params.toList args.toList ds p := fun sp hsp =>
    trodAll_stays hb _ _ _ _ hp hA hlt hsp
  rw [List.append_nil] at hW
  refine ⟨ds, [], p, [], p, [], hW, ?_, ?_, ?_, World.keptBut_mono (fun x hx => ⟨hx, ?_⟩) (hb.frame (· ∈ p)), fun h => by cases h⟩
  · rw [hres, hr1]
    exact trodAll_cons_mk (shut_bool Try.underlying4 _) trodAll_mk0
  · rw [hargs]
    exact hA' _ hold
  · rw [hvars, hv]
    rfl
  · simp [hx]
end
end
end Go.Proofs.Ytebioddcnldjkaa
