/- Lemmas of the proof of DataOf, part 5. No condition. -/
import Derived.Test.YtpbobilkejblgaaZDataOf4
namespace Go.Proofs.Ytpbobilkejblgaa
section
open Go.RowKit
set_option linter.unusedVariables false
set_option linter.unusedSimpArgs false
set_option maxRecDepth 100000
def m_spec_l06N (d0 : Int) : Option DCore :=
  some (⟨2, d0, [], []⟩ : DCore)
set_option maxHeartbeats 2000000 in
theorem c_m_spec_l06N (d0 : Int) (r : DCore) (hm : m_spec_l06N d0 = some r)  (w : World)  :
    Calls Try.prog 93 #[.int .i64 d0] w fun e w' => (∃ (v0 : Value) (v1 : Value) (bs1 : List Nat), e = .returned (.agg #[.int .i64 r.kind, .int .i64 r.value, v0, v1]) ∧ OwF 2 encI 1 w' w.heap.size v0 r.data ∧ OwN 42 coreOw 4 w' w.heap.size v1 r.kids bs1 ∧ Ap (fb v0) bs1) ∧ Below w.heap.size w w' := by
  have T := Below.refl w.heap.size w
  unfold m_spec_l06N at hm
  refine enter 5 Try.func93 rfl rfl rfl ?_
  intro f hf
  have s0 : f 0 = .int .i64 d0 := hf 0 _ rfl
  refine wp_seq ?_
  refine wp_rl rfl ?_
  refine RL.alloc (z := .agg #[.int .i64 0, .int .i64 0, .slice none 0 0, .slice none 0 0]) rfl (by kernel_rfl) (fun w1 B2 hb3 szw1 => ?_)
  replace B2 : Blk w1 w.heap.size 42 #[.int .i64 0, .int .i64 0, .slice none 0 0, .slice none 0 0] := B2
  have GB2 : w.heap.size ≤ w.heap.size := T.size
  have T := Tt T hb3
  refine RL.nil ?_
  refine then_n ?_
  refine wp_seq ?_
  refine wp_rl rfl ?_
  refine RL.y rfl (Y.move (v := .int .i64 d0) s0) ?_
  refine RL.y rfl (Y.build2 (cells := #[.int .i64 2, .int .i64 d0, .slice none 0 0, .slice none 0 0]) rfl rfl (by kernel_rfl) (by kernel_rfl)) ?_
  refine RL.store (v := .agg #[.int .i64 2, .int .i64 d0, .slice none 0 0, .slice none 0 0]) (cs' := #[.int .i64 2, .int .i64 d0, .slice none 0 0, .slice none 0 0]) rfl rfl rfl B2 (by kernel_rfl) (by rfl) (by rfl) (by rfl) (fun w5 B6 ho7 => ?_)
  have szw5 := ho7.size
  have T := T.trans (ho7.below (by first | (simp; done) | (simp; omega)))
  refine RL.nil ?_
  refine then_n ?_
  refine wp_ret ?_
  obtain rfl := Option.some.inj hm
  exact (retc (cs := [.int .i64 2, .int .i64 d0, .slice none 0 0, .slice none 0 0]) rfl rfl rfl (by kernel_rfl) (blkCells B6) ⟨⟨_, _, _, rfl, OwF.nil, OwN.nil, Ap.nil⟩, T⟩)
def m_spec_l06R (d0 : Int) : Option DCore :=
  some (⟨11, d0, [], []⟩ : DCore)
set_option maxHeartbeats 2000000 in
theorem c_m_spec_l06R (d0 : Int) (r : DCore) (hm : m_spec_l06R d0 = some r)  (w : World)  :
    Calls Try.prog 94 #[.int .i64 d0] w fun e w' => (∃ (v0 : Value) (v1 : Value) (bs1 : List Nat), e = .returned (.agg #[.int .i64 r.kind, .int .i64 r.value, v0, v1]) ∧ OwF 2 encI 1 w' w.heap.size v0 r.data ∧ OwN 42 coreOw 4 w' w.heap.size v1 r.kids bs1 ∧ Ap (fb v0) bs1) ∧ Below w.heap.size w w' := by
  have T := Below.refl w.heap.size w
  unfold m_spec_l06R at hm
  refine enter 5 Try.func94 rfl rfl rfl ?_
  intro f hf
  have s0 : f 0 = .int .i64 d0 := hf 0 _ rfl
  refine wp_seq ?_
  refine wp_rl rfl ?_
  refine RL.alloc (z := .agg #[.int .i64 0, .int .i64 0, .slice none 0 0, .slice none 0 0]) rfl (by kernel_rfl) (fun w1 B2 hb3 szw1 => ?_)
  replace B2 : Blk w1 w.heap.size 42 #[.int .i64 0, .int .i64 0, .slice none 0 0, .slice none 0 0] := B2
  have GB2 : w.heap.size ≤ w.heap.size := T.size
  have T := Tt T hb3
  refine RL.nil ?_
  refine then_n ?_
  refine wp_seq ?_
  refine wp_rl rfl ?_
  refine RL.y rfl (Y.move (v := .int .i64 d0) s0) ?_
  refine RL.y rfl (Y.build2 (cells := #[.int .i64 11, .int .i64 d0, .slice none 0 0, .slice none 0 0]) rfl rfl (by kernel_rfl) (by kernel_rfl)) ?_
  refine RL.store (v := .agg #[.int .i64 11, .int .i64 d0, .slice none 0 0, .slice none 0 0]) (cs' := #[.int .i64 11, .int .i64 d0, .slice none 0 0, .slice none 0 0]) rfl rfl rfl B2 (by kernel_rfl) (by rfl) (by rfl) (by rfl) (fun w5 B6 ho7 => ?_)
  have szw5 := ho7.size
  have T := T.trans (ho7.below (by first | (simp; done) | (simp; omega)))
  refine RL.nil ?_
  refine then_n ?_
  refine wp_ret ?_
  obtain rfl := Option.some.inj hm
  exact (retc (cs := [.int .i64 11, .int .i64 d0, .slice none 0 0, .slice none 0 0]) rfl rfl rfl (by kernel_rfl) (blkCells B6) ⟨⟨_, _, _, rfl, OwF.nil, OwN.nil, Ap.nil⟩, T⟩)
def m_spec_l17Data_A1 (x28 : DAgent) (xs50 : List DCore) (z51 : Int) (z52 : DCore) : Option (DCore × Int × Int) :=
  some ((⟨8, x28.value, [], xs50⟩ : DCore), 0, z51)
def m_spec_l17Data_B1 (d0 : DNet) (d2 : Int) (self : DNet → DPort → Int → Int → Option (DCore × Int × Int)) (y24 : DPort) (x28 : DAgent) (rec1 : List DCore → Int → Int → DCore → Option (DCore × Int × Int)) (K1 : List DCore → Int → DCore → Option (DCore × Int × Int)) (xs61 : List DCore) (i62 : Int) (z63 : Int) (z64 : DCore) : Option (DCore × Int × Int) :=
  (bif (decide (i62 < (x28.ports.length : Int))) then ((m_spec_l13Port y24.agent i62).bind fun y67 => ((ck (d2 + 1)).bind fun s71 => ((self d0 y67 s71 z63).bind fun y72 => (bif (y72.2.1 != 0) then some ((⟨0, 0, [], []⟩ : DCore), y72.2.1, y72.2.2) else ((mustP (xs61.length + ([y72.1]).length ≤ 4294967296)).bind fun _ => (rec1 (xs61 ++ [y72.1]) (i62 + 1) y72.2.2 z64)))))) else (K1 xs61 z63 z64))
def m_spec_l17Data_L1 (d0 : DNet) (d2 : Int) (self : DNet → DPort → Int → Int → Option (DCore × Int × Int)) (y24 : DPort) (x28 : DAgent) (K1 : List DCore → Int → DCore → Option (DCore × Int × Int)) : Nat → List DCore → Int → Int → DCore → Option (DCore × Int × Int)
  | 0, _, _, _, _ => none
  | g + 1, xs61, i62, z63, z64 => m_spec_l17Data_B1 d0 d2 self y24 x28 (m_spec_l17Data_L1 d0 d2 self y24 x28 K1 g) K1 xs61 i62 z63 z64
def m_spec_l17Data_R (self : DNet → DPort → Int → Int → Option (DCore × Int × Int)) (d0 : DNet) (d1 : DPort) (d2 : Int) (d3 : Int) : Option (DCore × Int × Int) :=
  ((ck (d3 + 1)).bind fun s10 => (bif (decide (d2 > 80)) then some ((⟨0, 0, [], []⟩ : DCore), 4, s10) else (bif (decide (s10 > 400)) then some ((⟨0, 0, [], []⟩ : DCore), 4, s10) else ((m_spec_l17Value d0 d1).bind fun y16 => (bif y16 then ((m_spec_l11Peer d0 d1).bind fun y24 => ((getI d0.agents y24.agent).bind fun x28 => (bif (x28.kind == 2) then some ((⟨0, 0, [], []⟩ : DCore), 5, s10) else (bif (x28.kind == 6) then ((m_spec_l06N x28.value).bind fun y158 => some (y158, 0, s10)) else (bif (x28.kind == 12) then ((m_spec_l06R x28.value).bind fun y140 => some (y140, 0, s10)) else (m_spec_l17Data_L1 d0 d2 self y24 x28 (m_spec_l17Data_A1 x28) (x28.ports.length + 1) ([] : List DCore) 1 s10 (⟨0, 0, [], []⟩ : DCore))))))) else some ((⟨0, 0, [], []⟩ : DCore), 5, s10))))))
def m_spec_l17Data : Nat → DNet → DPort → Int → Int → Option (DCore × Int × Int)
  | 0, _, _, _, _ => none
  | gas + 1, d0, d1, d2, d3 => m_spec_l17Data_R (m_spec_l17Data gas) d0 d1 d2 d3
set_option maxHeartbeats 2000000 in
theorem c_m_spec_l17Data : ∀ (gas : Nat) (d0 : DNet) (d1 : DPort) (d2 : Int) (d3 : Int) (r : DCore × Int × Int) (hm : m_spec_l17Data gas d0 d1 d2 d3 = some r) (v0 : Value) (w ws : World) (hT0 : Below w.heap.size w ws) (hv0 : Pt netRd w v0 d0) (pc3 : Nat) (hv3 : Blk ws pc3 2 #[.int .i64 d3]) (hl3 : w.heap.size ≤ pc3),
    Calls Try.prog 42 #[v0, .agg #[.int .i64 d1.agent, .int .i64 d1.slot], .int .i64 d2, .pointer (some ⟨pc3, 0, none⟩)] ws fun e w' => (∃ (v0 : Value) (v1 : Value) (bs1 : List Nat), e = .returned (.tuple #[.agg #[.int .i64 r.1.kind, .int .i64 r.1.value, v0, v1], .int .i64 r.2.1]) ∧ OwF 2 encI 1 w' ws.heap.size v0 r.1.data ∧ OwN 42 coreOw 4 w' ws.heap.size v1 r.1.kids bs1 ∧ Ap (fb v0) bs1) ∧ Blk w' pc3 2 #[.int .i64 r.2.2] ∧ KeepV (.slice (some ⟨pc3, 0, none⟩) 1 1) (.slice (some ⟨pc3, 0, none⟩) 1 1) ws w' ∧ Below w.heap.size w w' := by
  intro gas
  induction gas with
  | zero =>
    intro d0 d1 d2 d3 r hm v0 w ws hT0 hv0 pc3 hv3 hl3
    cases hm
  | succ gas ih =>
    intro d0 d1 d2 d3 r hm v0 w ws hT0 hv0 pc3 hv3 hl3
    obtain ⟨ba0, oa0, csa0, rfl, hba0, hRa0, hca0⟩ := hv0
    have hSa0 := hRa0
    obtain ⟨A1, n1, c1, rfl, ⟨h1, r1⟩⟩ := hRa0
    have e1 := h1.len; subst e1
    have q1 := len_le r1
    have T := hT0
    have LW := hT0.size
    have K := KeepV.refl (.slice (some ⟨pc3, 0, none⟩) 1 1) (.slice (some ⟨pc3, 0, none⟩) 1 1) ws
    obtain ⟨self, hself, hm⟩ : ∃ s, s = m_spec_l17Data gas ∧ m_spec_l17Data_R s d0 d1 d2 d3 = some r := ⟨_, rfl, hm⟩
    unfold m_spec_l17Data_R at hm
    refine enter 101 Try.func42 rfl rfl rfl ?_
    intro f hf
    have s0 : f 0 = .pointer (some ⟨ba0, oa0, none⟩) := hf 0 _ rfl
    have s1 : f 1 = .agg #[.int .i64 d1.agent, .int .i64 d1.slot] := hf 1 _ rfl
    have s2 : f 2 = .int .i64 d2 := hf 2 _ rfl
    have s3 : f 3 = .pointer (some ⟨pc3, 0, none⟩) := hf 3 _ rfl
    refine wp_seq ?_
    refine wp_rl rfl ?_
    refine RL.box rfl s1 (fun w2 B3 hb4 szw2 => ?_)
    replace B3 : Blk w2 ws.heap.size 81 #[.int .i64 d1.agent, .int .i64 d1.slot] := B3
    have GB3 : ws.heap.size ≤ ws.heap.size := K.size
    have KZob5 := K.size
    have Eob5_obp3 := Nat.ne_of_lt hv3.lt
    have hv3 := blkT hv3 hb4
    have K := KeepV.below K hb4
    have T := Tt T hb4
    refine RL.alloc (z := .agg #[.int .i64 0, .int .i64 0, .slice none 0 0, .slice none 0 0]) rfl (by kernel_rfl) (fun w6 B7 hb8 szw6 => ?_)
    replace B7 : Blk w6 w2.heap.size 42 #[.int .i64 0, .int .i64 0, .slice none 0 0, .slice none 0 0] := B7
    have GB7 : ws.heap.size ≤ w2.heap.size := K.size
    have KZob9 := K.size
    have Eob9_obp3 := Nat.ne_of_lt hv3.lt
    have Eob9_ob5 := Nat.ne_of_lt B3.lt
    have hv3 := blkT hv3 hb8
    have B3 := blkT B3 hb8
    have K := KeepV.below K hb8
    have T := Tt T hb8
    refine RL.y rfl (Y.assign (v := .int .i64 0) rfl) ?_
    refine RL.nil ?_
    refine then_n ?_
    refine wp_seq ?_
    refine wp_rl rfl ?_
    refine RL.y rfl (Y.move (v := .pointer (some ⟨pc3, 0, none⟩)) s3) ?_
    refine RL.y rfl (Y.nilCheck rfl) ?_
    refine RL.y rfl (Y.load (v := .int .i64 d3) rfl (by kernel_rfl) (eqC (blkCell hv3 (i := 0) rfl))) ?_
    obtain ⟨s10, ks10, hm⟩ := bnd hm
    replace ks10 := ck_some ks10
    refine RL.y rfl (Y.binI (v := .int .i64 s10) rfl rfl (by rw [binI_add ks10.2, ks10.1])) ?_
    refine RL.y rfl (Y.nilCheck rfl) ?_
    refine RL.store (v := .int .i64 s10) (cs' := #[.int .i64 s10]) rfl rfl rfl hv3 (by kernel_rfl) (by rfl) (by rfl) (by rfl) (fun w11 B12 ho13 => ?_)
    have szw11 := ho13.size
    have B3 := B3.only_ ho13 (by intro hin; simp at hin; exact Eob5_obp3.symm hin)
    have B7 := B7.only_ ho13 (by intro hin; simp at hin; exact Eob9_obp3.symm hin)
    have K := KeepV.only1 K ho13 rfl
    have T := T.trans (ho13.below (by first | (simp; done) | (simp; omega)))
    refine RL.nil ?_
    refine then_n ?_
    refine wp_seq ?_
    refine wp_seq ?_
    refine wp_rs rfl ?_
    refine RQ.y rfl (Y.move (v := .int .i64 d2) s2) ?_
    refine RQ.y rfl (Y.binI (v := .bool (decide (d2 > 80))) rfl rfl rfl) ?_
    refine RQ.y rfl (Y.move (v := .bool (decide (d2 > 80))) rfl) ?_
    rcases bcases (decide (d2 > 80)) with c14 | c14
    · replace hm := cF c14 hm
      have pc14 := of_decide_eq_false c14
      refine RQ.y (wantT (dj := 23) rfl (vb rfl c14)) (Y.move (v := .pointer (some ⟨pc3, 0, none⟩)) s3) ?_
      refine RQ.y (wantT (dj := 23) rfl (vb rfl c14)) (Y.nilCheck rfl) ?_
      refine RQ.y (wantT (dj := 23) rfl (vb rfl c14)) (Y.load (v := .int .i64 s10) rfl (by kernel_rfl) (eqC (blkCell B12 (i := 0) rfl))) ?_
      refine RQ.y (wantT (dj := 23) rfl (vb rfl c14)) (Y.binI (v := .bool (decide (s10 > 400))) rfl rfl rfl) ?_
      refine RQ.y rfl (Y.pick (b := false) (v := .bool (decide (s10 > 400))) (vb rfl c14) rfl) ?_
      refine RQ.nil ?_
      refine then_n ?_
      rcases bcases (decide (s10 > 400)) with c15 | c15
      · replace hm := cF c15 hm
        have pc15 := of_decide_eq_false c15
        refine cond_f rfl (vb rfl c15) ?_
        refine wp_skip ?_
        refine then_n ?_
        refine wp_seq ?_
        refine wp_seq ?_
        refine wp_rb rfl ?_
        refine RQ.y rfl (Y.move (v := .pointer (some ⟨ba0, oa0, none⟩)) s0) ?_
        refine RQ.y rfl (Y.loadN (cs := [.int .i64 d1.agent, .int .i64 d1.slot]) rfl (by kernel_rfl) (cells2 (beC (blkCell B3 (i := 0) rfl)) (beC (blkCell B3 (i := 1) rfl)))) ?_
        obtain ⟨y16, e17, hm⟩ := bnd hm
        refine RQ.call rfl (am2 rfl rfl) (by kernel_rfl) (v := .bool y16) (bel (K := fun _ => True) fun w' hb' => (c_m_spec_l17Value d0 d1 _ e17 _ w' (ptArg netRd_ok hba0 hSa0 hca0 (Tt T hb')))) ?_
        refine RQ.y rfl (Y.not (b' := (!y16)) rfl rfl) ?_
        refine RQ.nil ?_
        intro w18 hb19
        have szw18 := hb19.size
        have B12 := blkT B12 hb19
        have B3 := blkT B3 hb19
        have B7 := blkT B7 hb19
        have K := KeepV.below K hb19
        have T := Tt T hb19
        refine then_n ?_
        rcases bcases y16 with c20 | c20
        · replace hm := cF c20 hm
          refine cond_t rfl (vbn rfl c20 rfl) ?_
          refine wp_seq ?_
          refine wp_rl rfl ?_
          refine RL.y rfl (Y.build0 (cells := #[.int .i64 0, .int .i64 0, .slice none 0 0, .slice none 0 0])  (by kernel_rfl) (by kernel_rfl)) ?_
          refine RL.store (v := .agg #[.int .i64 0, .int .i64 0, .slice none 0 0, .slice none 0 0]) (cs' := #[.int .i64 0, .int .i64 0, .slice none 0 0, .slice none 0 0]) rfl rfl rfl B7 (by kernel_rfl) (by rfl) (by rfl) (by rfl) (fun w21 B22 ho23 => ?_)
          have szw21 := ho23.size
          have B12 := B12.only_ ho23 (by intro hin; simp at hin; exact Eob9_obp3 hin)
          have B3 := B3.only_ ho23 (by intro hin; simp at hin; exact Eob9_ob5 hin)
          have K := KeepV.far K ho23 KZob9
          have T := T.trans (ho23.below (by first | (simp; done) | (simp; omega)))
          refine RL.y rfl (Y.assign (v := .int .i64 5) rfl) ?_
          refine RL.nil ?_
          refine then_n ?_
          refine wp_ret ?_
          obtain rfl := Option.some.inj hm
          exact (then_r (retct (cs := [.int .i64 0, .int .i64 0, .slice none 0 0, .slice none 0 0]) rfl rfl rfl rfl (by kernel_rfl) (blkCells B22) ⟨⟨_, _, _, rfl, OwF.nil, OwN.nil, Ap.nil⟩, B12, K, T⟩))
        · replace hm := cT c20 hm
          refine cond_f rfl (vbn rfl c20 rfl) ?_
          refine wp_skip ?_
          refine then_n ?_
          refine wp_seq ?_
          refine wp_rb rfl ?_
          refine RQ.y rfl (Y.move (v := .pointer (some ⟨ba0, oa0, none⟩)) s0) ?_
          refine RQ.y rfl (Y.loadN (cs := [.int .i64 d1.agent, .int .i64 d1.slot]) rfl (by kernel_rfl) (cells2 (beC (blkCell B3 (i := 0) rfl)) (beC (blkCell B3 (i := 1) rfl)))) ?_
          obtain ⟨y24, e25, hm⟩ := bnd hm
          refine RQ.call rfl (am2 rfl rfl) (by kernel_rfl) (v := .agg #[.int .i64 y24.agent, .int .i64 y24.slot]) (bel (K := fun _ => True) fun w' hb' => (c_m_spec_l11Peer d0 d1 _ e25 _ w' (ptArg netRd_ok hba0 hSa0 hca0 (Tt T hb')))) ?_
          refine RQ.y rfl (Y.field (i := 0) (v := .int .i64 y24.agent) rfl (by kernel_rfl)) ?_
          refine RQ.y rfl (Y.assign (v := .int .i64 y24.agent) rfl) ?_
          refine RQ.nil ?_
          intro w26 hb27
          have szw26 := hb27.size
          have B12 := blkT B12 hb27
          have B7 := blkT B7 hb27
          have K := KeepV.below K hb27
          have T := Tt T hb27
          refine then_n ?_
          refine wp_seq ?_
          refine wp_rs rfl ?_
          refine RQ.y rfl (Y.move (v := .pointer (some ⟨ba0, oa0, none⟩)) s0) ?_
          refine RQ.y rfl (Y.nilCheck rfl) ?_
          refine RQ.y rfl (Y.fieldAddr (off := 0) rfl (by kernel_rfl)) ?_
          refine RQ.y rfl (Y.load (v := .slice A1 d0.agents.length c1) rfl (by kernel_rfl) (eqC (cellT T (hca0 0 _ rfl)))) ?_
          refine RQ.y rfl (Y.move (v := .int .i64 y24.agent) rfl) ?_
          obtain ⟨x28, hx31, hm⟩ := bnd hm
          obtain ⟨k29, hk32, hl33, hx31⟩ := getI_some hx31
          obtain ⟨b35, o36, rfl, hbb35⟩ := h1.addr (by omega)
          obtain ⟨cs30, hRcs30, hc34⟩ := h1.el hx31
          have hScs30 := hRcs30
          obtain ⟨A37, n37, c37, A38, n38, c38, rfl, ⟨h37, r37⟩, ⟨h38, r38⟩⟩ := hRcs30
          have e37 := h37.len; subst e37
          have q37 := len_le r37
          have e38 := h38.len; subst e38
          have q38 := len_le r38
          refine RQ.y rfl (Y.indexAddr (m := k29) (sz := 5) rfl rfl hk32 hl33 (by kernel_rfl)) ?_
          refine RQ.y rfl (Y.assign (v := .pointer (some ⟨b35, o36 + k29 * 5, none⟩)) rfl) ?_
          refine RQ.nil ?_
          refine then_n ?_
          refine wp_seq ?_
          refine wp_seq ?_
          refine wp_rs rfl ?_
          refine RQ.y rfl (Y.move (v := .pointer (some ⟨b35, o36 + k29 * 5, none⟩)) rfl) ?_
          refine RQ.y rfl (Y.nilCheck rfl) ?_
          refine RQ.y rfl (Y.fieldAddr (off := 0) rfl (by kernel_rfl)) ?_
          refine RQ.y rfl (Y.load (v := .int .i64 x28.kind) rfl (by kernel_rfl) (eqC (cellT T (hc34 0 _ rfl)))) ?_
          refine RQ.nil ?_
          refine then_n ?_
          refine wp_block ?_
          refine wp_seq ?_
          refine wp_rs rfl ?_
          refine RQ.y rfl (Y.binI (v := .bool (x28.kind == 2)) rfl rfl rfl) ?_
          refine RQ.y rfl (Y.assign (v := .bool (x28.kind == 2)) rfl) ?_
          refine RQ.nil ?_
          refine then_n ?_
          rcases bcases (x28.kind == 2) with c39 | c39
          · replace hm := cF c39 hm
            refine cond_f rfl (vb rfl c39) ?_
            refine wp_seq ?_
            refine wp_rs rfl ?_
            refine RQ.y rfl (Y.binI (v := .bool (x28.kind == 6)) rfl rfl rfl) ?_
            refine RQ.y rfl (Y.assign (v := .bool (x28.kind == 6)) rfl) ?_
            refine RQ.nil ?_
            refine then_n ?_
            rcases bcases (x28.kind == 6) with c40 | c40
            · replace hm := cF c40 hm
              refine cond_f rfl (vb rfl c40) ?_
              refine wp_seq ?_
              refine wp_rs rfl ?_
              refine RQ.y rfl (Y.binI (v := .bool (x28.kind == 12)) rfl rfl rfl) ?_
              refine RQ.y rfl (Y.assign (v := .bool (x28.kind == 12)) rfl) ?_
              refine RQ.nil ?_
              refine then_n ?_
              rcases bcases (x28.kind == 12) with c41 | c41
              · replace hm := cF c41 hm
                refine cond_f rfl (vb rfl c41) ?_
                refine wp_skip ?_
                refine blk_n (then_n ?_)
                refine wp_seq ?_
                refine wp_rl rfl ?_
                refine RL.bslice (e := 42) (cells := #[]) rfl pm0 (by kernel_rfl) (fun w42 B43 hb44 szw42 => ?_)
                have ZB43 : ws.heap.size ≤ w26.heap.size := K.size
                have z46 := Ap.cons (Ap.farL (one_hi B12.lt)) Ap.nil
                have z47 := Ap.cons (Ap.farL (one_hi B7.lt)) Ap.nil
                have B12 := blkT B12 hb44
                have B7 := blkT B7 hb44
                have K := KeepV.below K hb44
                have T := Tt T hb44
                have G48 : OwN 42 coreOw 4 w42 ws.heap.size (.slice (some ⟨w26.heap.size, 0, none⟩) 0 0) ([] : List DCore) [w26.heap.size] := OwN.lit0 B43 ZB43 rfl
                refine RL.y rfl (Y.assign (v := .slice (some ⟨w26.heap.size, 0, none⟩) 0 0) rfl) ?_
                refine RL.nil ?_
                refine then_n ?_
                refine wp_seq ?_
                refine wp_seq ?_
                refine wp_rs rfl ?_
                refine RQ.y rfl (Y.assign (v := .int .i64 1) rfl) ?_
                refine RQ.nil ?_
                refine then_n ?_
                refine wp_block ?_
                obtain ⟨K1, hK1, hm⟩ : ∃ K, K = (m_spec_l17Data_A1 x28) ∧ m_spec_l17Data_L1 d0 d2 self y24 x28 K (x28.ports.length + 1) ([] : List DCore) 1 s10 (⟨0, 0, [], []⟩ : DCore) = some r := ⟨_, rfl, hm⟩
                refine wp_loopX (fun g f w' => ∃ (xs61 : List DCore) (i62 : Int) (z63 : Int) (z64 : DCore) (uxs61 : Value) (bsxs61 : List Nat) (uz64_0 : Value) (uz64_1 : Value) (bsz64_1 : List Nat), f 0 = .pointer (some ⟨ba0, oa0, none⟩) ∧ f 2 = .int .i64 d2 ∧ f 3 = .pointer (some ⟨pc3, 0, none⟩) ∧ f 8 = .pointer (some ⟨w2.heap.size, 0, none⟩) ∧ f 10 = .int .i64 y24.agent ∧ f 11 = .pointer (some ⟨b35, o36 + k29 * 5, none⟩) ∧ f 12 = uxs61 ∧ OwN 42 coreOw 4 w' ws.heap.size uxs61 xs61 bsxs61 ∧ f 13 = .int .i64 i62 ∧ 0 ≤ i62 ∧ Blk w' pc3 2 #[.int .i64 z63] ∧ Blk w' w2.heap.size 42 #[.int .i64 z64.kind, .int .i64 z64.value, uz64_0, uz64_1] ∧ OwF 2 encI 1 w' ws.heap.size uz64_0 z64.data ∧ OwN 42 coreOw 4 w' ws.heap.size uz64_1 z64.kids bsz64_1 ∧ Ap bsxs61 [pc3] ∧ Ap bsxs61 [w2.heap.size] ∧ Ap (fb uz64_0) bsxs61 ∧ Value.ownBlock uz64_0 ≠ some pc3 ∧ Value.ownBlock uz64_0 ≠ some w2.heap.size ∧ Ap bsz64_1 bsxs61 ∧ Ap bsz64_1 (fb uz64_0) ∧ Ap bsz64_1 [pc3] ∧ Ap bsz64_1 [w2.heap.size] ∧ KeepV (.slice (some ⟨pc3, 0, none⟩) 1 1) (.slice (some ⟨pc3, 0, none⟩) 1 1) ws w' ∧ Below w.heap.size w w' ∧ m_spec_l17Data_L1 d0 d2 self y24 x28 K1 g xs61 i62 z63 z64 = some r) 1 (fun f w' => ∃ (xs50 : List DCore) (z51 : Int) (z52 : DCore) (uxs50 : Value) (bsxs50 : List Nat) (uz52_0 : Value) (uz52_1 : Value) (bsz52_1 : List Nat), f 3 = .pointer (some ⟨pc3, 0, none⟩) ∧ f 8 = .pointer (some ⟨w2.heap.size, 0, none⟩) ∧ f 11 = .pointer (some ⟨b35, o36 + k29 * 5, none⟩) ∧ f 12 = uxs50 ∧ OwN 42 coreOw 4 w' ws.heap.size uxs50 xs50 bsxs50 ∧ Blk w' pc3 2 #[.int .i64 z51] ∧ Blk w' w2.heap.size 42 #[.int .i64 z52.kind, .int .i64 z52.value, uz52_0, uz52_1] ∧ OwF 2 encI 1 w' ws.heap.size uz52_0 z52.data ∧ OwN 42 coreOw 4 w' ws.heap.size uz52_1 z52.kids bsz52_1 ∧ Ap bsxs50 [pc3] ∧ Ap bsxs50 [w2.heap.size] ∧ Ap (fb uz52_0) bsxs50 ∧ Value.ownBlock uz52_0 ≠ some pc3 ∧ Value.ownBlock uz52_0 ≠ some w2.heap.size ∧ Ap bsz52_1 bsxs50 ∧ Ap bsz52_1 (fb uz52_0) ∧ Ap bsz52_1 [pc3] ∧ Ap bsz52_1 [w2.heap.size] ∧ KeepV (.slice (some ⟨pc3, 0, none⟩) 1 1) (.slice (some ⟨pc3, 0, none⟩) 1 1) ws w' ∧ Below w.heap.size w w' ∧ m_spec_l17Data_A1 x28 xs50 z51 z52 = some r) (x28.ports.length + 1) ⟨([] : List DCore), 1, s10, (⟨0, 0, [], []⟩ : DCore), (.slice (some ⟨w26.heap.size, 0, none⟩) 0 0), ([w26.heap.size]), (.slice none 0 0), (.slice none 0 0), [], s0, s2, s3, rfl, rfl, rfl, rfl, G48, rfl, (by omega), B12, B7, OwF.nil, OwN.nil, z46, z47, Ap.nil, nilNe (b := pc3), nilNe (b := w2.heap.size), Ap.nil, Ap.nil, Ap.nil, Ap.nil, K, T, hm⟩ ?_ ?_
                · rintro f w53 ⟨xs50, z51, z52, uxs50, bsxs50, uz52_0, uz52_1, bsz52_1, s3_1x, s8_1x, s11_1x, s12_1x, Guxs50, Bz51, Bz52, Guz52_0, Guz52_1, Noxs50_obp3, Noxs50_ob9, Doz52_0_oxs50, Noz52_0_obp3, Noz52_0_ob9, Doz52_1_oxs50, Doz52_1_oz52_0, Noz52_1_obp3, Noz52_1_ob9, K, T, hm⟩
                  unfold m_spec_l17Data_A1 at hm
                  refine blk_hit (then_n ?_)
                  refine wp_seq ?_
                  refine wp_rl rfl ?_
                  refine RL.y rfl (Y.move (v := .pointer (some ⟨b35, o36 + k29 * 5, none⟩)) s11_1x) ?_
                  refine RL.y rfl (Y.nilCheck rfl) ?_
                  refine RL.y rfl (Y.fieldAddr (off := 2) rfl (by kernel_rfl)) ?_
                  refine RL.y rfl (Y.load (v := .int .i64 x28.value) rfl (by kernel_rfl) (eqC (cellT T (hc34 2 _ rfl)))) ?_
                  refine RL.y rfl (Y.move (v := uxs50) s12_1x) ?_
                  obtain ⟨A54, c55, rfl⟩ := OwN.form Guxs50
                  have qbA54 := OwN.bound Guxs50
                  refine RL.call rfl (am3 rfl rfl rfl) (by kernel_rfl) (c_l06C.mono ?_)
                  rintro _ w56 ⟨rfl, hb57⟩
                  refine ⟨_, rfl, ?_⟩
                  have szw56 := hb57.size
                  have Bz51 := blkT Bz51 hb57
                  have Bz52 := blkT Bz52 hb57
                  have Guxs50 := OwN.below coreOw_ok Guxs50 hb57
                  have Guz52_0 := OwF.below Guz52_0 hb57
                  have Guz52_1 := OwN.below coreOw_ok Guz52_1 hb57
                  have K := KeepV.below K hb57
                  have T := Tt T hb57
                  refine RL.store (v := .agg #[.int .i64 8, .int .i64 x28.value, .slice none 0 0, .slice A54 xs50.length c55]) (cs' := #[.int .i64 8, .int .i64 x28.value, .slice none 0 0, .slice A54 xs50.length c55]) rfl s8_1x rfl Bz52 (by kernel_rfl) (by rfl) (by rfl) (by rfl) (fun w58 B59 ho60 => ?_)
                  have szw58 := ho60.size
                  have Bz51 := Bz51.only_ ho60 (by intro hin; simp at hin; exact Eob9_obp3 hin)
                  have Guxs50 := OwN.only coreOw_ok Guxs50 ho60 (Ap.one Noxs50_ob9)
                  have Guz52_0 := OwF.only Guz52_0 ho60 Noz52_0_ob9
                  have Guz52_1 := OwN.only coreOw_ok Guz52_1 ho60 (Ap.one Noz52_1_ob9)
                  have K := KeepV.far K ho60 KZob9
                  have T := T.trans (ho60.below (by first | (simp; done) | (simp; omega)))
                  refine RL.y rfl (Y.assign (v := .int .i64 0) rfl) ?_
                  refine RL.nil ?_
                  refine then_n ?_
                  refine wp_ret ?_
                  obtain rfl := Option.some.inj hm
                  exact (retct (cs := [.int .i64 8, .int .i64 x28.value, .slice none 0 0, .slice A54 xs50.length c55]) rfl rfl s8_1x rfl (by kernel_rfl) (blkCells B59) ⟨⟨_, _, _, rfl, OwF.nil, Guxs50, Ap.nil⟩, Bz51, K, T⟩)
                · rintro g f w65 ⟨xs61, i62, z63, z64, uxs61, bsxs61, uz64_0, uz64_1, bsz64_1, s0_1, s2_1, s3_1, s8_1, s10_1, s11_1, s12_1, Guxs61, s13_1, nn13_1, Bz63, Bz64, Guz64_0, Guz64_1, Noxs61_obp3, Noxs61_ob9, Doz64_0_oxs61, Noz64_0_obp3, Noz64_0_ob9, Doz64_1_oxs61, Doz64_1_oz64_0, Noz64_1_obp3, Noz64_1_ob9, K, T, hm⟩
                  rcases g with _ | g
                  · simp only [m_spec_l17Data_L1] at hm; cases hm
                  obtain ⟨rec1, hrec1, hm⟩ : ∃ z, z = m_spec_l17Data_L1 d0 d2 self y24 x28 K1 g ∧ m_spec_l17Data_B1 d0 d2 self y24 x28 z K1 xs61 i62 z63 z64 = some r := ⟨_, rfl, hm⟩
                  unfold m_spec_l17Data_B1 at hm
                  refine wp_seq ?_
                  refine wp_seq ?_
                  refine wp_rs rfl ?_
                  refine RQ.y rfl (Y.move (v := .int .i64 i62) s13_1) ?_
                  refine RQ.y rfl (Y.move (v := .pointer (some ⟨b35, o36 + k29 * 5, none⟩)) s11_1) ?_
                  refine RQ.y rfl (Y.nilCheck rfl) ?_
                  refine RQ.y rfl (Y.fieldAddr (off := 4) rfl (by kernel_rfl)) ?_
                  refine RQ.y rfl (Y.load (v := .slice A38 x28.ports.length c38) rfl (by kernel_rfl) (eqC (cellT T (hc34 4 _ rfl)))) ?_
                  refine RQ.y rfl (Y.len (by kernel_rfl) rfl) ?_
                  refine RQ.y rfl (Y.binI (v := .bool (decide (i62 < (x28.ports.length : Int)))) rfl rfl rfl) ?_
                  refine RQ.nil ?_
                  refine then_n ?_
                  rcases bcases (decide (i62 < (x28.ports.length : Int))) with c66 | c66
                  · replace hm := cF c66 hm
                    have pc66 := of_decide_eq_false c66
                    refine cond_f rfl (vb rfl c66) ?_
                    refine wp_exit ?_
                    exact (then_x (then_x (hit_x ⟨_, rfl, ⟨xs61, z63, z64, (uxs61), bsxs61, (uz64_0), (uz64_1), bsz64_1, s3_1, s8_1, s11_1, s12_1, Guxs61, Bz63, Bz64, Guz64_0, Guz64_1, Noxs61_obp3, Noxs61_ob9, Doz64_0_oxs61, (ap_ne (ne_ap Noz64_0_obp3)), (ap_ne (ne_ap Noz64_0_ob9)), Doz64_1_oxs61, Doz64_1_oz64_0, Noz64_1_obp3, Noz64_1_ob9, K, T, (by rw [hK1] at hm; exact hm)⟩⟩)))
                  · replace hm := cT c66 hm
                    have pc66 := of_decide_eq_true c66
                    refine cond_t rfl (vb rfl c66) ?_
                    refine wp_skip ?_
                    refine then_n ?_
                    refine wp_seq ?_
                    refine wp_block ?_
                    refine wp_seq ?_
                    refine wp_rl rfl ?_
                    refine RL.y rfl (Y.move (v := .pointer (some ⟨ba0, oa0, none⟩)) s0_1) ?_
                    refine RL.y rfl (Y.move (v := .int .i64 y24.agent) s10_1) ?_
                    refine RL.y rfl (Y.move (v := .int .i64 i62) s13_1) ?_
                    obtain ⟨y67, e68, hm⟩ := bnd hm
                    refine RL.call rfl (am2 rfl rfl) (by kernel_rfl) ((c_m_spec_l13Port y24.agent i62 _ e68  _ ).mono ?_)
                    rintro _ w69 ⟨rfl, hb70⟩
                    refine ⟨_, rfl, ?_⟩
                    have szw69 := hb70.size
                    have Bz63 := blkT Bz63 hb70
                    have Bz64 := blkT Bz64 hb70
                    have Guxs61 := OwN.below coreOw_ok Guxs61 hb70
                    have Guz64_0 := OwF.below Guz64_0 hb70
                    have Guz64_1 := OwN.below coreOw_ok Guz64_1 hb70
                    have K := KeepV.below K hb70
                    have T := Tt T hb70
                    refine RL.y rfl (Y.move (v := .int .i64 d2) s2_1) ?_
                    obtain ⟨s71, ks71, hm⟩ := bnd hm
                    replace ks71 := ck_some ks71
                    refine RL.y rfl (Y.binI (v := .int .i64 s71) rfl rfl (by rw [binI_add ks71.2, ks71.1])) ?_
                    refine RL.y rfl (Y.move (v := .pointer (some ⟨pc3, 0, none⟩)) s3_1) ?_
                    obtain ⟨y72, e73, hm⟩ := bnd hm
                    refine RL.call rfl (am4 rfl rfl rfl rfl) (by kernel_rfl) ((ih d0 y67 s71 z63 _ (by rw [← hself]; exact e73) _ w w69 T (ptArg netRd_ok hba0 hSa0 hca0 (Below.refl _ _)) _ Bz63 hl3).mono ?_)
                    rintro _ w81 ⟨⟨v74, v77, bs80, rfl, G75, G78, Ro76_o79⟩, B84, K82, hb83⟩
                    refine ⟨_, rfl, ?_⟩
                    have szw81 := K82.size
                    have T0w81 := K.size
                    have Zo76_obp3 := ap_ne (Ap.new (OwF.flo G75) (one_hi Bz63.lt))
                    have Zo76_ob9 := ap_ne (Ap.new (OwF.flo G75) (one_hi Bz64.lt))
                    have Zo76_oxs61 : Ap (fb v74) bsxs61 := (Ap.new (OwF.flo G75) (OwN.hi Guxs61))
                    have Zo76_oz64_0 := Ap.dj (Ap.new (OwF.flo G75) (OwF.fhi Guz64_0))
                    have Zo76_oz64_1 : Ap (fb v74) bsz64_1 := (Ap.new (OwF.flo G75) (OwN.hi Guz64_1))
                    have Zo79_obp3 : Ap bs80 [pc3] := (Ap.new (OwN.lo_ G78) (one_hi Bz63.lt))
                    have Zo79_ob9 : Ap bs80 [w2.heap.size] := (Ap.new (OwN.lo_ G78) (one_hi Bz64.lt))
                    have Zo79_oxs61 : Ap bs80 bsxs61 := (Ap.new (OwN.lo_ G78) (OwN.hi Guxs61))
                    have Zo79_oz64_0 : Ap bs80 (fb uz64_0) := (Ap.new (OwN.lo_ G78) (OwF.fhi Guz64_0))
                    have Zo79_oz64_1 : Ap bs80 bsz64_1 := (Ap.new (OwN.lo_ G78) (OwN.hi Guz64_1))
                    have Bz64 := Blk.keepV Bz64 K82 (cellNe Eob9_obp3.symm) (cellNe Eob9_obp3.symm)
                    have Guxs61 := OwN.keepV coreOw_ok Guxs61 K82 Noxs61_obp3 Noxs61_obp3
                    have Guz64_0 := OwF.keepV Guz64_0 K82 (cellDj Noz64_0_obp3) (cellDj Noz64_0_obp3)
                    have Guz64_1 := OwN.keepV coreOw_ok Guz64_1 K82 Noz64_1_obp3 Noz64_1_obp3
                    have T := hb83
                    have K := KeepV.tr K K82
                    replace G75 := OwF.mono G75 T0w81
                    replace G78 := OwN.mono G78 T0w81
                    refine RL.y rfl (Y.move (v := .tuple #[.agg #[.int .i64 y72.1.kind, .int .i64 y72.1.value, v74, v77], .int .i64 y72.2.1]) rfl) ?_
                    refine RL.y rfl (Y.extract (i := 0) rfl rfl) ?_
                    refine RL.y rfl (Y.extract (i := 1) rfl rfl) ?_
                    refine RL.alloc (z := .agg #[.int .i64 0, .int .i64 0, .slice none 0 0, .slice none 0 0]) rfl (by kernel_rfl) (fun w85 B86 hb87 szw85 => ?_)
                    replace B86 : Blk w85 w81.heap.size 42 #[.int .i64 0, .int .i64 0, .slice none 0 0, .slice none 0 0] := B86
                    have GB86 : ws.heap.size ≤ w81.heap.size := K.size
                    have KZob88 := K.size
                    have Eob88_obp3 := Nat.ne_of_lt B84.lt
                    have Eob88_ob9 := Nat.ne_of_lt Bz64.lt
                    have Noxs61_ob88 := Ap.far (OwN.hi Guxs61)
                    have Noz64_0_ob88 := OwF.far Guz64_0 (Nat.le_refl _)
                    have Noz64_1_ob88 := Ap.far (OwN.hi Guz64_1)
                    have No76_ob88 := OwF.far G75 (Nat.le_refl _)
                    have No79_ob88 := Ap.far (OwN.hi G78)
                    have B84 := blkT B84 hb87
                    have Bz64 := blkT Bz64 hb87
                    have Guxs61 := OwN.below coreOw_ok Guxs61 hb87
                    have Guz64_0 := OwF.below Guz64_0 hb87
                    have Guz64_1 := OwN.below coreOw_ok Guz64_1 hb87
                    have G75 := OwF.below G75 hb87
                    have G78 := OwN.below coreOw_ok G78 hb87
                    have K := KeepV.below K hb87
                    have T := Tt T hb87
                    obtain ⟨A89, c90, rfl⟩ := OwF.form G75
                    have qbA89 := OwF.bound G75
                    obtain ⟨A91, c92, rfl⟩ := OwN.form G78
                    have qbA91 := OwN.bound G78
                    refine RL.store (v := .agg #[.int .i64 y72.1.kind, .int .i64 y72.1.value, .slice A89 y72.1.data.length c90, .slice A91 y72.1.kids.length c92]) (cs' := #[.int .i64 y72.1.kind, .int .i64 y72.1.value, .slice A89 y72.1.data.length c90, .slice A91 y72.1.kids.length c92]) rfl rfl rfl B86 (by kernel_rfl) (by rfl) (by rfl) (by rfl) (fun w93 B94 ho95 => ?_)
                    have szw93 := ho95.size
                    have B84 := B84.only_ ho95 (by intro hin; simp at hin; exact Eob88_obp3 hin)
                    have Bz64 := Bz64.only_ ho95 (by intro hin; simp at hin; exact Eob88_ob9 hin)
                    have Guxs61 := OwN.only coreOw_ok Guxs61 ho95 (Ap.one Noxs61_ob88)
                    have Guz64_0 := OwF.only Guz64_0 ho95 Noz64_0_ob88
                    have Guz64_1 := OwN.only coreOw_ok Guz64_1 ho95 (Ap.one Noz64_1_ob88)
                    have G75 := OwF.only G75 ho95 No76_ob88
                    have G78 := OwN.only coreOw_ok G78 ho95 (Ap.one No79_ob88)
                    have K := KeepV.far K ho95 KZob88
                    have T := T.trans (ho95.below (by first | (simp; done) | (simp; omega)))
                    refine RL.y rfl (Y.assign (v := .int .i64 y72.2.1) rfl) ?_
                    refine RL.nil ?_
                    refine then_n ?_
                    refine wp_seq ?_
                    refine wp_seq ?_
                    refine wp_rs rfl ?_
                    refine RQ.y rfl (Y.move (v := .int .i64 y72.2.1) rfl) ?_
                    refine RQ.y rfl (Y.binI (v := .bool (y72.2.1 != 0)) rfl rfl rfl) ?_
                    refine RQ.nil ?_
                    refine then_n ?_
                    rcases bcases (y72.2.1 != 0) with c96 | c96
                    · replace hm := cF c96 hm
                      refine cond_f rfl (vb rfl c96) ?_
                      refine wp_skip ?_
                      refine then_n ?_
                      refine wp_rl rfl ?_
                      refine RL.y rfl (Y.move (v := uxs61) s12_1) ?_
                      refine RL.y rfl (Y.loadN (cs := [.int .i64 y72.1.kind, .int .i64 y72.1.value, .slice A89 y72.1.data.length c90, .slice A91 y72.1.kids.length c92]) rfl (by kernel_rfl) (cells4 (eqC (blkCell B94 (i := 0) rfl)) (eqC (blkCell B94 (i := 1) rfl)) (eqC (blkCell B94 (i := 2) rfl)) (eqC (blkCell B94 (i := 3) rfl)))) ?_
                      refine RL.bslice (e := 42) (cells := #[.int .i64 y72.1.kind, .int .i64 y72.1.value, .slice A89 y72.1.data.length c90, .slice A91 y72.1.kids.length c92]) rfl (pm1 rfl) (by kernel_rfl) (fun w97 B98 hb99 szw97 => ?_)
                      have ZB98 : ws.heap.size ≤ w93.heap.size := K.size
                      have q101 := OwF.fboth G75 (Nat.le_refl _)
                      have q102 := OwN.both G78 (Nat.le_refl _)
                      have z103 := Ap.cons (Ap.farL (one_hi B84.lt)) (Ap.append (ne_ap Zo76_obp3) Zo79_obp3)
                      have z104 := Ap.cons (Ap.farL (one_hi Bz64.lt)) (Ap.append (ne_ap Zo76_ob9) Zo79_ob9)
                      have z105 := Ap.cons (Ap.farL (one_hi B94.lt)) (Ap.append (ne_ap No76_ob88) No79_ob88)
                      have z106 := Ap.cons (Ap.farL (OwN.hi Guxs61)) (Ap.append Zo76_oxs61 Zo79_oxs61)
                      have z107 := Ap.cons (Ap.farL (OwF.fhi Guz64_0)) (Ap.append (Dj.ap Zo76_oz64_0) Zo79_oz64_0)
                      have z108 := Ap.cons (Ap.farL (OwN.hi Guz64_1)) (Ap.append Zo76_oz64_1 Zo79_oz64_1)
                      have B84 := blkT B84 hb99
                      have Bz64 := blkT Bz64 hb99
                      have B94 := blkT B94 hb99
                      have Guxs61 := OwN.below coreOw_ok Guxs61 hb99
                      have Guz64_0 := OwF.below Guz64_0 hb99
                      have Guz64_1 := OwN.below coreOw_ok Guz64_1 hb99
                      have G75 := OwF.below G75 hb99
                      have G78 := OwN.below coreOw_ok G78 hb99
                      have K := KeepV.below K hb99
                      have T := Tt T hb99
                      obtain ⟨l110, a109, nd111, sb112, r113⟩ := OwF.own2 fI G75
                      obtain ⟨_, _, _, l115, hea114, a114, nd116, sb117, r118⟩ := OwN.own1 coreOw_ok G78
                      injection hea114 with e1 e2 e3; subst e1 e2 e3
                      have G119 : OwN 42 coreOw 4 w97 ws.heap.size (.slice (some ⟨w93.heap.size, 0, none⟩) 1 1) [y72.1] (w93.heap.size :: ((fb (.slice A89 y72.1.data.length c90)) ++ bs80)) := OwN.lit1 (b1 := (l110 ++ l115)) B98 ZB98 (coreOw_in ⟨_, _, _, _, _, _, l110, l115, rfl, ⟨a109, r113⟩, ⟨a114, r118⟩, rfl⟩) coreOw_ok (nodup2 nd111 nd116 sb112 sb117 Ro76_o79) (sub2 sb112 sb117) (all2 q101 q102)
                      obtain ⟨_, m121, hm⟩ := bnd hm
                      have hk122 := mustP_some m121
                      refine RL.appendN coreOw_ok coreOw_one (by decide) app_impl_Core rfl rfl rfl Guxs61 G119 (Ap.symm z106) K.size hk122 (fun v123 w124 bs125 G126 hgr127 hbl128 hnb129 => ?_)
                      have szw124 := hbl128.size
                      have z131 := Ap.app hnb129 Noxs61_obp3 z103 (one_hi B84.lt)
                      have z132 := Ap.app hnb129 Noxs61_ob9 z104 (one_hi Bz64.lt)
                      have z133 := Ap.app hnb129 Noxs61_ob88 z105 (one_hi B94.lt)
                      have z134 := Ap.app hnb129 (Ap.symm Doz64_0_oxs61) z107 (OwF.fhi Guz64_0)
                      have z135 := Ap.app hnb129 (Ap.symm Doz64_1_oxs61) z108 (OwN.hi Guz64_1)
                      have B84 := Blk.kept B84 hgr127 (OwN.neB Guxs61 Noxs61_obp3)
                      have Bz64 := Blk.kept Bz64 hgr127 (OwN.neB Guxs61 Noxs61_ob9)
                      have B94 := Blk.kept B94 hgr127 (OwN.neB Guxs61 Noxs61_ob88)
                      have Guz64_0 := OwF.keptD Guz64_0 hgr127 (OwN.dj Guxs61 (Ap.symm Doz64_0_oxs61))
                      have Guz64_1 := OwN.grown coreOw_ok Guz64_1 hgr127 (OwN.apRow Guxs61 (Ap.symm Doz64_1_oxs61))
                      have K := KeepV.belowLo K hbl128
                      have T := T.trans (Below.weak LW hbl128)
                      refine RL.y rfl (Y.assign (v := v123) rfl) ?_
                      refine RL.nil ?_
                      refine blk_n (then_n ?_)
                      refine wp_rs rfl ?_
                      refine RQ.y rfl (Y.move (v := .int .i64 i62) s13_1) ?_
                      refine RQ.y rfl (Y.binI rfl rfl (binI_add (m := i62) (by omega))) ?_
                      refine RQ.y rfl (Y.assign (v := .int .i64 (i62 + 1)) rfl) ?_
                      refine RQ.nil ?_
                      exact (then_n ⟨g, _, Nat.lt_succ_self _, rfl, ⟨(xs61 ++ [y72.1]), (i62 + 1), y72.2.2, z64, (v123), bs125, (uz64_0), (uz64_1), bsz64_1, s0_1, s2_1, s3_1, s8_1, s10_1, s11_1, rfl, G126, rfl, (by omega), B84, Bz64, Guz64_0, Guz64_1, z131, z132, (Ap.symm z134), (ap_ne (ne_ap Noz64_0_obp3)), (ap_ne (ne_ap Noz64_0_ob9)), (Ap.symm z135), Doz64_1_oz64_0, Noz64_1_obp3, Noz64_1_ob9, K, T, (by rw [← hrec1]; exact hm)⟩⟩)
                    · replace hm := cT c96 hm
                      refine cond_t rfl (vb rfl c96) ?_
                      refine wp_seq ?_
                      refine wp_rl rfl ?_
                      refine RL.y rfl (Y.build0 (cells := #[.int .i64 0, .int .i64 0, .slice none 0 0, .slice none 0 0])  (by kernel_rfl) (by kernel_rfl)) ?_
                      refine RL.y rfl (Y.move (v := .int .i64 y72.2.1) rfl) ?_
                      refine RL.store (v := .agg #[.int .i64 0, .int .i64 0, .slice none 0 0, .slice none 0 0]) (cs' := #[.int .i64 0, .int .i64 0, .slice none 0 0, .slice none 0 0]) rfl s8_1 rfl Bz64 (by kernel_rfl) (by rfl) (by rfl) (by rfl) (fun w136 B137 ho138 => ?_)
                      have szw136 := ho138.size
                      have B84 := B84.only_ ho138 (by intro hin; simp at hin; exact Eob9_obp3 hin)
                      have B94 := B94.only_ ho138 (by intro hin; simp at hin; exact Eob88_ob9.symm hin)
                      have Guxs61 := OwN.only coreOw_ok Guxs61 ho138 (Ap.one Noxs61_ob9)
                      have Guz64_0 := OwF.only Guz64_0 ho138 Noz64_0_ob9
                      have Guz64_1 := OwN.only coreOw_ok Guz64_1 ho138 (Ap.one Noz64_1_ob9)
                      have G75 := OwF.only G75 ho138 Zo76_ob9
                      have G78 := OwN.only coreOw_ok G78 ho138 (Ap.one Zo79_ob9)
                      have K := KeepV.far K ho138 KZob9
                      have T := T.trans (ho138.below (by first | (simp; done) | (simp; omega)))
                      refine RL.y rfl (Y.assign (v := .int .i64 y72.2.1) rfl) ?_
                      refine RL.nil ?_
                      refine then_n ?_
                      refine wp_ret ?_
                      obtain rfl := Option.some.inj hm
                      exact (then_r (blk_r (then_r (then_r (hit_r (blk_r (then_r (retct (cs := [.int .i64 0, .int .i64 0, .slice none 0 0, .slice none 0 0]) rfl rfl s8_1 rfl (by kernel_rfl) (blkCells B137) ⟨⟨_, _, _, rfl, OwF.nil, OwN.nil, Ap.nil⟩, B84, K, T⟩))))))))
              · replace hm := cT c41 hm
                refine cond_t rfl (vb rfl c41) ?_
                refine wp_seq ?_
                refine wp_rl rfl ?_
                refine RL.y rfl (Y.move (v := .pointer (some ⟨b35, o36 + k29 * 5, none⟩)) rfl) ?_
                refine RL.y rfl (Y.nilCheck rfl) ?_
                refine RL.y rfl (Y.fieldAddr (off := 2) rfl (by kernel_rfl)) ?_
                refine RL.y rfl (Y.load (v := .int .i64 x28.value) rfl (by kernel_rfl) (eqC (cellT T (hc34 2 _ rfl)))) ?_
                obtain ⟨y140, e141, hm⟩ := bnd hm
                refine RL.call rfl (am1 rfl) (by kernel_rfl) ((c_m_spec_l06R x28.value _ e141  _ ).mono ?_)
                rintro _ w149 ⟨⟨v142, v145, bs148, rfl, G143, G146, Ro144_o147⟩, hb150⟩
                refine ⟨_, rfl, ?_⟩
                have szw149 := hb150.size
                have T0w149 := K.size
                have Zo144_obp3 := ap_ne (Ap.new (OwF.flo G143) (one_hi B12.lt))
                have Zo144_ob9 := ap_ne (Ap.new (OwF.flo G143) (one_hi B7.lt))
                have Zo147_obp3 : Ap bs148 [pc3] := (Ap.new (OwN.lo_ G146) (one_hi B12.lt))
                have Zo147_ob9 : Ap bs148 [w2.heap.size] := (Ap.new (OwN.lo_ G146) (one_hi B7.lt))
                have B12 := blkT B12 hb150
                have B7 := blkT B7 hb150
                have K := KeepV.below K hb150
                have T := Tt T hb150
                replace G143 := OwF.mono G143 T0w149
                replace G146 := OwN.mono G146 T0w149
                obtain ⟨A151, c152, rfl⟩ := OwF.form G143
                have qbA151 := OwF.bound G143
                obtain ⟨A153, c154, rfl⟩ := OwN.form G146
                have qbA153 := OwN.bound G146
                refine RL.store (v := .agg #[.int .i64 y140.kind, .int .i64 y140.value, .slice A151 y140.data.length c152, .slice A153 y140.kids.length c154]) (cs' := #[.int .i64 y140.kind, .int .i64 y140.value, .slice A151 y140.data.length c152, .slice A153 y140.kids.length c154]) rfl rfl rfl B7 (by kernel_rfl) (by rfl) (by rfl) (by rfl) (fun w155 B156 ho157 => ?_)
                have szw155 := ho157.size
                have B12 := B12.only_ ho157 (by intro hin; simp at hin; exact Eob9_obp3 hin)
                have G143 := OwF.only G143 ho157 Zo144_ob9
                have G146 := OwN.only coreOw_ok G146 ho157 (Ap.one Zo147_ob9)
                have K := KeepV.far K ho157 KZob9
                have T := T.trans (ho157.below (by first | (simp; done) | (simp; omega)))
                refine RL.y rfl (Y.assign (v := .int .i64 0) rfl) ?_
                refine RL.nil ?_
                refine then_n ?_
                refine wp_ret ?_
                obtain rfl := Option.some.inj hm
                exact (blk_r (then_r (retct (cs := [.int .i64 y140.kind, .int .i64 y140.value, .slice A151 y140.data.length c152, .slice A153 y140.kids.length c154]) rfl rfl rfl rfl (by kernel_rfl) (blkCells B156) ⟨⟨_, _, _, rfl, G143, G146, Ro144_o147⟩, B12, K, T⟩)))
            · replace hm := cT c40 hm
              refine cond_t rfl (vb rfl c40) ?_
              refine wp_seq ?_
              refine wp_rl rfl ?_
              refine RL.y rfl (Y.move (v := .pointer (some ⟨b35, o36 + k29 * 5, none⟩)) rfl) ?_
              refine RL.y rfl (Y.nilCheck rfl) ?_
              refine RL.y rfl (Y.fieldAddr (off := 2) rfl (by kernel_rfl)) ?_
              refine RL.y rfl (Y.load (v := .int .i64 x28.value) rfl (by kernel_rfl) (eqC (cellT T (hc34 2 _ rfl)))) ?_
              obtain ⟨y158, e159, hm⟩ := bnd hm
              refine RL.call rfl (am1 rfl) (by kernel_rfl) ((c_m_spec_l06N x28.value _ e159  _ ).mono ?_)
              rintro _ w167 ⟨⟨v160, v163, bs166, rfl, G161, G164, Ro162_o165⟩, hb168⟩
              refine ⟨_, rfl, ?_⟩
              have szw167 := hb168.size
              have T0w167 := K.size
              have Zo162_obp3 := ap_ne (Ap.new (OwF.flo G161) (one_hi B12.lt))
              have Zo162_ob9 := ap_ne (Ap.new (OwF.flo G161) (one_hi B7.lt))
              have Zo165_obp3 : Ap bs166 [pc3] := (Ap.new (OwN.lo_ G164) (one_hi B12.lt))
              have Zo165_ob9 : Ap bs166 [w2.heap.size] := (Ap.new (OwN.lo_ G164) (one_hi B7.lt))
              have B12 := blkT B12 hb168
              have B7 := blkT B7 hb168
              have K := KeepV.below K hb168
              have T := Tt T hb168
              replace G161 := OwF.mono G161 T0w167
              replace G164 := OwN.mono G164 T0w167
              obtain ⟨A169, c170, rfl⟩ := OwF.form G161
              have qbA169 := OwF.bound G161
              obtain ⟨A171, c172, rfl⟩ := OwN.form G164
              have qbA171 := OwN.bound G164
              refine RL.store (v := .agg #[.int .i64 y158.kind, .int .i64 y158.value, .slice A169 y158.data.length c170, .slice A171 y158.kids.length c172]) (cs' := #[.int .i64 y158.kind, .int .i64 y158.value, .slice A169 y158.data.length c170, .slice A171 y158.kids.length c172]) rfl rfl rfl B7 (by kernel_rfl) (by rfl) (by rfl) (by rfl) (fun w173 B174 ho175 => ?_)
              have szw173 := ho175.size
              have B12 := B12.only_ ho175 (by intro hin; simp at hin; exact Eob9_obp3 hin)
              have G161 := OwF.only G161 ho175 Zo162_ob9
              have G164 := OwN.only coreOw_ok G164 ho175 (Ap.one Zo165_ob9)
              have K := KeepV.far K ho175 KZob9
              have T := T.trans (ho175.below (by first | (simp; done) | (simp; omega)))
              refine RL.y rfl (Y.assign (v := .int .i64 0) rfl) ?_
              refine RL.nil ?_
              refine then_n ?_
              refine wp_ret ?_
              obtain rfl := Option.some.inj hm
              exact (blk_r (then_r (retct (cs := [.int .i64 y158.kind, .int .i64 y158.value, .slice A169 y158.data.length c170, .slice A171 y158.kids.length c172]) rfl rfl rfl rfl (by kernel_rfl) (blkCells B174) ⟨⟨_, _, _, rfl, G161, G164, Ro162_o165⟩, B12, K, T⟩)))
          · replace hm := cT c39 hm
            refine cond_t rfl (vb rfl c39) ?_
            refine wp_seq ?_
            refine wp_rl rfl ?_
            refine RL.y rfl (Y.build0 (cells := #[.int .i64 0, .int .i64 0, .slice none 0 0, .slice none 0 0])  (by kernel_rfl) (by kernel_rfl)) ?_
            refine RL.store (v := .agg #[.int .i64 0, .int .i64 0, .slice none 0 0, .slice none 0 0]) (cs' := #[.int .i64 0, .int .i64 0, .slice none 0 0, .slice none 0 0]) rfl rfl rfl B7 (by kernel_rfl) (by rfl) (by rfl) (by rfl) (fun w176 B177 ho178 => ?_)
            have szw176 := ho178.size
            have B12 := B12.only_ ho178 (by intro hin; simp at hin; exact Eob9_obp3 hin)
            have K := KeepV.far K ho178 KZob9
            have T := T.trans (ho178.below (by first | (simp; done) | (simp; omega)))
            refine RL.y rfl (Y.assign (v := .int .i64 5) rfl) ?_
            refine RL.nil ?_
            refine then_n ?_
            refine wp_ret ?_
            obtain rfl := Option.some.inj hm
            exact (blk_r (then_r (retct (cs := [.int .i64 0, .int .i64 0, .slice none 0 0, .slice none 0 0]) rfl rfl rfl rfl (by kernel_rfl) (blkCells B177) ⟨⟨_, _, _, rfl, OwF.nil, OwN.nil, Ap.nil⟩, B12, K, T⟩)))
      · replace hm := cT c15 hm
        have pc15 := of_decide_eq_true c15
        refine cond_t rfl (vb rfl c15) ?_
        refine wp_seq ?_
        refine wp_rl rfl ?_
        refine RL.y rfl (Y.build0 (cells := #[.int .i64 0, .int .i64 0, .slice none 0 0, .slice none 0 0])  (by kernel_rfl) (by kernel_rfl)) ?_
        refine RL.store (v := .agg #[.int .i64 0, .int .i64 0, .slice none 0 0, .slice none 0 0]) (cs' := #[.int .i64 0, .int .i64 0, .slice none 0 0, .slice none 0 0]) rfl rfl rfl B7 (by kernel_rfl) (by rfl) (by rfl) (by rfl) (fun w179 B180 ho181 => ?_)
        have szw179 := ho181.size
        have B12 := B12.only_ ho181 (by intro hin; simp at hin; exact Eob9_obp3 hin)
        have B3 := B3.only_ ho181 (by intro hin; simp at hin; exact Eob9_ob5 hin)
        have K := KeepV.far K ho181 KZob9
        have T := T.trans (ho181.below (by first | (simp; done) | (simp; omega)))
        refine RL.y rfl (Y.assign (v := .int .i64 4) rfl) ?_
        refine RL.nil ?_
        refine then_n ?_
        refine wp_ret ?_
        obtain rfl := Option.some.inj hm
        exact (then_r (retct (cs := [.int .i64 0, .int .i64 0, .slice none 0 0, .slice none 0 0]) rfl rfl rfl rfl (by kernel_rfl) (blkCells B180) ⟨⟨_, _, _, rfl, OwF.nil, OwN.nil, Ap.nil⟩, B12, K, T⟩))
    · replace hm := cT c14 hm
      have pc14 := of_decide_eq_true c14
      refine RQ.skip (wantN (dj := 23) rfl (vb rfl c14) rfl) ?_
      refine RQ.skip (wantN (dj := 23) rfl (vb rfl c14) rfl) ?_
      refine RQ.skip (wantN (dj := 23) rfl (vb rfl c14) rfl) ?_
      refine RQ.skip (wantN (dj := 23) rfl (vb rfl c14) rfl) ?_
      refine RQ.y rfl (Y.pick (b := true) (v := .bool true) (vb rfl c14) rfl) ?_
      refine RQ.nil ?_
      refine then_n ?_
      refine cond_t rfl rfl ?_
      refine wp_seq ?_
      refine wp_rl rfl ?_
      refine RL.y rfl (Y.build0 (cells := #[.int .i64 0, .int .i64 0, .slice none 0 0, .slice none 0 0])  (by kernel_rfl) (by kernel_rfl)) ?_
      refine RL.store (v := .agg #[.int .i64 0, .int .i64 0, .slice none 0 0, .slice none 0 0]) (cs' := #[.int .i64 0, .int .i64 0, .slice none 0 0, .slice none 0 0]) rfl rfl rfl B7 (by kernel_rfl) (by rfl) (by rfl) (by rfl) (fun w182 B183 ho184 => ?_)
      have szw182 := ho184.size
      have B12 := B12.only_ ho184 (by intro hin; simp at hin; exact Eob9_obp3 hin)
      have B3 := B3.only_ ho184 (by intro hin; simp at hin; exact Eob9_ob5 hin)
      have K := KeepV.far K ho184 KZob9
      have T := T.trans (ho184.below (by first | (simp; done) | (simp; omega)))
      refine RL.y rfl (Y.assign (v := .int .i64 4) rfl) ?_
      refine RL.nil ?_
      refine then_n ?_
      refine wp_ret ?_
      obtain rfl := Option.some.inj hm
      exact (then_r (retct (cs := [.int .i64 0, .int .i64 0, .slice none 0 0, .slice none 0 0]) rfl rfl rfl rfl (by kernel_rfl) (blkCells B183) ⟨⟨_, _, _, rfl, OwF.nil, OwN.nil, Ap.nil⟩, B12, K, T⟩))
def m_spec_DataOf (d0 : DNet) : Option (DCore × Int) :=
  ((m_spec_l11Ok d0).bind fun y10 => (bif y10 then ((m_spec_l17Data ((82 - (1 : Int)).toNat) d0 (⟨0, 0⟩ : DPort) 1 0).bind fun y29 => some (y29.1, y29.2.1)) else some ((⟨0, 0, [], []⟩ : DCore), 1)))
set_option maxHeartbeats 2000000 in
theorem c_m_spec_DataOf (d0 : DNet) (r : DCore × Int) (hm : m_spec_DataOf d0 = some r) (v0 : Value) (w : World) (hv0 : St netRd w v0 d0) :
    Calls Try.prog 19 #[v0] w fun e w' => (∃ (v0 : Value) (v1 : Value) (bs1 : List Nat), e = .returned (.tuple #[.agg #[.int .i64 r.1.kind, .int .i64 r.1.value, v0, v1], .int .i64 r.2]) ∧ OwF 2 encI 1 w' w.heap.size v0 r.1.data ∧ OwN 42 coreOw 4 w' w.heap.size v1 r.1.kids bs1 ∧ Ap (fb v0) bs1) ∧ Below w.heap.size w w' := by
  obtain ⟨csa0, rfl, ⟨A1, n1, c1, rfl, ⟨h1, r1⟩⟩⟩ := hv0
  have e1 := h1.len; subst e1
  have q1 := len_le r1
  have T := Below.refl w.heap.size w
  unfold m_spec_DataOf at hm
  refine enter 12 Try.func19 rfl rfl rfl ?_
  intro f hf
  have s0 : f 0 = .agg #[.slice A1 d0.agents.length c1] := hf 0 _ rfl
  refine wp_seq ?_
  refine wp_rl rfl ?_
  refine RL.box rfl s0 (fun w2 B3 hb4 szw2 => ?_)
  replace B3 : Blk w2 w.heap.size 31 #[.slice A1 d0.agents.length c1] := B3
  have GB3 : w.heap.size ≤ w.heap.size := T.size
  have T := Tt T hb4
  refine RL.alloc (z := .agg #[.int .i64 0, .int .i64 0, .slice none 0 0, .slice none 0 0]) rfl (by kernel_rfl) (fun w6 B7 hb8 szw6 => ?_)
  replace B7 : Blk w6 w2.heap.size 42 #[.int .i64 0, .int .i64 0, .slice none 0 0, .slice none 0 0] := B7
  have GB7 : w.heap.size ≤ w2.heap.size := T.size
  have Eob9_ob5 := Nat.ne_of_lt B3.lt
  have B3 := blkT B3 hb8
  have T := Tt T hb8
  refine RL.y rfl (Y.assign (v := .int .i64 0) rfl) ?_
  refine RL.nil ?_
  refine then_n ?_
  refine wp_seq ?_
  refine wp_seq ?_
  refine wp_rb rfl ?_
  obtain ⟨y10, e11, hm⟩ := bnd hm
  refine RQ.call rfl (am1 rfl) (by kernel_rfl) (v := .bool y10) (bel (K := fun _ => True) fun w' hb' => (c_m_spec_l11Ok d0 _ e11 _ w' (ptBox (R := netRd) (blkT B3 hb') ⟨_, _, _, rfl, ⟨SlAt.now agentRd_ok h1 (Nat.le_refl _) (Tt T hb'), r1⟩⟩))) ?_
  refine RQ.y rfl (Y.not (b' := (!y10)) rfl rfl) ?_
  refine RQ.nil ?_
  intro w12 hb13
  have szw12 := hb13.size
  have B3 := blkT B3 hb13
  have B7 := blkT B7 hb13
  have T := Tt T hb13
  refine then_n ?_
  rcases bcases y10 with c14 | c14
  · replace hm := cF c14 hm
    refine cond_t rfl (vbn rfl c14 rfl) ?_
    refine wp_seq ?_
    refine wp_rl rfl ?_
    refine RL.y rfl (Y.build0 (cells := #[.int .i64 0, .int .i64 0, .slice none 0 0, .slice none 0 0])  (by kernel_rfl) (by kernel_rfl)) ?_
    refine RL.store (v := .agg #[.int .i64 0, .int .i64 0, .slice none 0 0, .slice none 0 0]) (cs' := #[.int .i64 0, .int .i64 0, .slice none 0 0, .slice none 0 0]) rfl rfl rfl B7 (by kernel_rfl) (by rfl) (by rfl) (by rfl) (fun w15 B16 ho17 => ?_)
    have szw15 := ho17.size
    have B3 := B3.only_ ho17 (by intro hin; simp at hin; exact Eob9_ob5 hin)
    have T := T.trans (ho17.below (by first | (simp; done) | (simp; omega)))
    refine RL.y rfl (Y.assign (v := .int .i64 1) rfl) ?_
    refine RL.nil ?_
    refine then_n ?_
    refine wp_ret ?_
    obtain rfl := Option.some.inj hm
    exact (then_r (retct (cs := [.int .i64 0, .int .i64 0, .slice none 0 0, .slice none 0 0]) rfl rfl rfl rfl (by kernel_rfl) (blkCells B16) ⟨⟨_, _, _, rfl, OwF.nil, OwN.nil, Ap.nil⟩, T⟩))
  · replace hm := cT c14 hm
    refine cond_f rfl (vbn rfl c14 rfl) ?_
    refine wp_skip ?_
    refine then_n ?_
    refine wp_seq ?_
    refine wp_rl rfl ?_
    have U22 := Below.refl w12.heap.size w12
    have ST23 := T
    have SB24 := B3
    have SB25 := B7
    refine RL.alloc (z := .int .i64 0) rfl (by kernel_rfl) (fun w18 B19 hb20 szw18 => ?_)
    replace B19 : Blk w18 w12.heap.size 2 #[.int .i64 0] := B19
    have GB19 : w.heap.size ≤ w12.heap.size := T.size
    have Eob21_ob5 := Nat.ne_of_lt B3.lt
    have Eob21_ob9 := Nat.ne_of_lt B7.lt
    have B3 := blkT B3 hb20
    have B7 := blkT B7 hb20
    try have U22 := Tt U22 hb20
    have T := Tt T hb20
    refine RL.store (v := .int .i64 0) (cs' := #[.int .i64 0]) rfl rfl rfl B19 (by kernel_rfl) (by rfl) (by rfl) (by rfl) (fun w26 B27 ho28 => ?_)
    have szw26 := ho28.size
    have B3 := B3.only_ ho28 (by intro hin; simp at hin; exact Eob21_ob5 hin)
    have B7 := B7.only_ ho28 (by intro hin; simp at hin; exact Eob21_ob9 hin)
    try have U22 := U22.trans (ho28.below (by first | (simp; done) | (simp; omega)))
    have T := T.trans (ho28.below (by first | (simp; done) | (simp; omega)))
    refine RL.nil ?_
    refine then_n ?_
    refine wp_seq ?_
    refine wp_rl rfl ?_
    refine RL.y rfl (Y.build0 (cells := #[.int .i64 0, .int .i64 0])  (by kernel_rfl) (by kernel_rfl)) ?_
    obtain ⟨y29, e30, hm⟩ := bnd hm
    refine RL.call rfl (am4 rfl rfl rfl rfl) (by kernel_rfl) ((c_m_spec_l17Data ((82 - (1 : Int)).toNat) d0 (⟨0, 0⟩ : DPort) 1 0 _ e30 _ w12 w26 U22 (ptBox (R := netRd) SB24 ⟨_, _, _, rfl, ⟨SlAt.now agentRd_ok h1 (Nat.le_refl _) ST23, r1⟩⟩) _ B27 (Nat.le_refl _)).mono ?_)
    rintro _ w38 ⟨⟨v31, v34, bs37, rfl, G32, G35, Ro33_o36⟩, B41, K39, hb40⟩
    refine ⟨_, rfl, ?_⟩
    have szw38 := K39.size
    have T0w38 := T.size
    have Zo33_ob5 := ap_ne (Ap.new (OwF.flo G32) (one_hi B3.lt))
    have Zo33_ob9 := ap_ne (Ap.new (OwF.flo G32) (one_hi B7.lt))
    have Zo33_ob21 := ap_ne (Ap.new (OwF.flo G32) (one_hi B27.lt))
    have Zo36_ob5 : Ap bs37 [w.heap.size] := (Ap.new (OwN.lo_ G35) (one_hi B3.lt))
    have Zo36_ob9 : Ap bs37 [w2.heap.size] := (Ap.new (OwN.lo_ G35) (one_hi B7.lt))
    have Zo36_ob21 : Ap bs37 [w12.heap.size] := (Ap.new (OwN.lo_ G35) (one_hi B27.lt))
    have B3 := Blk.keepV B3 K39 (cellNe Eob21_ob5) (cellNe Eob21_ob5)
    have B7 := Blk.keepV B7 K39 (cellNe Eob21_ob9) (cellNe Eob21_ob9)
    have U22 := hb40
    have T := Tt ST23 hb40
    replace G32 := OwF.mono G32 T0w38
    replace G35 := OwN.mono G35 T0w38
    refine RL.y rfl (Y.extract (i := 0) rfl rfl) ?_
    refine RL.y rfl (Y.extract (i := 1) rfl rfl) ?_
    obtain ⟨A42, c43, rfl⟩ := OwF.form G32
    have qbA42 := OwF.bound G32
    obtain ⟨A44, c45, rfl⟩ := OwN.form G35
    have qbA44 := OwN.bound G35
    refine RL.store (v := .agg #[.int .i64 y29.1.kind, .int .i64 y29.1.value, .slice A42 y29.1.data.length c43, .slice A44 y29.1.kids.length c45]) (cs' := #[.int .i64 y29.1.kind, .int .i64 y29.1.value, .slice A42 y29.1.data.length c43, .slice A44 y29.1.kids.length c45]) rfl rfl rfl B7 (by kernel_rfl) (by rfl) (by rfl) (by rfl) (fun w46 B47 ho48 => ?_)
    have szw46 := ho48.size
    have B3 := B3.only_ ho48 (by intro hin; simp at hin; exact Eob9_ob5 hin)
    have B41 := B41.only_ ho48 (by intro hin; simp at hin; exact Eob21_ob9.symm hin)
    have G32 := OwF.only G32 ho48 Zo33_ob9
    have G35 := OwN.only coreOw_ok G35 ho48 (Ap.one Zo36_ob9)
    try have U22 := U22.trans (ho48.below (by first | (simp; done) | (simp; omega)))
    have T := T.trans (ho48.below (by first | (simp; done) | (simp; omega)))
    refine RL.y rfl (Y.assign (v := .int .i64 y29.2.1) rfl) ?_
    refine RL.nil ?_
    refine then_n ?_
    refine wp_ret ?_
    obtain rfl := Option.some.inj hm
    exact (retct (cs := [.int .i64 y29.1.kind, .int .i64 y29.1.value, .slice A42 y29.1.data.length c43, .slice A44 y29.1.kids.length c45]) rfl rfl rfl rfl (by kernel_rfl) (blkCells B47) ⟨⟨_, _, _, rfl, G32, G35, Ro33_o36⟩, T⟩)
def m_impl_coreNum (d0 : Int) : Option DCore :=
  some (⟨2, d0, [], []⟩ : DCore)
set_option maxHeartbeats 2000000 in
theorem c_m_impl_coreNum (d0 : Int) (r : DCore) (hm : m_impl_coreNum d0 = some r)  (w : World)  :
    Calls Try.prog 98 #[.int .i64 d0] w fun e w' => (∃ (v0 : Value) (v1 : Value) (bs1 : List Nat), e = .returned (.agg #[.int .i64 r.kind, .int .i64 r.value, v0, v1]) ∧ OwF 2 encI 1 w' w.heap.size v0 r.data ∧ OwN 42 coreOw 4 w' w.heap.size v1 r.kids bs1 ∧ Ap (fb v0) bs1) ∧ Below w.heap.size w w' := by
  have T := Below.refl w.heap.size w
  unfold m_impl_coreNum at hm
  refine enter 5 Try.func98 rfl rfl rfl ?_
  intro f hf
  have s0 : f 0 = .int .i64 d0 := hf 0 _ rfl
  refine wp_seq ?_
  refine wp_rl rfl ?_
  refine RL.alloc (z := .agg #[.int .i64 0, .int .i64 0, .slice none 0 0, .slice none 0 0]) rfl (by kernel_rfl) (fun w1 B2 hb3 szw1 => ?_)
  replace B2 : Blk w1 w.heap.size 42 #[.int .i64 0, .int .i64 0, .slice none 0 0, .slice none 0 0] := B2
  have GB2 : w.heap.size ≤ w.heap.size := T.size
  have T := Tt T hb3
  refine RL.nil ?_
  refine then_n ?_
  refine wp_seq ?_
  refine wp_rl rfl ?_
  refine RL.y rfl (Y.move (v := .int .i64 d0) s0) ?_
  refine RL.y rfl (Y.build2 (cells := #[.int .i64 2, .int .i64 d0, .slice none 0 0, .slice none 0 0]) rfl rfl (by kernel_rfl) (by kernel_rfl)) ?_
  refine RL.store (v := .agg #[.int .i64 2, .int .i64 d0, .slice none 0 0, .slice none 0 0]) (cs' := #[.int .i64 2, .int .i64 d0, .slice none 0 0, .slice none 0 0]) rfl rfl rfl B2 (by kernel_rfl) (by rfl) (by rfl) (by rfl) (fun w5 B6 ho7 => ?_)
  have szw5 := ho7.size
  have T := T.trans (ho7.below (by first | (simp; done) | (simp; omega)))
  refine RL.nil ?_
  refine then_n ?_
  refine wp_ret ?_
  obtain rfl := Option.some.inj hm
  exact (retc (cs := [.int .i64 2, .int .i64 d0, .slice none 0 0, .slice none 0 0]) rfl rfl rfl (by kernel_rfl) (blkCells B6) ⟨⟨_, _, _, rfl, OwF.nil, OwN.nil, Ap.nil⟩, T⟩)
def m_impl_coreRef (d0 : Int) : Option DCore :=
  some (⟨11, d0, [], []⟩ : DCore)
set_option maxHeartbeats 2000000 in
theorem c_m_impl_coreRef (d0 : Int) (r : DCore) (hm : m_impl_coreRef d0 = some r)  (w : World)  :
    Calls Try.prog 99 #[.int .i64 d0] w fun e w' => (∃ (v0 : Value) (v1 : Value) (bs1 : List Nat), e = .returned (.agg #[.int .i64 r.kind, .int .i64 r.value, v0, v1]) ∧ OwF 2 encI 1 w' w.heap.size v0 r.data ∧ OwN 42 coreOw 4 w' w.heap.size v1 r.kids bs1 ∧ Ap (fb v0) bs1) ∧ Below w.heap.size w w' := by
  have T := Below.refl w.heap.size w
  unfold m_impl_coreRef at hm
  refine enter 5 Try.func99 rfl rfl rfl ?_
  intro f hf
  have s0 : f 0 = .int .i64 d0 := hf 0 _ rfl
  refine wp_seq ?_
  refine wp_rl rfl ?_
  refine RL.alloc (z := .agg #[.int .i64 0, .int .i64 0, .slice none 0 0, .slice none 0 0]) rfl (by kernel_rfl) (fun w1 B2 hb3 szw1 => ?_)
  replace B2 : Blk w1 w.heap.size 42 #[.int .i64 0, .int .i64 0, .slice none 0 0, .slice none 0 0] := B2
  have GB2 : w.heap.size ≤ w.heap.size := T.size
  have T := Tt T hb3
  refine RL.nil ?_
  refine then_n ?_
  refine wp_seq ?_
  refine wp_rl rfl ?_
  refine RL.y rfl (Y.move (v := .int .i64 d0) s0) ?_
  refine RL.y rfl (Y.build2 (cells := #[.int .i64 11, .int .i64 d0, .slice none 0 0, .slice none 0 0]) rfl rfl (by kernel_rfl) (by kernel_rfl)) ?_
  refine RL.store (v := .agg #[.int .i64 11, .int .i64 d0, .slice none 0 0, .slice none 0 0]) (cs' := #[.int .i64 11, .int .i64 d0, .slice none 0 0, .slice none 0 0]) rfl rfl rfl B2 (by kernel_rfl) (by rfl) (by rfl) (by rfl) (fun w5 B6 ho7 => ?_)
  have szw5 := ho7.size
  have T := T.trans (ho7.below (by first | (simp; done) | (simp; omega)))
  refine RL.nil ?_
  refine then_n ?_
  refine wp_ret ?_
  obtain rfl := Option.some.inj hm
  exact (retc (cs := [.int .i64 11, .int .i64 d0, .slice none 0 0, .slice none 0 0]) rfl rfl rfl (by kernel_rfl) (blkCells B6) ⟨⟨_, _, _, rfl, OwF.nil, OwN.nil, Ap.nil⟩, T⟩)
def m_impl_rootPort  : Option DPort :=
  some (⟨0, 0⟩ : DPort)
set_option maxHeartbeats 2000000 in
theorem c_m_impl_rootPort  (r : DPort) (hm : m_impl_rootPort  = some r)  (w : World)  :
    Calls Try.prog 44 #[] w fun e w' => e = .returned (.agg #[.int .i64 r.agent, .int .i64 r.slot]) ∧ Below w.heap.size w w' := by
  have T := Below.refl w.heap.size w
  unfold m_impl_rootPort at hm
  refine enter 2 Try.func44 rfl rfl rfl ?_
  intro f hf
  refine wp_seq ?_
  refine wp_rl rfl ?_
  refine RL.alloc (z := .agg #[.int .i64 0, .int .i64 0]) rfl (by kernel_rfl) (fun w1 B2 hb3 szw1 => ?_)
  replace B2 : Blk w1 w.heap.size 81 #[.int .i64 0, .int .i64 0] := B2
  have GB2 : w.heap.size ≤ w.heap.size := T.size
  have T := Tt T hb3
  refine RL.nil ?_
  refine then_n ?_
  refine wp_seq ?_
  refine wp_rl rfl ?_
  refine RL.y rfl (Y.build2 (cells := #[.int .i64 0, .int .i64 0]) rfl rfl (by kernel_rfl) (by kernel_rfl)) ?_
  refine RL.store (v := .agg #[.int .i64 0, .int .i64 0]) (cs' := #[.int .i64 0, .int .i64 0]) rfl rfl rfl B2 (by kernel_rfl) (by rfl) (by rfl) (by rfl) (fun w5 B6 ho7 => ?_)
  have szw5 := ho7.size
  have T := T.trans (ho7.below (by first | (simp; done) | (simp; omega)))
  refine RL.nil ?_
  refine then_n ?_
  refine wp_ret ?_
  obtain rfl := Option.some.inj hm
  exact (retc (cs := [.int .i64 0, .int .i64 0]) rfl rfl rfl (by kernel_rfl) (blkCells B6) ⟨rfl, T⟩)
def m_impl_Net_data_A1 (z60 : Int) (z61 : DCore) (z62 : DCore) : Option (DCore × Int × Int) :=
  some (z62, 0, z60)
def m_impl_Net_data_B1 (d0 : DNet) (d1 : DPort) (d2 : Int) (self : DNet → DPort → Int → Int → Option (DCore × Int × Int)) (x22 : DAgent) (rec1 : Int → Int → DCore → DCore → Option (DCore × Int × Int)) (K1 : Int → DCore → DCore → Option (DCore × Int × Int)) (i71 : Int) (z72 : Int) (z73 : DCore) (z74 : DCore) : Option (DCore × Int × Int) :=
  (bif (decide (i71 < (x22.ports.length : Int))) then ((m_impl_Net_peer d0 d1).bind fun y77 => ((ck (d2 + 1)).bind fun s81 => ((self d0 (⟨y77.agent, i71⟩ : DPort) s81 z72).bind fun y82 => (bif (y82.2.1 != 0) then some ((⟨0, 0, [], []⟩ : DCore), y82.2.1, y82.2.2) else ((mustP (z74.kids.length + ([y82.1]).length ≤ 4294967296)).bind fun _ => (rec1 (i71 + 1) y82.2.2 z73 (⟨z74.kind, z74.value, z74.data, (z74.kids ++ [y82.1])⟩ : DCore))))))) else (K1 z72 z73 z74))
def m_impl_Net_data_L1 (d0 : DNet) (d1 : DPort) (d2 : Int) (self : DNet → DPort → Int → Int → Option (DCore × Int × Int)) (x22 : DAgent) (K1 : Int → DCore → DCore → Option (DCore × Int × Int)) : Nat → Int → Int → DCore → DCore → Option (DCore × Int × Int)
  | 0, _, _, _, _ => none
  | g + 1, i71, z72, z73, z74 => m_impl_Net_data_B1 d0 d1 d2 self x22 (m_impl_Net_data_L1 d0 d1 d2 self x22 K1 g) K1 i71 z72 z73 z74
def m_impl_Net_data_R (self : DNet → DPort → Int → Int → Option (DCore × Int × Int)) (d0 : DNet) (d1 : DPort) (d2 : Int) (d3 : Int) : Option (DCore × Int × Int) :=
  (bif (decide (d2 > 80)) then some ((⟨0, 0, [], []⟩ : DCore), 4, d3) else (bif (d3 == 400) then some ((⟨0, 0, [], []⟩ : DCore), 4, d3) else ((ck (d3 + 1)).bind fun s12 => ((m_impl_Net_peer d0 d1).bind fun y18 => ((getI d0.agents y18.agent).bind fun x22 => ((m_impl_Net_isKnown d0 d1).bind fun y40 => (bif y40 then (bif (x22.kind == 2) then some ((⟨0, 0, [], []⟩ : DCore), 5, s12) else (bif (x22.kind == 6) then ((m_impl_coreNum x22.value).bind fun y181 => some (y181, 0, s12)) else (bif (x22.kind == 12) then ((m_impl_coreRef x22.value).bind fun y163 => some (y163, 0, s12)) else (m_impl_Net_data_L1 d0 d1 d2 self x22 m_impl_Net_data_A1 (x22.ports.length + 1) 1 s12 (⟨0, 0, [], []⟩ : DCore) (⟨8, x22.value, [], []⟩ : DCore))))) else some ((⟨0, 0, [], []⟩ : DCore), 5, s12))))))))
def m_impl_Net_data : Nat → DNet → DPort → Int → Int → Option (DCore × Int × Int)
  | 0, _, _, _, _ => none
  | gas + 1, d0, d1, d2, d3 => m_impl_Net_data_R (m_impl_Net_data gas) d0 d1 d2 d3
set_option maxHeartbeats 2000000 in
theorem c_m_impl_Net_data : ∀ (gas : Nat) (d0 : DNet) (d1 : DPort) (d2 : Int) (d3 : Int) (r : DCore × Int × Int) (hm : m_impl_Net_data gas d0 d1 d2 d3 = some r) (v0 : Value) (w ws : World) (hT0 : Below w.heap.size w ws) (hv0 : Pt netRd w v0 d0) (pc3 : Nat) (hv3 : Blk ws pc3 3 #[.int .i64 d3]) (hl3 : w.heap.size ≤ pc3),
    Calls Try.prog 43 #[v0, .agg #[.int .i64 d1.agent, .int .i64 d1.slot], .int .i64 d2, .pointer (some ⟨pc3, 0, none⟩)] ws fun e w' => (∃ (v0 : Value) (v1 : Value) (bs1 : List Nat), e = .returned (.tuple #[.agg #[.int .i64 r.1.kind, .int .i64 r.1.value, v0, v1], .int .i64 r.2.1]) ∧ OwF 2 encI 1 w' ws.heap.size v0 r.1.data ∧ OwN 42 coreOw 4 w' ws.heap.size v1 r.1.kids bs1 ∧ Ap (fb v0) bs1) ∧ Blk w' pc3 3 #[.int .i64 r.2.2] ∧ KeepV (.slice (some ⟨pc3, 0, none⟩) 1 1) (.slice (some ⟨pc3, 0, none⟩) 1 1) ws w' ∧ Below w.heap.size w w' := by
  intro gas
  induction gas with
  | zero =>
    intro d0 d1 d2 d3 r hm v0 w ws hT0 hv0 pc3 hv3 hl3
    cases hm
  | succ gas ih =>
    intro d0 d1 d2 d3 r hm v0 w ws hT0 hv0 pc3 hv3 hl3
    obtain ⟨ba0, oa0, csa0, rfl, hba0, hRa0, hca0⟩ := hv0
    have hSa0 := hRa0
    obtain ⟨A1, n1, c1, rfl, ⟨h1, r1⟩⟩ := hRa0
    have e1 := h1.len; subst e1
    have q1 := len_le r1
    have T := hT0
    have LW := hT0.size
    have K := KeepV.refl (.slice (some ⟨pc3, 0, none⟩) 1 1) (.slice (some ⟨pc3, 0, none⟩) 1 1) ws
    obtain ⟨self, hself, hm⟩ : ∃ s, s = m_impl_Net_data gas ∧ m_impl_Net_data_R s d0 d1 d2 d3 = some r := ⟨_, rfl, hm⟩
    unfold m_impl_Net_data_R at hm
    refine enter 96 Try.func43 rfl rfl rfl ?_
    intro f hf
    have s0 : f 0 = .pointer (some ⟨ba0, oa0, none⟩) := hf 0 _ rfl
    have s1 : f 1 = .agg #[.int .i64 d1.agent, .int .i64 d1.slot] := hf 1 _ rfl
    have s2 : f 2 = .int .i64 d2 := hf 2 _ rfl
    have s3 : f 3 = .pointer (some ⟨pc3, 0, none⟩) := hf 3 _ rfl
    refine wp_seq ?_
    refine wp_rl rfl ?_
    refine RL.box rfl s1 (fun w2 B3 hb4 szw2 => ?_)
    replace B3 : Blk w2 ws.heap.size 81 #[.int .i64 d1.agent, .int .i64 d1.slot] := B3
    have GB3 : ws.heap.size ≤ ws.heap.size := K.size
    have KZob5 := K.size
    have Eob5_obp3 := Nat.ne_of_lt hv3.lt
    have hv3 := blkT hv3 hb4
    have K := KeepV.below K hb4
    have T := Tt T hb4
    refine RL.alloc (z := .agg #[.int .i64 0, .int .i64 0, .slice none 0 0, .slice none 0 0]) rfl (by kernel_rfl) (fun w6 B7 hb8 szw6 => ?_)
    replace B7 : Blk w6 w2.heap.size 42 #[.int .i64 0, .int .i64 0, .slice none 0 0, .slice none 0 0] := B7
    have GB7 : ws.heap.size ≤ w2.heap.size := K.size
    have KZob9 := K.size
    have Eob9_obp3 := Nat.ne_of_lt hv3.lt
    have Eob9_ob5 := Nat.ne_of_lt B3.lt
    have hv3 := blkT hv3 hb8
    have B3 := blkT B3 hb8
    have K := KeepV.below K hb8
    have T := Tt T hb8
    refine RL.y rfl (Y.assign (v := .int .i64 0) rfl) ?_
    refine RL.nil ?_
    refine then_n ?_
    refine wp_seq ?_
    refine wp_seq ?_
    refine wp_rs rfl ?_
    refine RQ.y rfl (Y.move (v := .int .i64 d2) s2) ?_
    refine RQ.y rfl (Y.binI (v := .bool (decide (d2 > 80))) rfl rfl rfl) ?_
    refine RQ.y rfl (Y.move (v := .bool (decide (d2 > 80))) rfl) ?_
    rcases bcases (decide (d2 > 80)) with c10 | c10
    · replace hm := cF c10 hm
      have pc10 := of_decide_eq_false c10
      refine RQ.y (wantT (dj := 17) rfl (vb rfl c10)) (Y.move (v := .pointer (some ⟨pc3, 0, none⟩)) s3) ?_
      refine RQ.y (wantT (dj := 17) rfl (vb rfl c10)) (Y.nilCheck rfl) ?_
      refine RQ.y (wantT (dj := 17) rfl (vb rfl c10)) (Y.load (v := .int .i64 d3) rfl (by kernel_rfl) (eqC (blkCell hv3 (i := 0) rfl))) ?_
      refine RQ.y (wantT (dj := 17) rfl (vb rfl c10)) (Y.binI (v := .bool (d3 == 400)) rfl rfl rfl) ?_
      refine RQ.y rfl (Y.pick (b := false) (v := .bool (d3 == 400)) (vb rfl c10) rfl) ?_
      refine RQ.nil ?_
      refine then_n ?_
      rcases bcases (d3 == 400) with c11 | c11
      · replace hm := cF c11 hm
        refine cond_f rfl (vb rfl c11) ?_
        refine wp_skip ?_
        refine then_n ?_
        refine wp_seq ?_
        refine wp_rl rfl ?_
        refine RL.y rfl (Y.move (v := .pointer (some ⟨pc3, 0, none⟩)) s3) ?_
        refine RL.y rfl (Y.nilCheck rfl) ?_
        refine RL.y rfl (Y.load (v := .int .i64 d3) rfl (by kernel_rfl) (eqC (blkCell hv3 (i := 0) rfl))) ?_
        obtain ⟨s12, ks12, hm⟩ := bnd hm
        replace ks12 := ck_some ks12
        refine RL.y rfl (Y.binI (v := .int .i64 s12) rfl rfl (by rw [binI_add ks12.2, ks12.1])) ?_
        refine RL.y rfl (Y.nilCheck rfl) ?_
        refine RL.store (v := .int .i64 s12) (cs' := #[.int .i64 s12]) rfl rfl rfl hv3 (by kernel_rfl) (by rfl) (by rfl) (by rfl) (fun w13 B14 ho15 => ?_)
        have szw13 := ho15.size
        have B3 := B3.only_ ho15 (by intro hin; simp at hin; exact Eob5_obp3.symm hin)
        have B7 := B7.only_ ho15 (by intro hin; simp at hin; exact Eob9_obp3.symm hin)
        have K := KeepV.only1 K ho15 rfl
        have T := T.trans (ho15.below (by first | (simp; done) | (simp; omega)))
        refine RL.nil ?_
        refine then_n ?_
        refine wp_seq ?_
        refine wp_rgt (fun w' => Below w.heap.size w w' ∧ Blk w' ws.heap.size 81 #[.int .i64 d1.agent, .int .i64 d1.slot]) (.q 0 (.q 1 (.q 2 (.q 3 (.q 4 (.q 5 (.two 6 (.q 7 (.q 8 (.q 9 (.a 10 (.a 11 .nil))))) 10 (.a 6 (.q 7 (.q 8 (.q 9 (.a 11 .nil)))))))))))) (by kernel_rfl) (by kernel_rfl) (fun w16 hb17 szw16 => ?_)
        have B14 := blkT B14 hb17
        have B3 := blkT B3 hb17
        have B7 := blkT B7 hb17
        have K := KeepV.below K hb17
        have T := Tt T hb17
        refine ⟨⟨T, B3⟩, ?_⟩
        refine RT.y rfl rfl (Y.move (v := .pointer (some ⟨ba0, oa0, none⟩)) s0) ?_
        refine RT.y rfl rfl (Y.nilCheck rfl) ?_
        refine RT.y rfl rfl (Y.fieldAddr (off := 0) rfl (by kernel_rfl)) ?_
        refine RT.y rfl rfl (Y.load (v := .slice A1 d0.agents.length c1) rfl (by kernel_rfl) (fun w' hS => (cellT hS.1 (hca0 0 _ rfl)))) ?_
        refine RT.y rfl rfl (Y.move (v := .pointer (some ⟨ba0, oa0, none⟩)) s0) ?_
        refine RT.y rfl rfl (Y.loadN (cs := [.int .i64 d1.agent, .int .i64 d1.slot]) rfl (by kernel_rfl) (cells2 (fun w' hS => (blkCell hS.2 (i := 0) rfl)) (fun w' hS => (blkCell hS.2 (i := 1) rfl)))) ?_
        refine RT.both rfl rfl ?_ ?_
        · obtain ⟨y18, e19, hm⟩ := bnd hm
          refine RL.call rfl (am2 rfl rfl) (by kernel_rfl) ((c_m_impl_Net_peer d0 d1 _ e19 _ _ (ptArg netRd_ok hba0 hSa0 hca0 T)).mono ?_)
          rintro _ w20 ⟨rfl, hb21⟩
          refine ⟨_, rfl, ?_⟩
          have szw20 := hb21.size
          have B14 := blkT B14 hb21
          have B3 := blkT B3 hb21
          have B7 := blkT B7 hb21
          have K := KeepV.below K hb21
          have T := Tt T hb21
          refine RL.nil ⟨⟨T, B3⟩, ?_⟩
          refine RT.y rfl rfl (Y.field (i := 0) (v := .int .i64 y18.agent) rfl (by kernel_rfl)) ?_
          obtain ⟨x22, hx25, hm⟩ := bnd hm
          obtain ⟨k23, hk26, hl27, hx25⟩ := getI_some hx25
          obtain ⟨b29, o30, rfl, hbb29⟩ := h1.addr (by omega)
          obtain ⟨cs24, hRcs24, hc28⟩ := h1.el hx25
          have hScs24 := hRcs24
          obtain ⟨A31, n31, c31, A32, n32, c32, rfl, ⟨h31, r31⟩, ⟨h32, r32⟩⟩ := hRcs24
          have e31 := h31.len; subst e31
          have q31 := len_le r31
          have e32 := h32.len; subst e32
          have q32 := len_le r32
          refine RT.y rfl rfl (Y.indexAddr (m := k23) (sz := 5) rfl rfl hk26 hl27 (by kernel_rfl)) ?_
          refine RT.y rfl rfl (Y.loadN (cs := [.int .i64 x22.kind, .int .i64 x22.level, .int .i64 x22.value, .slice A31 x22.data.length c31, .slice A32 x22.ports.length c32]) rfl (by kernel_rfl) (cells5 (fun w' hS => (cellT hS.1 (hc28 0 _ rfl))) (fun w' hS => (cellT hS.1 (hc28 1 _ rfl))) (fun w' hS => (cellT hS.1 (hc28 2 _ rfl))) (fun w' hS => (cellT hS.1 (hc28 3 _ rfl))) (fun w' hS => (cellT hS.1 (hc28 4 _ rfl))))) ?_
          refine RT.act rfl ?_
          refine RL.alloc (z := .agg #[.int .i64 0, .int .i64 0, .int .i64 0, .slice none 0 0, .slice none 0 0]) rfl (by kernel_rfl) (fun w33 B34 hb35 szw33 => ?_)
          replace B34 : Blk w33 w20.heap.size 122 #[.int .i64 0, .int .i64 0, .int .i64 0, .slice none 0 0, .slice none 0 0] := B34
          have GB34 : ws.heap.size ≤ w20.heap.size := K.size
          have KZob36 := K.size
          have Eob36_obp3 := Nat.ne_of_lt B14.lt
          have Eob36_ob5 := Nat.ne_of_lt B3.lt
          have Eob36_ob9 := Nat.ne_of_lt B7.lt
          have B14 := blkT B14 hb35
          have B3 := blkT B3 hb35
          have B7 := blkT B7 hb35
          have K := KeepV.below K hb35
          have T := Tt T hb35
          refine RL.nil ⟨⟨T, B3⟩, ?_⟩
          refine RT.act rfl ?_
          refine RL.store (v := .agg #[.int .i64 x22.kind, .int .i64 x22.level, .int .i64 x22.value, .slice A31 x22.data.length c31, .slice A32 x22.ports.length c32]) (cs' := #[.int .i64 x22.kind, .int .i64 x22.level, .int .i64 x22.value, .slice A31 x22.data.length c31, .slice A32 x22.ports.length c32]) rfl rfl rfl B34 (by kernel_rfl) (by rfl) (by rfl) (by rfl) (fun w37 B38 ho39 => ?_)
          have szw37 := ho39.size
          have B14 := B14.only_ ho39 (by intro hin; simp at hin; exact Eob36_obp3 hin)
          have B3 := B3.only_ ho39 (by intro hin; simp at hin; exact Eob36_ob5 hin)
          have B7 := B7.only_ ho39 (by intro hin; simp at hin; exact Eob36_ob9 hin)
          have K := KeepV.far K ho39 KZob36
          have T := T.trans (ho39.below (by first | (simp; done) | (simp; omega)))
          refine RL.nil ⟨⟨T, B3⟩, ?_⟩
          refine RT.nil_ ?_
          refine then_n ?_
          refine wp_seq ?_
          refine wp_seq ?_
          refine wp_rb rfl ?_
          refine RQ.y rfl (Y.move (v := .pointer (some ⟨ba0, oa0, none⟩)) s0) ?_
          refine RQ.y rfl (Y.loadN (cs := [.int .i64 d1.agent, .int .i64 d1.slot]) rfl (by kernel_rfl) (cells2 (beC (blkCell B3 (i := 0) rfl)) (beC (blkCell B3 (i := 1) rfl)))) ?_
          obtain ⟨y40, e41, hm⟩ := bnd hm
          refine RQ.call rfl (am2 rfl rfl) (by kernel_rfl) (v := .bool y40) (bel (K := fun _ => True) fun w' hb' => (c_m_impl_Net_isKnown d0 d1 _ e41 _ w' (ptArg netRd_ok hba0 hSa0 hca0 (Tt T hb')))) ?_
          refine RQ.y rfl (Y.not (b' := (!y40)) rfl rfl) ?_
          refine RQ.y rfl (Y.move (v := .bool (!y40)) rfl) ?_
          rcases bcases y40 with c42 | c42
          · replace hm := cF c42 hm
            refine RQ.skip (wantN (dj := 43) rfl (vbn rfl c42 rfl) rfl) ?_
            refine RQ.skip (wantN (dj := 43) rfl (vbn rfl c42 rfl) rfl) ?_
            refine RQ.skip (wantN (dj := 43) rfl (vbn rfl c42 rfl) rfl) ?_
            refine RQ.y rfl (Y.pick (b := true) (v := .bool true) (vbn rfl c42 rfl) rfl) ?_
            refine RQ.nil ?_
            intro w43 hb44
            have szw43 := hb44.size
            have B14 := blkT B14 hb44
            have B3 := blkT B3 hb44
            have B7 := blkT B7 hb44
            have B38 := blkT B38 hb44
            have K := KeepV.below K hb44
            have T := Tt T hb44
            refine then_n ?_
            refine cond_t rfl rfl ?_
            refine wp_seq ?_
            refine wp_rl rfl ?_
            refine RL.y rfl (Y.build0 (cells := #[.int .i64 0, .int .i64 0, .slice none 0 0, .slice none 0 0])  (by kernel_rfl) (by kernel_rfl)) ?_
            refine RL.store (v := .agg #[.int .i64 0, .int .i64 0, .slice none 0 0, .slice none 0 0]) (cs' := #[.int .i64 0, .int .i64 0, .slice none 0 0, .slice none 0 0]) rfl rfl rfl B7 (by kernel_rfl) (by rfl) (by rfl) (by rfl) (fun w45 B46 ho47 => ?_)
            have szw45 := ho47.size
            have B14 := B14.only_ ho47 (by intro hin; simp at hin; exact Eob9_obp3 hin)
            have B3 := B3.only_ ho47 (by intro hin; simp at hin; exact Eob9_ob5 hin)
            have B38 := B38.only_ ho47 (by intro hin; simp at hin; exact Eob36_ob9.symm hin)
            have K := KeepV.far K ho47 KZob9
            have T := T.trans (ho47.below (by first | (simp; done) | (simp; omega)))
            refine RL.y rfl (Y.assign (v := .int .i64 5) rfl) ?_
            refine RL.nil ?_
            refine then_n ?_
            refine wp_ret ?_
            obtain rfl := Option.some.inj hm
            exact (then_r (retct (cs := [.int .i64 0, .int .i64 0, .slice none 0 0, .slice none 0 0]) rfl rfl rfl rfl (by kernel_rfl) (blkCells B46) ⟨⟨_, _, _, rfl, OwF.nil, OwN.nil, Ap.nil⟩, B14, K, T⟩))
          · replace hm := cT c42 hm
            refine RQ.y (wantT (dj := 43) rfl (vbn rfl c42 rfl)) (Y.fieldAddr (off := 0) rfl (by kernel_rfl)) ?_
            refine RQ.y (wantT (dj := 43) rfl (vbn rfl c42 rfl)) (Y.load (v := .int .i64 x22.kind) rfl (by kernel_rfl) (beC (blkCell B38 (i := 0) rfl))) ?_
            refine RQ.y (wantT (dj := 43) rfl (vbn rfl c42 rfl)) (Y.binI (v := .bool (x22.kind == 2)) rfl rfl rfl) ?_
            refine RQ.y rfl (Y.pick (b := false) (v := .bool (x22.kind == 2)) (vbn rfl c42 rfl) rfl) ?_
            refine RQ.nil ?_
            intro w48 hb49
            have szw48 := hb49.size
            have B14 := blkT B14 hb49
            have B3 := blkT B3 hb49
            have B7 := blkT B7 hb49
            have B38 := blkT B38 hb49
            have K := KeepV.below K hb49
            have T := Tt T hb49
            refine then_n ?_
            rcases bcases (x22.kind == 2) with c50 | c50
            · replace hm := cF c50 hm
              refine cond_f rfl (vb rfl c50) ?_
              refine wp_skip ?_
              refine then_n ?_
              refine wp_seq ?_
              refine wp_seq ?_
              refine wp_rs rfl ?_
              refine RQ.y rfl (Y.fieldAddr (off := 0) rfl (by kernel_rfl)) ?_
              refine RQ.y rfl (Y.load (v := .int .i64 x22.kind) rfl (by kernel_rfl) (eqC (blkCell B38 (i := 0) rfl))) ?_
              refine RQ.nil ?_
              refine then_n ?_
              refine wp_block ?_
              refine wp_seq ?_
              refine wp_rs rfl ?_
              refine RQ.y rfl (Y.binI (v := .bool (x22.kind == 6)) rfl rfl rfl) ?_
              refine RQ.y rfl (Y.assign (v := .bool (x22.kind == 6)) rfl) ?_
              refine RQ.nil ?_
              refine then_n ?_
              rcases bcases (x22.kind == 6) with c51 | c51
              · replace hm := cF c51 hm
                refine cond_f rfl (vb rfl c51) ?_
                refine wp_seq ?_
                refine wp_rs rfl ?_
                refine RQ.y rfl (Y.binI (v := .bool (x22.kind == 12)) rfl rfl rfl) ?_
                refine RQ.y rfl (Y.assign (v := .bool (x22.kind == 12)) rfl) ?_
                refine RQ.nil ?_
                refine then_n ?_
                rcases bcases (x22.kind == 12) with c52 | c52
                · replace hm := cF c52 hm
                  refine cond_f rfl (vb rfl c52) ?_
                  refine wp_skip ?_
                  refine blk_n (then_n ?_)
                  refine wp_seq ?_
                  refine wp_rl rfl ?_
                  refine RL.y rfl (Y.fieldAddr (off := 2) rfl (by kernel_rfl)) ?_
                  refine RL.y rfl (Y.load (v := .int .i64 x22.value) rfl (by kernel_rfl) (eqC (blkCell B38 (i := 2) rfl))) ?_
                  refine RL.y rfl (Y.build2 (cells := #[.int .i64 8, .int .i64 x22.value, .slice none 0 0, .slice none 0 0]) rfl rfl (by kernel_rfl) (by kernel_rfl)) ?_
                  refine RL.alloc (z := .agg #[.int .i64 0, .int .i64 0, .slice none 0 0, .slice none 0 0]) rfl (by kernel_rfl) (fun w53 B54 hb55 szw53 => ?_)
                  replace B54 : Blk w53 w48.heap.size 42 #[.int .i64 0, .int .i64 0, .slice none 0 0, .slice none 0 0] := B54
                  have GB54 : ws.heap.size ≤ w48.heap.size := K.size
                  have KZob56 := K.size
                  have Eob56_obp3 := Nat.ne_of_lt B14.lt
                  have Eob56_ob5 := Nat.ne_of_lt B3.lt
                  have Eob56_ob9 := Nat.ne_of_lt B7.lt
                  have Eob56_ob36 := Nat.ne_of_lt B38.lt
                  have B14 := blkT B14 hb55
                  have B3 := blkT B3 hb55
                  have B7 := blkT B7 hb55
                  have B38 := blkT B38 hb55
                  have K := KeepV.below K hb55
                  have T := Tt T hb55
                  refine RL.store (v := .agg #[.int .i64 8, .int .i64 x22.value, .slice none 0 0, .slice none 0 0]) (cs' := #[.int .i64 8, .int .i64 x22.value, .slice none 0 0, .slice none 0 0]) rfl rfl rfl B54 (by kernel_rfl) (by rfl) (by rfl) (by rfl) (fun w57 B58 ho59 => ?_)
                  have szw57 := ho59.size
                  have B14 := B14.only_ ho59 (by intro hin; simp at hin; exact Eob56_obp3 hin)
                  have B3 := B3.only_ ho59 (by intro hin; simp at hin; exact Eob56_ob5 hin)
                  have B7 := B7.only_ ho59 (by intro hin; simp at hin; exact Eob56_ob9 hin)
                  have B38 := B38.only_ ho59 (by intro hin; simp at hin; exact Eob56_ob36 hin)
                  have K := KeepV.far K ho59 KZob56
                  have T := T.trans (ho59.below (by first | (simp; done) | (simp; omega)))
                  refine RL.nil ?_
                  refine then_n ?_
                  refine wp_seq ?_
                  refine wp_seq ?_
                  refine wp_rs rfl ?_
                  refine RQ.y rfl (Y.assign (v := .int .i64 1) rfl) ?_
                  refine RQ.nil ?_
                  refine then_n ?_
                  refine wp_block ?_
                  obtain ⟨K1, hK1, hm⟩ : ∃ K, K = m_impl_Net_data_A1 ∧ m_impl_Net_data_L1 d0 d1 d2 self x22 K (x22.ports.length + 1) 1 s12 (⟨0, 0, [], []⟩ : DCore) (⟨8, x22.value, [], []⟩ : DCore) = some r := ⟨_, rfl, hm⟩
                  refine wp_loopX (fun g f w' => ∃ (i71 : Int) (z72 : Int) (z73 : DCore) (z74 : DCore) (uz73_0 : Value) (uz73_1 : Value) (bsz73_1 : List Nat) (uz74_0 : Value) (uz74_1 : Value) (bsz74_1 : List Nat), f 0 = .pointer (some ⟨ba0, oa0, none⟩) ∧ f 2 = .int .i64 d2 ∧ f 3 = .pointer (some ⟨pc3, 0, none⟩) ∧ f 5 = .pointer (some ⟨ws.heap.size, 0, none⟩) ∧ f 8 = .pointer (some ⟨w2.heap.size, 0, none⟩) ∧ f 10 = .pointer (some ⟨w20.heap.size, 0, none⟩) ∧ f 11 = .pointer (some ⟨w48.heap.size, 0, none⟩) ∧ f 12 = .int .i64 i71 ∧ 0 ≤ i71 ∧ Blk w' pc3 3 #[.int .i64 z72] ∧ Blk w' w2.heap.size 42 #[.int .i64 z73.kind, .int .i64 z73.value, uz73_0, uz73_1] ∧ OwF 2 encI 1 w' ws.heap.size uz73_0 z73.data ∧ OwN 42 coreOw 4 w' ws.heap.size uz73_1 z73.kids bsz73_1 ∧ Blk w' w48.heap.size 42 #[.int .i64 z74.kind, .int .i64 z74.value, uz74_0, uz74_1] ∧ OwF 2 encI 1 w' ws.heap.size uz74_0 z74.data ∧ OwN 42 coreOw 4 w' ws.heap.size uz74_1 z74.kids bsz74_1 ∧ Value.ownBlock uz73_0 ≠ some pc3 ∧ Value.ownBlock uz73_0 ≠ some ws.heap.size ∧ Value.ownBlock uz73_0 ≠ some w2.heap.size ∧ Value.ownBlock uz73_0 ≠ some w20.heap.size ∧ Value.ownBlock uz73_0 ≠ some w48.heap.size ∧ Ap bsz73_1 (fb uz73_0) ∧ Ap bsz73_1 [pc3] ∧ Ap bsz73_1 [ws.heap.size] ∧ Ap bsz73_1 [w2.heap.size] ∧ Ap bsz73_1 [w20.heap.size] ∧ Ap bsz73_1 [w48.heap.size] ∧ Dj uz74_0 uz73_0 ∧ Ap (fb uz74_0) bsz73_1 ∧ Value.ownBlock uz74_0 ≠ some pc3 ∧ Value.ownBlock uz74_0 ≠ some ws.heap.size ∧ Value.ownBlock uz74_0 ≠ some w2.heap.size ∧ Value.ownBlock uz74_0 ≠ some w20.heap.size ∧ Value.ownBlock uz74_0 ≠ some w48.heap.size ∧ Ap bsz74_1 (fb uz73_0) ∧ Ap bsz74_1 bsz73_1 ∧ Ap bsz74_1 (fb uz74_0) ∧ Ap bsz74_1 [pc3] ∧ Ap bsz74_1 [ws.heap.size] ∧ Ap bsz74_1 [w2.heap.size] ∧ Ap bsz74_1 [w20.heap.size] ∧ Ap bsz74_1 [w48.heap.size] ∧ Blk w' ws.heap.size 81 #[.int .i64 d1.agent, .int .i64 d1.slot] ∧ Blk w' w20.heap.size 122 #[.int .i64 x22.kind, .int .i64 x22.level, .int .i64 x22.value, .slice A31 x22.data.length c31, .slice A32 x22.ports.length c32] ∧ KeepV (.slice (some ⟨pc3, 0, none⟩) 1 1) (.slice (some ⟨pc3, 0, none⟩) 1 1) ws w' ∧ Below w.heap.size w w' ∧ m_impl_Net_data_L1 d0 d1 d2 self x22 K1 g i71 z72 z73 z74 = some r) 1 (fun f w' => ∃ (z60 : Int) (z61 : DCore) (z62 : DCore) (uz61_0 : Value) (uz61_1 : Value) (bsz61_1 : List Nat) (uz62_0 : Value) (uz62_1 : Value) (bsz62_1 : List Nat), f 3 = .pointer (some ⟨pc3, 0, none⟩) ∧ f 8 = .pointer (some ⟨w2.heap.size, 0, none⟩) ∧ f 11 = .pointer (some ⟨w48.heap.size, 0, none⟩) ∧ Blk w' pc3 3 #[.int .i64 z60] ∧ Blk w' w2.heap.size 42 #[.int .i64 z61.kind, .int .i64 z61.value, uz61_0, uz61_1] ∧ OwF 2 encI 1 w' ws.heap.size uz61_0 z61.data ∧ OwN 42 coreOw 4 w' ws.heap.size uz61_1 z61.kids bsz61_1 ∧ Blk w' w48.heap.size 42 #[.int .i64 z62.kind, .int .i64 z62.value, uz62_0, uz62_1] ∧ OwF 2 encI 1 w' ws.heap.size uz62_0 z62.data ∧ OwN 42 coreOw 4 w' ws.heap.size uz62_1 z62.kids bsz62_1 ∧ Value.ownBlock uz61_0 ≠ some pc3 ∧ Value.ownBlock uz61_0 ≠ some ws.heap.size ∧ Value.ownBlock uz61_0 ≠ some w2.heap.size ∧ Value.ownBlock uz61_0 ≠ some w20.heap.size ∧ Value.ownBlock uz61_0 ≠ some w48.heap.size ∧ Ap bsz61_1 (fb uz61_0) ∧ Ap bsz61_1 [pc3] ∧ Ap bsz61_1 [ws.heap.size] ∧ Ap bsz61_1 [w2.heap.size] ∧ Ap bsz61_1 [w20.heap.size] ∧ Ap bsz61_1 [w48.heap.size] ∧ Dj uz62_0 uz61_0 ∧ Ap (fb uz62_0) bsz61_1 ∧ Value.ownBlock uz62_0 ≠ some pc3 ∧ Value.ownBlock uz62_0 ≠ some ws.heap.size ∧ Value.ownBlock uz62_0 ≠ some w2.heap.size ∧ Value.ownBlock uz62_0 ≠ some w20.heap.size ∧ Value.ownBlock uz62_0 ≠ some w48.heap.size ∧ Ap bsz62_1 (fb uz61_0) ∧ Ap bsz62_1 bsz61_1 ∧ Ap bsz62_1 (fb uz62_0) ∧ Ap bsz62_1 [pc3] ∧ Ap bsz62_1 [ws.heap.size] ∧ Ap bsz62_1 [w2.heap.size] ∧ Ap bsz62_1 [w20.heap.size] ∧ Ap bsz62_1 [w48.heap.size] ∧ Blk w' ws.heap.size 81 #[.int .i64 d1.agent, .int .i64 d1.slot] ∧ Blk w' w20.heap.size 122 #[.int .i64 x22.kind, .int .i64 x22.level, .int .i64 x22.value, .slice A31 x22.data.length c31, .slice A32 x22.ports.length c32] ∧ KeepV (.slice (some ⟨pc3, 0, none⟩) 1 1) (.slice (some ⟨pc3, 0, none⟩) 1 1) ws w' ∧ Below w.heap.size w w' ∧ m_impl_Net_data_A1 z60 z61 z62 = some r) (x22.ports.length + 1) ⟨1, s12, (⟨0, 0, [], []⟩ : DCore), (⟨8, x22.value, [], []⟩ : DCore), (.slice none 0 0), (.slice none 0 0), [], (.slice none 0 0), (.slice none 0 0), [], s0, s2, s3, rfl, rfl, rfl, rfl, rfl, (by omega), B14, B7, OwF.nil, OwN.nil, B58, OwF.nil, OwN.nil, nilNe (b := pc3), nilNe (b := ws.heap.size), nilNe (b := w2.heap.size), nilNe (b := w20.heap.size), nilNe (b := w48.heap.size), Ap.nil, Ap.nil, Ap.nil, Ap.nil, Ap.nil, Ap.nil, Dj.nil, Ap.nil, nilNe (b := pc3), nilNe (b := ws.heap.size), nilNe (b := w2.heap.size), nilNe (b := w20.heap.size), nilNe (b := w48.heap.size), Ap.nil, Ap.nil, Ap.nil, Ap.nil, Ap.nil, Ap.nil, Ap.nil, Ap.nil, B3, B38, K, T, hm⟩ ?_ ?_
                  · rintro f w63 ⟨z60, z61, z62, uz61_0, uz61_1, bsz61_1, uz62_0, uz62_1, bsz62_1, s3_1x, s8_1x, s11_1x, Bz60, Bz61, Guz61_0, Guz61_1, Bz62, Guz62_0, Guz62_1, Noz61_0_obp3, Noz61_0_ob5, Noz61_0_ob9, Noz61_0_ob36, Noz61_0_ob56, Doz61_1_oz61_0, Noz61_1_obp3, Noz61_1_ob5, Noz61_1_ob9, Noz61_1_ob36, Noz61_1_ob56, Doz62_0_oz61_0, Doz62_0_oz61_1, Noz62_0_obp3, Noz62_0_ob5, Noz62_0_ob9, Noz62_0_ob36, Noz62_0_ob56, Doz62_1_oz61_0, Doz62_1_oz61_1, Doz62_1_oz62_0, Noz62_1_obp3, Noz62_1_ob5, Noz62_1_ob9, Noz62_1_ob36, Noz62_1_ob56, B3, B38, K, T, hm⟩
                    unfold m_impl_Net_data_A1 at hm
                    refine blk_hit (then_n ?_)
                    refine wp_seq ?_
                    refine wp_rl rfl ?_
                    refine RL.y rfl (Y.loadN (cs := [.int .i64 z62.kind, .int .i64 z62.value, uz62_0, uz62_1]) s11_1x (by kernel_rfl) (cells4 (eqC (blkCell Bz62 (i := 0) rfl)) (eqC (blkCell Bz62 (i := 1) rfl)) (eqC (blkCell Bz62 (i := 2) rfl)) (eqC (blkCell Bz62 (i := 3) rfl)))) ?_
                    obtain ⟨A64, c65, rfl⟩ := OwF.form Guz62_0
                    have qbA64 := OwF.bound Guz62_0
                    obtain ⟨A66, c67, rfl⟩ := OwN.form Guz62_1
                    have qbA66 := OwN.bound Guz62_1
                    refine RL.store (v := .agg #[.int .i64 z62.kind, .int .i64 z62.value, .slice A64 z62.data.length c65, .slice A66 z62.kids.length c67]) (cs' := #[.int .i64 z62.kind, .int .i64 z62.value, .slice A64 z62.data.length c65, .slice A66 z62.kids.length c67]) rfl s8_1x rfl Bz61 (by kernel_rfl) (by rfl) (by rfl) (by rfl) (fun w68 B69 ho70 => ?_)
                    have szw68 := ho70.size
                    have Bz60 := Bz60.only_ ho70 (by intro hin; simp at hin; exact Eob9_obp3 hin)
                    have B3 := B3.only_ ho70 (by intro hin; simp at hin; exact Eob9_ob5 hin)
                    have B38 := B38.only_ ho70 (by intro hin; simp at hin; exact Eob36_ob9.symm hin)
                    have Bz62 := Bz62.only_ ho70 (by intro hin; simp at hin; exact Eob56_ob9.symm hin)
                    have Guz61_0 := OwF.only Guz61_0 ho70 Noz61_0_ob9
                    have Guz61_1 := OwN.only coreOw_ok Guz61_1 ho70 (Ap.one Noz61_1_ob9)
                    have Guz62_0 := OwF.only Guz62_0 ho70 Noz62_0_ob9
                    have Guz62_1 := OwN.only coreOw_ok Guz62_1 ho70 (Ap.one Noz62_1_ob9)
                    have K := KeepV.far K ho70 KZob9
                    have T := T.trans (ho70.below (by first | (simp; done) | (simp; omega)))
                    refine RL.y rfl (Y.assign (v := .int .i64 0) rfl) ?_
                    refine RL.nil ?_
                    refine then_n ?_
                    refine wp_ret ?_
                    obtain rfl := Option.some.inj hm
                    exact (retct (cs := [.int .i64 z62.kind, .int .i64 z62.value, .slice A64 z62.data.length c65, .slice A66 z62.kids.length c67]) rfl rfl s8_1x rfl (by kernel_rfl) (blkCells B69) ⟨⟨_, _, _, rfl, Guz62_0, Guz62_1, (Ap.symm Doz62_1_oz62_0)⟩, Bz60, K, T⟩)
                  · rintro g f w75 ⟨i71, z72, z73, z74, uz73_0, uz73_1, bsz73_1, uz74_0, uz74_1, bsz74_1, s0_1, s2_1, s3_1, s5_1, s8_1, s10_1, s11_1, s12_1, nn12_1, Bz72, Bz73, Guz73_0, Guz73_1, Bz74, Guz74_0, Guz74_1, Noz73_0_obp3, Noz73_0_ob5, Noz73_0_ob9, Noz73_0_ob36, Noz73_0_ob56, Doz73_1_oz73_0, Noz73_1_obp3, Noz73_1_ob5, Noz73_1_ob9, Noz73_1_ob36, Noz73_1_ob56, Doz74_0_oz73_0, Doz74_0_oz73_1, Noz74_0_obp3, Noz74_0_ob5, Noz74_0_ob9, Noz74_0_ob36, Noz74_0_ob56, Doz74_1_oz73_0, Doz74_1_oz73_1, Doz74_1_oz74_0, Noz74_1_obp3, Noz74_1_ob5, Noz74_1_ob9, Noz74_1_ob36, Noz74_1_ob56, B3, B38, K, T, hm⟩
                    rcases g with _ | g
                    · simp only [m_impl_Net_data_L1] at hm; cases hm
                    obtain ⟨rec1, hrec1, hm⟩ : ∃ z, z = m_impl_Net_data_L1 d0 d1 d2 self x22 K1 g ∧ m_impl_Net_data_B1 d0 d1 d2 self x22 z K1 i71 z72 z73 z74 = some r := ⟨_, rfl, hm⟩
                    unfold m_impl_Net_data_B1 at hm
                    refine wp_seq ?_
                    refine wp_seq ?_
                    refine wp_rs rfl ?_
                    refine RQ.y rfl (Y.move (v := .int .i64 i71) s12_1) ?_
                    refine RQ.y rfl (Y.fieldAddr (off := 4) s10_1 (by kernel_rfl)) ?_
                    refine RQ.y rfl (Y.load (v := .slice A32 x22.ports.length c32) rfl (by kernel_rfl) (eqC (blkCell B38 (i := 4) rfl))) ?_
                    refine RQ.y rfl (Y.len (by kernel_rfl) rfl) ?_
                    refine RQ.y rfl (Y.binI (v := .bool (decide (i71 < (x22.ports.length : Int)))) rfl rfl rfl) ?_
                    refine RQ.nil ?_
                    refine then_n ?_
                    rcases bcases (decide (i71 < (x22.ports.length : Int))) with c76 | c76
                    · replace hm := cF c76 hm
                      have pc76 := of_decide_eq_false c76
                      refine cond_f rfl (vb rfl c76) ?_
                      refine wp_exit ?_
                      exact (then_x (then_x (hit_x ⟨_, rfl, ⟨z72, z73, z74, (uz73_0), (uz73_1), bsz73_1, (uz74_0), (uz74_1), bsz74_1, s3_1, s8_1, s11_1, Bz72, Bz73, Guz73_0, Guz73_1, Bz74, Guz74_0, Guz74_1, (ap_ne (ne_ap Noz73_0_obp3)), (ap_ne (ne_ap Noz73_0_ob5)), (ap_ne (ne_ap Noz73_0_ob9)), (ap_ne (ne_ap Noz73_0_ob36)), (ap_ne (ne_ap Noz73_0_ob56)), Doz73_1_oz73_0, Noz73_1_obp3, Noz73_1_ob5, Noz73_1_ob9, Noz73_1_ob36, Noz73_1_ob56, (Ap.dj (Dj.ap Doz74_0_oz73_0)), Doz74_0_oz73_1, (ap_ne (ne_ap Noz74_0_obp3)), (ap_ne (ne_ap Noz74_0_ob5)), (ap_ne (ne_ap Noz74_0_ob9)), (ap_ne (ne_ap Noz74_0_ob36)), (ap_ne (ne_ap Noz74_0_ob56)), Doz74_1_oz73_0, Doz74_1_oz73_1, Doz74_1_oz74_0, Noz74_1_obp3, Noz74_1_ob5, Noz74_1_ob9, Noz74_1_ob36, Noz74_1_ob56, B3, B38, K, T, (by rw [hK1] at hm; exact hm)⟩⟩)))
                    · replace hm := cT c76 hm
                      have pc76 := of_decide_eq_true c76
                      refine cond_t rfl (vb rfl c76) ?_
                      refine wp_skip ?_
                      refine then_n ?_
                      refine wp_seq ?_
                      refine wp_block ?_
                      refine wp_seq ?_
                      refine wp_rl rfl ?_
                      refine RL.y rfl (Y.move (v := .pointer (some ⟨ba0, oa0, none⟩)) s0_1) ?_
                      refine RL.y rfl (Y.move (v := .pointer (some ⟨ba0, oa0, none⟩)) s0_1) ?_
                      refine RL.y rfl (Y.loadN (cs := [.int .i64 d1.agent, .int .i64 d1.slot]) s5_1 (by kernel_rfl) (cells2 (eqC (blkCell B3 (i := 0) rfl)) (eqC (blkCell B3 (i := 1) rfl)))) ?_
                      obtain ⟨y77, e78, hm⟩ := bnd hm
                      refine RL.call rfl (am2 rfl rfl) (by kernel_rfl) ((c_m_impl_Net_peer d0 d1 _ e78 _ _ (ptArg netRd_ok hba0 hSa0 hca0 T)).mono ?_)
                      rintro _ w79 ⟨rfl, hb80⟩
                      refine ⟨_, rfl, ?_⟩
                      have szw79 := hb80.size
                      have Bz72 := blkT Bz72 hb80
                      have B3 := blkT B3 hb80
                      have Bz73 := blkT Bz73 hb80
                      have B38 := blkT B38 hb80
                      have Bz74 := blkT Bz74 hb80
                      have Guz73_0 := OwF.below Guz73_0 hb80
                      have Guz73_1 := OwN.below coreOw_ok Guz73_1 hb80
                      have Guz74_0 := OwF.below Guz74_0 hb80
                      have Guz74_1 := OwN.below coreOw_ok Guz74_1 hb80
                      have K := KeepV.below K hb80
                      have T := Tt T hb80
                      refine RL.y rfl (Y.field (i := 0) (v := .int .i64 y77.agent) rfl (by kernel_rfl)) ?_
                      refine RL.y rfl (Y.move (v := .int .i64 i71) s12_1) ?_
                      refine RL.y rfl (Y.build2 (cells := #[.int .i64 y77.agent, .int .i64 i71]) rfl rfl (by kernel_rfl) (by kernel_rfl)) ?_
                      refine RL.y rfl (Y.move (v := .int .i64 d2) s2_1) ?_
                      obtain ⟨s81, ks81, hm⟩ := bnd hm
                      replace ks81 := ck_some ks81
                      refine RL.y rfl (Y.binI (v := .int .i64 s81) rfl rfl (by rw [binI_add ks81.2, ks81.1])) ?_
                      refine RL.y rfl (Y.move (v := .pointer (some ⟨pc3, 0, none⟩)) s3_1) ?_
                      obtain ⟨y82, e83, hm⟩ := bnd hm
                      refine RL.call rfl (am4 rfl rfl rfl rfl) (by kernel_rfl) ((ih d0 (⟨y77.agent, i71⟩ : DPort) s81 z72 _ (by rw [← hself]; exact e83) _ w w79 T (ptArg netRd_ok hba0 hSa0 hca0 (Below.refl _ _)) _ Bz72 hl3).mono ?_)
                      rintro _ w91 ⟨⟨v84, v87, bs90, rfl, G85, G88, Ro86_o89⟩, B94, K92, hb93⟩
                      refine ⟨_, rfl, ?_⟩
                      have szw91 := K92.size
                      have T0w91 := K.size
                      have Zo86_obp3 := ap_ne (Ap.new (OwF.flo G85) (one_hi Bz72.lt))
                      have Zo86_ob5 := ap_ne (Ap.new (OwF.flo G85) (one_hi B3.lt))
                      have Zo86_ob9 := ap_ne (Ap.new (OwF.flo G85) (one_hi Bz73.lt))
                      have Zo86_ob36 := ap_ne (Ap.new (OwF.flo G85) (one_hi B38.lt))
                      have Zo86_ob56 := ap_ne (Ap.new (OwF.flo G85) (one_hi Bz74.lt))
                      have Zo86_oz73_0 := Ap.dj (Ap.new (OwF.flo G85) (OwF.fhi Guz73_0))
                      have Zo86_oz73_1 : Ap (fb v84) bsz73_1 := (Ap.new (OwF.flo G85) (OwN.hi Guz73_1))
                      have Zo86_oz74_0 := Ap.dj (Ap.new (OwF.flo G85) (OwF.fhi Guz74_0))
                      have Zo86_oz74_1 : Ap (fb v84) bsz74_1 := (Ap.new (OwF.flo G85) (OwN.hi Guz74_1))
                      have Zo89_obp3 : Ap bs90 [pc3] := (Ap.new (OwN.lo_ G88) (one_hi Bz72.lt))
                      have Zo89_ob5 : Ap bs90 [ws.heap.size] := (Ap.new (OwN.lo_ G88) (one_hi B3.lt))
                      have Zo89_ob9 : Ap bs90 [w2.heap.size] := (Ap.new (OwN.lo_ G88) (one_hi Bz73.lt))
                      have Zo89_ob36 : Ap bs90 [w20.heap.size] := (Ap.new (OwN.lo_ G88) (one_hi B38.lt))
                      have Zo89_ob56 : Ap bs90 [w48.heap.size] := (Ap.new (OwN.lo_ G88) (one_hi Bz74.lt))
                      have Zo89_oz73_0 : Ap bs90 (fb uz73_0) := (Ap.new (OwN.lo_ G88) (OwF.fhi Guz73_0))
                      have Zo89_oz73_1 : Ap bs90 bsz73_1 := (Ap.new (OwN.lo_ G88) (OwN.hi Guz73_1))
                      have Zo89_oz74_0 : Ap bs90 (fb uz74_0) := (Ap.new (OwN.lo_ G88) (OwF.fhi Guz74_0))
                      have Zo89_oz74_1 : Ap bs90 bsz74_1 := (Ap.new (OwN.lo_ G88) (OwN.hi Guz74_1))
                      have B3 := Blk.keepV B3 K92 (cellNe Eob5_obp3.symm) (cellNe Eob5_obp3.symm)
                      have Bz73 := Blk.keepV Bz73 K92 (cellNe Eob9_obp3.symm) (cellNe Eob9_obp3.symm)
                      have B38 := Blk.keepV B38 K92 (cellNe Eob36_obp3.symm) (cellNe Eob36_obp3.symm)
                      have Bz74 := Blk.keepV Bz74 K92 (cellNe Eob56_obp3.symm) (cellNe Eob56_obp3.symm)
                      have Guz73_0 := OwF.keepV Guz73_0 K92 (cellDj Noz73_0_obp3) (cellDj Noz73_0_obp3)
                      have Guz73_1 := OwN.keepV coreOw_ok Guz73_1 K92 Noz73_1_obp3 Noz73_1_obp3
                      have Guz74_0 := OwF.keepV Guz74_0 K92 (cellDj Noz74_0_obp3) (cellDj Noz74_0_obp3)
                      have Guz74_1 := OwN.keepV coreOw_ok Guz74_1 K92 Noz74_1_obp3 Noz74_1_obp3
                      have T := hb93
                      have K := KeepV.tr K K92
                      replace G85 := OwF.mono G85 T0w91
                      replace G88 := OwN.mono G88 T0w91
                      refine RL.y rfl (Y.move (v := .tuple #[.agg #[.int .i64 y82.1.kind, .int .i64 y82.1.value, v84, v87], .int .i64 y82.2.1]) rfl) ?_
                      refine RL.y rfl (Y.extract (i := 0) rfl rfl) ?_
                      refine RL.y rfl (Y.extract (i := 1) rfl rfl) ?_
                      refine RL.alloc (z := .agg #[.int .i64 0, .int .i64 0, .slice none 0 0, .slice none 0 0]) rfl (by kernel_rfl) (fun w95 B96 hb97 szw95 => ?_)
                      replace B96 : Blk w95 w91.heap.size 42 #[.int .i64 0, .int .i64 0, .slice none 0 0, .slice none 0 0] := B96
                      have GB96 : ws.heap.size ≤ w91.heap.size := K.size
                      have KZob98 := K.size
                      have Eob98_obp3 := Nat.ne_of_lt B94.lt
                      have Eob98_ob5 := Nat.ne_of_lt B3.lt
                      have Eob98_ob9 := Nat.ne_of_lt Bz73.lt
                      have Eob98_ob36 := Nat.ne_of_lt B38.lt
                      have Eob98_ob56 := Nat.ne_of_lt Bz74.lt
                      have Noz73_0_ob98 := OwF.far Guz73_0 (Nat.le_refl _)
                      have Noz73_1_ob98 := Ap.far (OwN.hi Guz73_1)
                      have Noz74_0_ob98 := OwF.far Guz74_0 (Nat.le_refl _)
                      have Noz74_1_ob98 := Ap.far (OwN.hi Guz74_1)
                      have No86_ob98 := OwF.far G85 (Nat.le_refl _)
                      have No89_ob98 := Ap.far (OwN.hi G88)
                      have B94 := blkT B94 hb97
                      have B3 := blkT B3 hb97
                      have Bz73 := blkT Bz73 hb97
                      have B38 := blkT B38 hb97
                      have Bz74 := blkT Bz74 hb97
                      have Guz73_0 := OwF.below Guz73_0 hb97
                      have Guz73_1 := OwN.below coreOw_ok Guz73_1 hb97
                      have Guz74_0 := OwF.below Guz74_0 hb97
                      have Guz74_1 := OwN.below coreOw_ok Guz74_1 hb97
                      have G85 := OwF.below G85 hb97
                      have G88 := OwN.below coreOw_ok G88 hb97
                      have K := KeepV.below K hb97
                      have T := Tt T hb97
                      obtain ⟨A99, c100, rfl⟩ := OwF.form G85
                      have qbA99 := OwF.bound G85
                      obtain ⟨A101, c102, rfl⟩ := OwN.form G88
                      have qbA101 := OwN.bound G88
                      refine RL.store (v := .agg #[.int .i64 y82.1.kind, .int .i64 y82.1.value, .slice A99 y82.1.data.length c100, .slice A101 y82.1.kids.length c102]) (cs' := #[.int .i64 y82.1.kind, .int .i64 y82.1.value, .slice A99 y82.1.data.length c100, .slice A101 y82.1.kids.length c102]) rfl rfl rfl B96 (by kernel_rfl) (by rfl) (by rfl) (by rfl) (fun w103 B104 ho105 => ?_)
                      have szw103 := ho105.size
                      have B94 := B94.only_ ho105 (by intro hin; simp at hin; exact Eob98_obp3 hin)
                      have B3 := B3.only_ ho105 (by intro hin; simp at hin; exact Eob98_ob5 hin)
                      have Bz73 := Bz73.only_ ho105 (by intro hin; simp at hin; exact Eob98_ob9 hin)
                      have B38 := B38.only_ ho105 (by intro hin; simp at hin; exact Eob98_ob36 hin)
                      have Bz74 := Bz74.only_ ho105 (by intro hin; simp at hin; exact Eob98_ob56 hin)
                      have Guz73_0 := OwF.only Guz73_0 ho105 Noz73_0_ob98
                      have Guz73_1 := OwN.only coreOw_ok Guz73_1 ho105 (Ap.one Noz73_1_ob98)
                      have Guz74_0 := OwF.only Guz74_0 ho105 Noz74_0_ob98
                      have Guz74_1 := OwN.only coreOw_ok Guz74_1 ho105 (Ap.one Noz74_1_ob98)
                      have G85 := OwF.only G85 ho105 No86_ob98
                      have G88 := OwN.only coreOw_ok G88 ho105 (Ap.one No89_ob98)
                      have K := KeepV.far K ho105 KZob98
                      have T := T.trans (ho105.below (by first | (simp; done) | (simp; omega)))
                      refine RL.y rfl (Y.assign (v := .int .i64 y82.2.1) rfl) ?_
                      refine RL.nil ?_
                      refine then_n ?_
                      refine wp_seq ?_
                      refine wp_seq ?_
                      refine wp_rs rfl ?_
                      refine RQ.y rfl (Y.move (v := .int .i64 y82.2.1) rfl) ?_
                      refine RQ.y rfl (Y.binI (v := .bool (y82.2.1 != 0)) rfl rfl rfl) ?_
                      refine RQ.nil ?_
                      refine then_n ?_
                      rcases bcases (y82.2.1 != 0) with c106 | c106
                      · replace hm := cF c106 hm
                        refine cond_f rfl (vb rfl c106) ?_
                        refine wp_skip ?_
                        refine then_n ?_
                        refine wp_rl rfl ?_
                        refine RL.y rfl (Y.fieldAddr (off := 3) s11_1 (by kernel_rfl)) ?_
                        refine RL.y rfl (Y.load (v := uz74_1) rfl (by kernel_rfl) (eqC (blkCell Bz74 (i := 3) rfl))) ?_
                        refine RL.y rfl (Y.loadN (cs := [.int .i64 y82.1.kind, .int .i64 y82.1.value, .slice A99 y82.1.data.length c100, .slice A101 y82.1.kids.length c102]) rfl (by kernel_rfl) (cells4 (eqC (blkCell B104 (i := 0) rfl)) (eqC (blkCell B104 (i := 1) rfl)) (eqC (blkCell B104 (i := 2) rfl)) (eqC (blkCell B104 (i := 3) rfl)))) ?_
                        refine RL.bslice (e := 42) (cells := #[.int .i64 y82.1.kind, .int .i64 y82.1.value, .slice A99 y82.1.data.length c100, .slice A101 y82.1.kids.length c102]) rfl (pm1 rfl) (by kernel_rfl) (fun w107 B108 hb109 szw107 => ?_)
                        have ZB108 : ws.heap.size ≤ w103.heap.size := K.size
                        have q111 := OwF.fboth G85 (Nat.le_refl _)
                        have q112 := OwN.both G88 (Nat.le_refl _)
                        have z113 := Ap.cons (Ap.farL (one_hi B94.lt)) (Ap.append (ne_ap Zo86_obp3) Zo89_obp3)
                        have z114 := Ap.cons (Ap.farL (one_hi B3.lt)) (Ap.append (ne_ap Zo86_ob5) Zo89_ob5)
                        have z115 := Ap.cons (Ap.farL (one_hi Bz73.lt)) (Ap.append (ne_ap Zo86_ob9) Zo89_ob9)
                        have z116 := Ap.cons (Ap.farL (one_hi B38.lt)) (Ap.append (ne_ap Zo86_ob36) Zo89_ob36)
                        have z117 := Ap.cons (Ap.farL (one_hi Bz74.lt)) (Ap.append (ne_ap Zo86_ob56) Zo89_ob56)
                        have z118 := Ap.cons (Ap.farL (one_hi B104.lt)) (Ap.append (ne_ap No86_ob98) No89_ob98)
                        have z119 := Ap.cons (Ap.farL (OwF.fhi Guz73_0)) (Ap.append (Dj.ap Zo86_oz73_0) Zo89_oz73_0)
                        have z120 := Ap.cons (Ap.farL (OwN.hi Guz73_1)) (Ap.append Zo86_oz73_1 Zo89_oz73_1)
                        have z121 := Ap.cons (Ap.farL (OwF.fhi Guz74_0)) (Ap.append (Dj.ap Zo86_oz74_0) Zo89_oz74_0)
                        have z122 := Ap.cons (Ap.farL (OwN.hi Guz74_1)) (Ap.append Zo86_oz74_1 Zo89_oz74_1)
                        have B94 := blkT B94 hb109
                        have B3 := blkT B3 hb109
                        have Bz73 := blkT Bz73 hb109
                        have B38 := blkT B38 hb109
                        have Bz74 := blkT Bz74 hb109
                        have B104 := blkT B104 hb109
                        have Guz73_0 := OwF.below Guz73_0 hb109
                        have Guz73_1 := OwN.below coreOw_ok Guz73_1 hb109
                        have Guz74_0 := OwF.below Guz74_0 hb109
                        have Guz74_1 := OwN.below coreOw_ok Guz74_1 hb109
                        have G85 := OwF.below G85 hb109
                        have G88 := OwN.below coreOw_ok G88 hb109
                        have K := KeepV.below K hb109
                        have T := Tt T hb109
                        obtain ⟨l124, a123, nd125, sb126, r127⟩ := OwF.own2 fI G85
                        obtain ⟨_, _, _, l129, hea128, a128, nd130, sb131, r132⟩ := OwN.own1 coreOw_ok G88
                        injection hea128 with e1 e2 e3; subst e1 e2 e3
                        have G133 : OwN 42 coreOw 4 w107 ws.heap.size (.slice (some ⟨w103.heap.size, 0, none⟩) 1 1) [y82.1] (w103.heap.size :: ((fb (.slice A99 y82.1.data.length c100)) ++ bs90)) := OwN.lit1 (b1 := (l124 ++ l129)) B108 ZB108 (coreOw_in ⟨_, _, _, _, _, _, l124, l129, rfl, ⟨a123, r127⟩, ⟨a128, r132⟩, rfl⟩) coreOw_ok (nodup2 nd125 nd130 sb126 sb131 Ro86_o89) (sub2 sb126 sb131) (all2 q111 q112)
                        obtain ⟨_, m135, hm⟩ := bnd hm
                        have hk136 := mustP_some m135
                        refine RL.appendN coreOw_ok coreOw_one (by decide) app_impl_Core rfl rfl rfl Guz74_1 G133 (Ap.symm z122) K.size hk136 (fun v137 w138 bs139 G140 hgr141 hbl142 hnb143 => ?_)
                        have szw138 := hbl142.size
                        have z145 := Ap.app hnb143 Noz74_1_obp3 z113 (one_hi B94.lt)
                        have z146 := Ap.app hnb143 Noz74_1_ob5 z114 (one_hi B3.lt)
                        have z147 := Ap.app hnb143 Noz74_1_ob9 z115 (one_hi Bz73.lt)
                        have z148 := Ap.app hnb143 Noz74_1_ob36 z116 (one_hi B38.lt)
                        have z149 := Ap.app hnb143 Noz74_1_ob56 z117 (one_hi Bz74.lt)
                        have z150 := Ap.app hnb143 Noz74_1_ob98 z118 (one_hi B104.lt)
                        have z151 := Ap.app hnb143 Doz74_1_oz73_0 z119 (OwF.fhi Guz73_0)
                        have z152 := Ap.app hnb143 Doz74_1_oz73_1 z120 (OwN.hi Guz73_1)
                        have z153 := Ap.app hnb143 Doz74_1_oz74_0 z121 (OwF.fhi Guz74_0)
                        have B94 := Blk.kept B94 hgr141 (OwN.neB Guz74_1 Noz74_1_obp3)
                        have B3 := Blk.kept B3 hgr141 (OwN.neB Guz74_1 Noz74_1_ob5)
                        have Bz73 := Blk.kept Bz73 hgr141 (OwN.neB Guz74_1 Noz74_1_ob9)
                        have B38 := Blk.kept B38 hgr141 (OwN.neB Guz74_1 Noz74_1_ob36)
                        have Bz74 := Blk.kept Bz74 hgr141 (OwN.neB Guz74_1 Noz74_1_ob56)
                        have B104 := Blk.kept B104 hgr141 (OwN.neB Guz74_1 Noz74_1_ob98)
                        have Guz73_0 := OwF.keptD Guz73_0 hgr141 (OwN.dj Guz74_1 Doz74_1_oz73_0)
                        have Guz73_1 := OwN.grown coreOw_ok Guz73_1 hgr141 (OwN.apRow Guz74_1 Doz74_1_oz73_1)
                        have Guz74_0 := OwF.keptD Guz74_0 hgr141 (OwN.dj Guz74_1 Doz74_1_oz74_0)
                        have K := KeepV.belowLo K hbl142
                        have T := T.trans (Below.weak LW hbl142)
                        refine RL.y rfl (Y.fieldAddr (off := 3) s11_1 (by kernel_rfl)) ?_
                        obtain ⟨A154, c155, rfl⟩ := OwN.form G140
                        have qbA154 := OwN.bound G140
                        refine RL.store (v := .slice A154 ((z74.kids ++ [y82.1]).length) c155) (cs' := #[.int .i64 z74.kind, .int .i64 z74.value, uz74_0, .slice A154 ((z74.kids ++ [y82.1]).length) c155]) rfl rfl rfl Bz74 (by kernel_rfl) (by rfl) (by rfl) (by rfl) (fun w156 B157 ho158 => ?_)
                        have szw156 := ho158.size
                        have B94 := B94.only_ ho158 (by intro hin; simp at hin; exact Eob56_obp3 hin)
                        have B3 := B3.only_ ho158 (by intro hin; simp at hin; exact Eob56_ob5 hin)
                        have Bz73 := Bz73.only_ ho158 (by intro hin; simp at hin; exact Eob56_ob9 hin)
                        have B38 := B38.only_ ho158 (by intro hin; simp at hin; exact Eob56_ob36 hin)
                        have B104 := B104.only_ ho158 (by intro hin; simp at hin; exact Eob98_ob56.symm hin)
                        have Guz73_0 := OwF.only Guz73_0 ho158 Noz73_0_ob56
                        have Guz73_1 := OwN.only coreOw_ok Guz73_1 ho158 (Ap.one Noz73_1_ob56)
                        have Guz74_0 := OwF.only Guz74_0 ho158 Noz74_0_ob56
                        have G140 := OwN.only coreOw_ok G140 ho158 (Ap.one z149)
                        have K := KeepV.far K ho158 KZob56
                        have T := T.trans (ho158.below (by first | (simp; done) | (simp; omega)))
                        refine RL.nil ?_
                        refine blk_n (then_n ?_)
                        refine wp_rs rfl ?_
                        refine RQ.y rfl (Y.move (v := .int .i64 i71) s12_1) ?_
                        refine RQ.y rfl (Y.binI rfl rfl (binI_add (m := i71) (by omega))) ?_
                        refine RQ.y rfl (Y.assign (v := .int .i64 (i71 + 1)) rfl) ?_
                        refine RQ.nil ?_
                        exact (then_n ⟨g, _, Nat.lt_succ_self _, rfl, ⟨(i71 + 1), y82.2.2, z73, (⟨z74.kind, z74.value, z74.data, (z74.kids ++ [y82.1])⟩ : DCore), (uz73_0), (uz73_1), bsz73_1, (uz74_0), (.slice A154 ((z74.kids ++ [y82.1]).length) c155), bs139, s0_1, s2_1, s3_1, s5_1, s8_1, s10_1, s11_1, rfl, (by omega), B94, Bz73, Guz73_0, Guz73_1, B157, Guz74_0, G140, (ap_ne (ne_ap Noz73_0_obp3)), (ap_ne (ne_ap Noz73_0_ob5)), (ap_ne (ne_ap Noz73_0_ob9)), (ap_ne (ne_ap Noz73_0_ob36)), (ap_ne (ne_ap Noz73_0_ob56)), Doz73_1_oz73_0, Noz73_1_obp3, Noz73_1_ob5, Noz73_1_ob9, Noz73_1_ob36, Noz73_1_ob56, (Ap.dj (Dj.ap Doz74_0_oz73_0)), Doz74_0_oz73_1, (ap_ne (ne_ap Noz74_0_obp3)), (ap_ne (ne_ap Noz74_0_ob5)), (ap_ne (ne_ap Noz74_0_ob9)), (ap_ne (ne_ap Noz74_0_ob36)), (ap_ne (ne_ap Noz74_0_ob56)), z151, z152, z153, z145, z146, z147, z148, z149, B3, B38, K, T, (by rw [← hrec1]; exact hm)⟩⟩)
                      · replace hm := cT c106 hm
                        refine cond_t rfl (vb rfl c106) ?_
                        refine wp_seq ?_
                        refine wp_rl rfl ?_
                        refine RL.y rfl (Y.build0 (cells := #[.int .i64 0, .int .i64 0, .slice none 0 0, .slice none 0 0])  (by kernel_rfl) (by kernel_rfl)) ?_
                        refine RL.y rfl (Y.move (v := .int .i64 y82.2.1) rfl) ?_
                        refine RL.store (v := .agg #[.int .i64 0, .int .i64 0, .slice none 0 0, .slice none 0 0]) (cs' := #[.int .i64 0, .int .i64 0, .slice none 0 0, .slice none 0 0]) rfl s8_1 rfl Bz73 (by kernel_rfl) (by rfl) (by rfl) (by rfl) (fun w159 B160 ho161 => ?_)
                        have szw159 := ho161.size
                        have B94 := B94.only_ ho161 (by intro hin; simp at hin; exact Eob9_obp3 hin)
                        have B3 := B3.only_ ho161 (by intro hin; simp at hin; exact Eob9_ob5 hin)
                        have B38 := B38.only_ ho161 (by intro hin; simp at hin; exact Eob36_ob9.symm hin)
                        have Bz74 := Bz74.only_ ho161 (by intro hin; simp at hin; exact Eob56_ob9.symm hin)
                        have B104 := B104.only_ ho161 (by intro hin; simp at hin; exact Eob98_ob9.symm hin)
                        have Guz73_0 := OwF.only Guz73_0 ho161 Noz73_0_ob9
                        have Guz73_1 := OwN.only coreOw_ok Guz73_1 ho161 (Ap.one Noz73_1_ob9)
                        have Guz74_0 := OwF.only Guz74_0 ho161 Noz74_0_ob9
                        have Guz74_1 := OwN.only coreOw_ok Guz74_1 ho161 (Ap.one Noz74_1_ob9)
                        have G85 := OwF.only G85 ho161 Zo86_ob9
                        have G88 := OwN.only coreOw_ok G88 ho161 (Ap.one Zo89_ob9)
                        have K := KeepV.far K ho161 KZob9
                        have T := T.trans (ho161.below (by first | (simp; done) | (simp; omega)))
                        refine RL.y rfl (Y.assign (v := .int .i64 y82.2.1) rfl) ?_
                        refine RL.nil ?_
                        refine then_n ?_
                        refine wp_ret ?_
                        obtain rfl := Option.some.inj hm
                        exact (then_r (blk_r (then_r (then_r (hit_r (blk_r (then_r (retct (cs := [.int .i64 0, .int .i64 0, .slice none 0 0, .slice none 0 0]) rfl rfl s8_1 rfl (by kernel_rfl) (blkCells B160) ⟨⟨_, _, _, rfl, OwF.nil, OwN.nil, Ap.nil⟩, B94, K, T⟩))))))))
                · replace hm := cT c52 hm
                  refine cond_t rfl (vb rfl c52) ?_
                  refine wp_seq ?_
                  refine wp_rl rfl ?_
                  refine RL.y rfl (Y.fieldAddr (off := 2) rfl (by kernel_rfl)) ?_
                  refine RL.y rfl (Y.load (v := .int .i64 x22.value) rfl (by kernel_rfl) (eqC (blkCell B38 (i := 2) rfl))) ?_
                  obtain ⟨y163, e164, hm⟩ := bnd hm
                  refine RL.call rfl (am1 rfl) (by kernel_rfl) ((c_m_impl_coreRef x22.value _ e164  _ ).mono ?_)
                  rintro _ w172 ⟨⟨v165, v168, bs171, rfl, G166, G169, Ro167_o170⟩, hb173⟩
                  refine ⟨_, rfl, ?_⟩
                  have szw172 := hb173.size
                  have T0w172 := K.size
                  have Zo167_obp3 := ap_ne (Ap.new (OwF.flo G166) (one_hi B14.lt))
                  have Zo167_ob5 := ap_ne (Ap.new (OwF.flo G166) (one_hi B3.lt))
                  have Zo167_ob9 := ap_ne (Ap.new (OwF.flo G166) (one_hi B7.lt))
                  have Zo167_ob36 := ap_ne (Ap.new (OwF.flo G166) (one_hi B38.lt))
                  have Zo170_obp3 : Ap bs171 [pc3] := (Ap.new (OwN.lo_ G169) (one_hi B14.lt))
                  have Zo170_ob5 : Ap bs171 [ws.heap.size] := (Ap.new (OwN.lo_ G169) (one_hi B3.lt))
                  have Zo170_ob9 : Ap bs171 [w2.heap.size] := (Ap.new (OwN.lo_ G169) (one_hi B7.lt))
                  have Zo170_ob36 : Ap bs171 [w20.heap.size] := (Ap.new (OwN.lo_ G169) (one_hi B38.lt))
                  have B14 := blkT B14 hb173
                  have B3 := blkT B3 hb173
                  have B7 := blkT B7 hb173
                  have B38 := blkT B38 hb173
                  have K := KeepV.below K hb173
                  have T := Tt T hb173
                  replace G166 := OwF.mono G166 T0w172
                  replace G169 := OwN.mono G169 T0w172
                  obtain ⟨A174, c175, rfl⟩ := OwF.form G166
                  have qbA174 := OwF.bound G166
                  obtain ⟨A176, c177, rfl⟩ := OwN.form G169
                  have qbA176 := OwN.bound G169
                  refine RL.store (v := .agg #[.int .i64 y163.kind, .int .i64 y163.value, .slice A174 y163.data.length c175, .slice A176 y163.kids.length c177]) (cs' := #[.int .i64 y163.kind, .int .i64 y163.value, .slice A174 y163.data.length c175, .slice A176 y163.kids.length c177]) rfl rfl rfl B7 (by kernel_rfl) (by rfl) (by rfl) (by rfl) (fun w178 B179 ho180 => ?_)
                  have szw178 := ho180.size
                  have B14 := B14.only_ ho180 (by intro hin; simp at hin; exact Eob9_obp3 hin)
                  have B3 := B3.only_ ho180 (by intro hin; simp at hin; exact Eob9_ob5 hin)
                  have B38 := B38.only_ ho180 (by intro hin; simp at hin; exact Eob36_ob9.symm hin)
                  have G166 := OwF.only G166 ho180 Zo167_ob9
                  have G169 := OwN.only coreOw_ok G169 ho180 (Ap.one Zo170_ob9)
                  have K := KeepV.far K ho180 KZob9
                  have T := T.trans (ho180.below (by first | (simp; done) | (simp; omega)))
                  refine RL.y rfl (Y.assign (v := .int .i64 0) rfl) ?_
                  refine RL.nil ?_
                  refine then_n ?_
                  refine wp_ret ?_
                  obtain rfl := Option.some.inj hm
                  exact (blk_r (then_r (retct (cs := [.int .i64 y163.kind, .int .i64 y163.value, .slice A174 y163.data.length c175, .slice A176 y163.kids.length c177]) rfl rfl rfl rfl (by kernel_rfl) (blkCells B179) ⟨⟨_, _, _, rfl, G166, G169, Ro167_o170⟩, B14, K, T⟩)))
              · replace hm := cT c51 hm
                refine cond_t rfl (vb rfl c51) ?_
                refine wp_seq ?_
                refine wp_rl rfl ?_
                refine RL.y rfl (Y.fieldAddr (off := 2) rfl (by kernel_rfl)) ?_
                refine RL.y rfl (Y.load (v := .int .i64 x22.value) rfl (by kernel_rfl) (eqC (blkCell B38 (i := 2) rfl))) ?_
                obtain ⟨y181, e182, hm⟩ := bnd hm
                refine RL.call rfl (am1 rfl) (by kernel_rfl) ((c_m_impl_coreNum x22.value _ e182  _ ).mono ?_)
                rintro _ w190 ⟨⟨v183, v186, bs189, rfl, G184, G187, Ro185_o188⟩, hb191⟩
                refine ⟨_, rfl, ?_⟩
                have szw190 := hb191.size
                have T0w190 := K.size
                have Zo185_obp3 := ap_ne (Ap.new (OwF.flo G184) (one_hi B14.lt))
                have Zo185_ob5 := ap_ne (Ap.new (OwF.flo G184) (one_hi B3.lt))
                have Zo185_ob9 := ap_ne (Ap.new (OwF.flo G184) (one_hi B7.lt))
                have Zo185_ob36 := ap_ne (Ap.new (OwF.flo G184) (one_hi B38.lt))
                have Zo188_obp3 : Ap bs189 [pc3] := (Ap.new (OwN.lo_ G187) (one_hi B14.lt))
                have Zo188_ob5 : Ap bs189 [ws.heap.size] := (Ap.new (OwN.lo_ G187) (one_hi B3.lt))
                have Zo188_ob9 : Ap bs189 [w2.heap.size] := (Ap.new (OwN.lo_ G187) (one_hi B7.lt))
                have Zo188_ob36 : Ap bs189 [w20.heap.size] := (Ap.new (OwN.lo_ G187) (one_hi B38.lt))
                have B14 := blkT B14 hb191
                have B3 := blkT B3 hb191
                have B7 := blkT B7 hb191
                have B38 := blkT B38 hb191
                have K := KeepV.below K hb191
                have T := Tt T hb191
                replace G184 := OwF.mono G184 T0w190
                replace G187 := OwN.mono G187 T0w190
                obtain ⟨A192, c193, rfl⟩ := OwF.form G184
                have qbA192 := OwF.bound G184
                obtain ⟨A194, c195, rfl⟩ := OwN.form G187
                have qbA194 := OwN.bound G187
                refine RL.store (v := .agg #[.int .i64 y181.kind, .int .i64 y181.value, .slice A192 y181.data.length c193, .slice A194 y181.kids.length c195]) (cs' := #[.int .i64 y181.kind, .int .i64 y181.value, .slice A192 y181.data.length c193, .slice A194 y181.kids.length c195]) rfl rfl rfl B7 (by kernel_rfl) (by rfl) (by rfl) (by rfl) (fun w196 B197 ho198 => ?_)
                have szw196 := ho198.size
                have B14 := B14.only_ ho198 (by intro hin; simp at hin; exact Eob9_obp3 hin)
                have B3 := B3.only_ ho198 (by intro hin; simp at hin; exact Eob9_ob5 hin)
                have B38 := B38.only_ ho198 (by intro hin; simp at hin; exact Eob36_ob9.symm hin)
                have G184 := OwF.only G184 ho198 Zo185_ob9
                have G187 := OwN.only coreOw_ok G187 ho198 (Ap.one Zo188_ob9)
                have K := KeepV.far K ho198 KZob9
                have T := T.trans (ho198.below (by first | (simp; done) | (simp; omega)))
                refine RL.y rfl (Y.assign (v := .int .i64 0) rfl) ?_
                refine RL.nil ?_
                refine then_n ?_
                refine wp_ret ?_
                obtain rfl := Option.some.inj hm
                exact (blk_r (then_r (retct (cs := [.int .i64 y181.kind, .int .i64 y181.value, .slice A192 y181.data.length c193, .slice A194 y181.kids.length c195]) rfl rfl rfl rfl (by kernel_rfl) (blkCells B197) ⟨⟨_, _, _, rfl, G184, G187, Ro185_o188⟩, B14, K, T⟩)))
            · replace hm := cT c50 hm
              refine cond_t rfl (vb rfl c50) ?_
              refine wp_seq ?_
              refine wp_rl rfl ?_
              refine RL.y rfl (Y.build0 (cells := #[.int .i64 0, .int .i64 0, .slice none 0 0, .slice none 0 0])  (by kernel_rfl) (by kernel_rfl)) ?_
              refine RL.store (v := .agg #[.int .i64 0, .int .i64 0, .slice none 0 0, .slice none 0 0]) (cs' := #[.int .i64 0, .int .i64 0, .slice none 0 0, .slice none 0 0]) rfl rfl rfl B7 (by kernel_rfl) (by rfl) (by rfl) (by rfl) (fun w199 B200 ho201 => ?_)
              have szw199 := ho201.size
              have B14 := B14.only_ ho201 (by intro hin; simp at hin; exact Eob9_obp3 hin)
              have B3 := B3.only_ ho201 (by intro hin; simp at hin; exact Eob9_ob5 hin)
              have B38 := B38.only_ ho201 (by intro hin; simp at hin; exact Eob36_ob9.symm hin)
              have K := KeepV.far K ho201 KZob9
              have T := T.trans (ho201.below (by first | (simp; done) | (simp; omega)))
              refine RL.y rfl (Y.assign (v := .int .i64 5) rfl) ?_
              refine RL.nil ?_
              refine then_n ?_
              refine wp_ret ?_
              obtain rfl := Option.some.inj hm
              exact (then_r (retct (cs := [.int .i64 0, .int .i64 0, .slice none 0 0, .slice none 0 0]) rfl rfl rfl rfl (by kernel_rfl) (blkCells B200) ⟨⟨_, _, _, rfl, OwF.nil, OwN.nil, Ap.nil⟩, B14, K, T⟩))
        · refine RL.alloc (z := .agg #[.int .i64 0, .int .i64 0, .int .i64 0, .slice none 0 0, .slice none 0 0]) rfl (by kernel_rfl) (fun w202 B203 hb204 szw202 => ?_)
          replace B203 : Blk w202 w16.heap.size 122 #[.int .i64 0, .int .i64 0, .int .i64 0, .slice none 0 0, .slice none 0 0] := B203
          have GB203 : ws.heap.size ≤ w16.heap.size := K.size
          have KZob205 := K.size
          have Eob205_obp3 := Nat.ne_of_lt B14.lt
          have Eob205_ob5 := Nat.ne_of_lt B3.lt
          have Eob205_ob9 := Nat.ne_of_lt B7.lt
          have B14 := blkT B14 hb204
          have B3 := blkT B3 hb204
          have B7 := blkT B7 hb204
          have K := KeepV.below K hb204
          have T := Tt T hb204
          refine RL.nil ⟨⟨T, B3⟩, ?_⟩
          refine RT.act rfl ?_
          obtain ⟨y206, e207, hm⟩ := bnd hm
          refine RL.call rfl (am2 rfl rfl) (by kernel_rfl) ((c_m_impl_Net_peer d0 d1 _ e207 _ _ (ptArg netRd_ok hba0 hSa0 hca0 T)).mono ?_)
          rintro _ w208 ⟨rfl, hb209⟩
          refine ⟨_, rfl, ?_⟩
          have szw208 := hb209.size
          have B14 := blkT B14 hb209
          have B3 := blkT B3 hb209
          have B7 := blkT B7 hb209
          have B203 := blkT B203 hb209
          have K := KeepV.below K hb209
          have T := Tt T hb209
          refine RL.nil ⟨⟨T, B3⟩, ?_⟩
          refine RT.y rfl rfl (Y.field (i := 0) (v := .int .i64 y206.agent) rfl (by kernel_rfl)) ?_
          obtain ⟨x210, hx213, hm⟩ := bnd hm
          obtain ⟨k211, hk214, hl215, hx213⟩ := getI_some hx213
          obtain ⟨b217, o218, rfl, hbb217⟩ := h1.addr (by omega)
          obtain ⟨cs212, hRcs212, hc216⟩ := h1.el hx213
          have hScs212 := hRcs212
          obtain ⟨A219, n219, c219, A220, n220, c220, rfl, ⟨h219, r219⟩, ⟨h220, r220⟩⟩ := hRcs212
          have e219 := h219.len; subst e219
          have q219 := len_le r219
          have e220 := h220.len; subst e220
          have q220 := len_le r220
          refine RT.y rfl rfl (Y.indexAddr (m := k211) (sz := 5) rfl rfl hk214 hl215 (by kernel_rfl)) ?_
          refine RT.y rfl rfl (Y.loadN (cs := [.int .i64 x210.kind, .int .i64 x210.level, .int .i64 x210.value, .slice A219 x210.data.length c219, .slice A220 x210.ports.length c220]) rfl (by kernel_rfl) (cells5 (fun w' hS => (cellT hS.1 (hc216 0 _ rfl))) (fun w' hS => (cellT hS.1 (hc216 1 _ rfl))) (fun w' hS => (cellT hS.1 (hc216 2 _ rfl))) (fun w' hS => (cellT hS.1 (hc216 3 _ rfl))) (fun w' hS => (cellT hS.1 (hc216 4 _ rfl))))) ?_
          refine RT.act rfl ?_
          refine RL.store (v := .agg #[.int .i64 x210.kind, .int .i64 x210.level, .int .i64 x210.value, .slice A219 x210.data.length c219, .slice A220 x210.ports.length c220]) (cs' := #[.int .i64 x210.kind, .int .i64 x210.level, .int .i64 x210.value, .slice A219 x210.data.length c219, .slice A220 x210.ports.length c220]) rfl rfl rfl B203 (by kernel_rfl) (by rfl) (by rfl) (by rfl) (fun w221 B222 ho223 => ?_)
          have szw221 := ho223.size
          have B14 := B14.only_ ho223 (by intro hin; simp at hin; exact Eob205_obp3 hin)
          have B3 := B3.only_ ho223 (by intro hin; simp at hin; exact Eob205_ob5 hin)
          have B7 := B7.only_ ho223 (by intro hin; simp at hin; exact Eob205_ob9 hin)
          have K := KeepV.far K ho223 KZob205
          have T := T.trans (ho223.below (by first | (simp; done) | (simp; omega)))
          refine RL.nil ⟨⟨T, B3⟩, ?_⟩
          refine RT.nil_ ?_
          refine then_n ?_
          refine wp_seq ?_
          refine wp_seq ?_
          refine wp_rb rfl ?_
          refine RQ.y rfl (Y.move (v := .pointer (some ⟨ba0, oa0, none⟩)) s0) ?_
          refine RQ.y rfl (Y.loadN (cs := [.int .i64 d1.agent, .int .i64 d1.slot]) rfl (by kernel_rfl) (cells2 (beC (blkCell B3 (i := 0) rfl)) (beC (blkCell B3 (i := 1) rfl)))) ?_
          obtain ⟨y224, e225, hm⟩ := bnd hm
          refine RQ.call rfl (am2 rfl rfl) (by kernel_rfl) (v := .bool y224) (bel (K := fun _ => True) fun w' hb' => (c_m_impl_Net_isKnown d0 d1 _ e225 _ w' (ptArg netRd_ok hba0 hSa0 hca0 (Tt T hb')))) ?_
          refine RQ.y rfl (Y.not (b' := (!y224)) rfl rfl) ?_
          refine RQ.y rfl (Y.move (v := .bool (!y224)) rfl) ?_
          rcases bcases y224 with c226 | c226
          · replace hm := cF c226 hm
            refine RQ.skip (wantN (dj := 43) rfl (vbn rfl c226 rfl) rfl) ?_
            refine RQ.skip (wantN (dj := 43) rfl (vbn rfl c226 rfl) rfl) ?_
            refine RQ.skip (wantN (dj := 43) rfl (vbn rfl c226 rfl) rfl) ?_
            refine RQ.y rfl (Y.pick (b := true) (v := .bool true) (vbn rfl c226 rfl) rfl) ?_
            refine RQ.nil ?_
            intro w227 hb228
            have szw227 := hb228.size
            have B14 := blkT B14 hb228
            have B3 := blkT B3 hb228
            have B7 := blkT B7 hb228
            have B222 := blkT B222 hb228
            have K := KeepV.below K hb228
            have T := Tt T hb228
            refine then_n ?_
            refine cond_t rfl rfl ?_
            refine wp_seq ?_
            refine wp_rl rfl ?_
            refine RL.y rfl (Y.build0 (cells := #[.int .i64 0, .int .i64 0, .slice none 0 0, .slice none 0 0])  (by kernel_rfl) (by kernel_rfl)) ?_
            refine RL.store (v := .agg #[.int .i64 0, .int .i64 0, .slice none 0 0, .slice none 0 0]) (cs' := #[.int .i64 0, .int .i64 0, .slice none 0 0, .slice none 0 0]) rfl rfl rfl B7 (by kernel_rfl) (by rfl) (by rfl) (by rfl) (fun w229 B230 ho231 => ?_)
            have szw229 := ho231.size
            have B14 := B14.only_ ho231 (by intro hin; simp at hin; exact Eob9_obp3 hin)
            have B3 := B3.only_ ho231 (by intro hin; simp at hin; exact Eob9_ob5 hin)
            have B222 := B222.only_ ho231 (by intro hin; simp at hin; exact Eob205_ob9.symm hin)
            have K := KeepV.far K ho231 KZob9
            have T := T.trans (ho231.below (by first | (simp; done) | (simp; omega)))
            refine RL.y rfl (Y.assign (v := .int .i64 5) rfl) ?_
            refine RL.nil ?_
            refine then_n ?_
            refine wp_ret ?_
            obtain rfl := Option.some.inj hm
            exact (then_r (retct (cs := [.int .i64 0, .int .i64 0, .slice none 0 0, .slice none 0 0]) rfl rfl rfl rfl (by kernel_rfl) (blkCells B230) ⟨⟨_, _, _, rfl, OwF.nil, OwN.nil, Ap.nil⟩, B14, K, T⟩))
          · replace hm := cT c226 hm
            refine RQ.y (wantT (dj := 43) rfl (vbn rfl c226 rfl)) (Y.fieldAddr (off := 0) rfl (by kernel_rfl)) ?_
            refine RQ.y (wantT (dj := 43) rfl (vbn rfl c226 rfl)) (Y.load (v := .int .i64 x210.kind) rfl (by kernel_rfl) (beC (blkCell B222 (i := 0) rfl))) ?_
            refine RQ.y (wantT (dj := 43) rfl (vbn rfl c226 rfl)) (Y.binI (v := .bool (x210.kind == 2)) rfl rfl rfl) ?_
            refine RQ.y rfl (Y.pick (b := false) (v := .bool (x210.kind == 2)) (vbn rfl c226 rfl) rfl) ?_
            refine RQ.nil ?_
            intro w232 hb233
            have szw232 := hb233.size
            have B14 := blkT B14 hb233
            have B3 := blkT B3 hb233
            have B7 := blkT B7 hb233
            have B222 := blkT B222 hb233
            have K := KeepV.below K hb233
            have T := Tt T hb233
            refine then_n ?_
            rcases bcases (x210.kind == 2) with c234 | c234
            · replace hm := cF c234 hm
              refine cond_f rfl (vb rfl c234) ?_
              refine wp_skip ?_
              refine then_n ?_
              refine wp_seq ?_
              refine wp_seq ?_
              refine wp_rs rfl ?_
              refine RQ.y rfl (Y.fieldAddr (off := 0) rfl (by kernel_rfl)) ?_
              refine RQ.y rfl (Y.load (v := .int .i64 x210.kind) rfl (by kernel_rfl) (eqC (blkCell B222 (i := 0) rfl))) ?_
              refine RQ.nil ?_
              refine then_n ?_
              refine wp_block ?_
              refine wp_seq ?_
              refine wp_rs rfl ?_
              refine RQ.y rfl (Y.binI (v := .bool (x210.kind == 6)) rfl rfl rfl) ?_
              refine RQ.y rfl (Y.assign (v := .bool (x210.kind == 6)) rfl) ?_
              refine RQ.nil ?_
              refine then_n ?_
              rcases bcases (x210.kind == 6) with c235 | c235
              · replace hm := cF c235 hm
                refine cond_f rfl (vb rfl c235) ?_
                refine wp_seq ?_
                refine wp_rs rfl ?_
                refine RQ.y rfl (Y.binI (v := .bool (x210.kind == 12)) rfl rfl rfl) ?_
                refine RQ.y rfl (Y.assign (v := .bool (x210.kind == 12)) rfl) ?_
                refine RQ.nil ?_
                refine then_n ?_
                rcases bcases (x210.kind == 12) with c236 | c236
                · replace hm := cF c236 hm
                  refine cond_f rfl (vb rfl c236) ?_
                  refine wp_skip ?_
                  refine blk_n (then_n ?_)
                  refine wp_seq ?_
                  refine wp_rl rfl ?_
                  refine RL.y rfl (Y.fieldAddr (off := 2) rfl (by kernel_rfl)) ?_
                  refine RL.y rfl (Y.load (v := .int .i64 x210.value) rfl (by kernel_rfl) (eqC (blkCell B222 (i := 2) rfl))) ?_
                  refine RL.y rfl (Y.build2 (cells := #[.int .i64 8, .int .i64 x210.value, .slice none 0 0, .slice none 0 0]) rfl rfl (by kernel_rfl) (by kernel_rfl)) ?_
                  refine RL.alloc (z := .agg #[.int .i64 0, .int .i64 0, .slice none 0 0, .slice none 0 0]) rfl (by kernel_rfl) (fun w237 B238 hb239 szw237 => ?_)
                  replace B238 : Blk w237 w232.heap.size 42 #[.int .i64 0, .int .i64 0, .slice none 0 0, .slice none 0 0] := B238
                  have GB238 : ws.heap.size ≤ w232.heap.size := K.size
                  have KZob240 := K.size
                  have Eob240_obp3 := Nat.ne_of_lt B14.lt
                  have Eob240_ob5 := Nat.ne_of_lt B3.lt
                  have Eob240_ob9 := Nat.ne_of_lt B7.lt
                  have Eob240_ob205 := Nat.ne_of_lt B222.lt
                  have B14 := blkT B14 hb239
                  have B3 := blkT B3 hb239
                  have B7 := blkT B7 hb239
                  have B222 := blkT B222 hb239
                  have K := KeepV.below K hb239
                  have T := Tt T hb239
                  refine RL.store (v := .agg #[.int .i64 8, .int .i64 x210.value, .slice none 0 0, .slice none 0 0]) (cs' := #[.int .i64 8, .int .i64 x210.value, .slice none 0 0, .slice none 0 0]) rfl rfl rfl B238 (by kernel_rfl) (by rfl) (by rfl) (by rfl) (fun w241 B242 ho243 => ?_)
                  have szw241 := ho243.size
                  have B14 := B14.only_ ho243 (by intro hin; simp at hin; exact Eob240_obp3 hin)
                  have B3 := B3.only_ ho243 (by intro hin; simp at hin; exact Eob240_ob5 hin)
                  have B7 := B7.only_ ho243 (by intro hin; simp at hin; exact Eob240_ob9 hin)
                  have B222 := B222.only_ ho243 (by intro hin; simp at hin; exact Eob240_ob205 hin)
                  have K := KeepV.far K ho243 KZob240
                  have T := T.trans (ho243.below (by first | (simp; done) | (simp; omega)))
                  refine RL.nil ?_
                  refine then_n ?_
                  refine wp_seq ?_
                  refine wp_seq ?_
                  refine wp_rs rfl ?_
                  refine RQ.y rfl (Y.assign (v := .int .i64 1) rfl) ?_
                  refine RQ.nil ?_
                  refine then_n ?_
                  refine wp_block ?_
                  obtain ⟨K1, hK1, hm⟩ : ∃ K, K = m_impl_Net_data_A1 ∧ m_impl_Net_data_L1 d0 d1 d2 self x210 K (x210.ports.length + 1) 1 s12 (⟨0, 0, [], []⟩ : DCore) (⟨8, x210.value, [], []⟩ : DCore) = some r := ⟨_, rfl, hm⟩
                  refine wp_loopX (fun g f w' => ∃ (i255 : Int) (z256 : Int) (z257 : DCore) (z258 : DCore) (uz257_0 : Value) (uz257_1 : Value) (bsz257_1 : List Nat) (uz258_0 : Value) (uz258_1 : Value) (bsz258_1 : List Nat), f 0 = .pointer (some ⟨ba0, oa0, none⟩) ∧ f 2 = .int .i64 d2 ∧ f 3 = .pointer (some ⟨pc3, 0, none⟩) ∧ f 5 = .pointer (some ⟨ws.heap.size, 0, none⟩) ∧ f 8 = .pointer (some ⟨w2.heap.size, 0, none⟩) ∧ f 10 = .pointer (some ⟨w16.heap.size, 0, none⟩) ∧ f 11 = .pointer (some ⟨w232.heap.size, 0, none⟩) ∧ f 12 = .int .i64 i255 ∧ 0 ≤ i255 ∧ Blk w' pc3 3 #[.int .i64 z256] ∧ Blk w' w2.heap.size 42 #[.int .i64 z257.kind, .int .i64 z257.value, uz257_0, uz257_1] ∧ OwF 2 encI 1 w' ws.heap.size uz257_0 z257.data ∧ OwN 42 coreOw 4 w' ws.heap.size uz257_1 z257.kids bsz257_1 ∧ Blk w' w232.heap.size 42 #[.int .i64 z258.kind, .int .i64 z258.value, uz258_0, uz258_1] ∧ OwF 2 encI 1 w' ws.heap.size uz258_0 z258.data ∧ OwN 42 coreOw 4 w' ws.heap.size uz258_1 z258.kids bsz258_1 ∧ Value.ownBlock uz257_0 ≠ some pc3 ∧ Value.ownBlock uz257_0 ≠ some ws.heap.size ∧ Value.ownBlock uz257_0 ≠ some w2.heap.size ∧ Value.ownBlock uz257_0 ≠ some w16.heap.size ∧ Value.ownBlock uz257_0 ≠ some w232.heap.size ∧ Ap bsz257_1 (fb uz257_0) ∧ Ap bsz257_1 [pc3] ∧ Ap bsz257_1 [ws.heap.size] ∧ Ap bsz257_1 [w2.heap.size] ∧ Ap bsz257_1 [w16.heap.size] ∧ Ap bsz257_1 [w232.heap.size] ∧ Dj uz258_0 uz257_0 ∧ Ap (fb uz258_0) bsz257_1 ∧ Value.ownBlock uz258_0 ≠ some pc3 ∧ Value.ownBlock uz258_0 ≠ some ws.heap.size ∧ Value.ownBlock uz258_0 ≠ some w2.heap.size ∧ Value.ownBlock uz258_0 ≠ some w16.heap.size ∧ Value.ownBlock uz258_0 ≠ some w232.heap.size ∧ Ap bsz258_1 (fb uz257_0) ∧ Ap bsz258_1 bsz257_1 ∧ Ap bsz258_1 (fb uz258_0) ∧ Ap bsz258_1 [pc3] ∧ Ap bsz258_1 [ws.heap.size] ∧ Ap bsz258_1 [w2.heap.size] ∧ Ap bsz258_1 [w16.heap.size] ∧ Ap bsz258_1 [w232.heap.size] ∧ Blk w' ws.heap.size 81 #[.int .i64 d1.agent, .int .i64 d1.slot] ∧ Blk w' w16.heap.size 122 #[.int .i64 x210.kind, .int .i64 x210.level, .int .i64 x210.value, .slice A219 x210.data.length c219, .slice A220 x210.ports.length c220] ∧ KeepV (.slice (some ⟨pc3, 0, none⟩) 1 1) (.slice (some ⟨pc3, 0, none⟩) 1 1) ws w' ∧ Below w.heap.size w w' ∧ m_impl_Net_data_L1 d0 d1 d2 self x210 K1 g i255 z256 z257 z258 = some r) 1 (fun f w' => ∃ (z244 : Int) (z245 : DCore) (z246 : DCore) (uz245_0 : Value) (uz245_1 : Value) (bsz245_1 : List Nat) (uz246_0 : Value) (uz246_1 : Value) (bsz246_1 : List Nat), f 3 = .pointer (some ⟨pc3, 0, none⟩) ∧ f 8 = .pointer (some ⟨w2.heap.size, 0, none⟩) ∧ f 11 = .pointer (some ⟨w232.heap.size, 0, none⟩) ∧ Blk w' pc3 3 #[.int .i64 z244] ∧ Blk w' w2.heap.size 42 #[.int .i64 z245.kind, .int .i64 z245.value, uz245_0, uz245_1] ∧ OwF 2 encI 1 w' ws.heap.size uz245_0 z245.data ∧ OwN 42 coreOw 4 w' ws.heap.size uz245_1 z245.kids bsz245_1 ∧ Blk w' w232.heap.size 42 #[.int .i64 z246.kind, .int .i64 z246.value, uz246_0, uz246_1] ∧ OwF 2 encI 1 w' ws.heap.size uz246_0 z246.data ∧ OwN 42 coreOw 4 w' ws.heap.size uz246_1 z246.kids bsz246_1 ∧ Value.ownBlock uz245_0 ≠ some pc3 ∧ Value.ownBlock uz245_0 ≠ some ws.heap.size ∧ Value.ownBlock uz245_0 ≠ some w2.heap.size ∧ Value.ownBlock uz245_0 ≠ some w16.heap.size ∧ Value.ownBlock uz245_0 ≠ some w232.heap.size ∧ Ap bsz245_1 (fb uz245_0) ∧ Ap bsz245_1 [pc3] ∧ Ap bsz245_1 [ws.heap.size] ∧ Ap bsz245_1 [w2.heap.size] ∧ Ap bsz245_1 [w16.heap.size] ∧ Ap bsz245_1 [w232.heap.size] ∧ Dj uz246_0 uz245_0 ∧ Ap (fb uz246_0) bsz245_1 ∧ Value.ownBlock uz246_0 ≠ some pc3 ∧ Value.ownBlock uz246_0 ≠ some ws.heap.size ∧ Value.ownBlock uz246_0 ≠ some w2.heap.size ∧ Value.ownBlock uz246_0 ≠ some w16.heap.size ∧ Value.ownBlock uz246_0 ≠ some w232.heap.size ∧ Ap bsz246_1 (fb uz245_0) ∧ Ap bsz246_1 bsz245_1 ∧ Ap bsz246_1 (fb uz246_0) ∧ Ap bsz246_1 [pc3] ∧ Ap bsz246_1 [ws.heap.size] ∧ Ap bsz246_1 [w2.heap.size] ∧ Ap bsz246_1 [w16.heap.size] ∧ Ap bsz246_1 [w232.heap.size] ∧ Blk w' ws.heap.size 81 #[.int .i64 d1.agent, .int .i64 d1.slot] ∧ Blk w' w16.heap.size 122 #[.int .i64 x210.kind, .int .i64 x210.level, .int .i64 x210.value, .slice A219 x210.data.length c219, .slice A220 x210.ports.length c220] ∧ KeepV (.slice (some ⟨pc3, 0, none⟩) 1 1) (.slice (some ⟨pc3, 0, none⟩) 1 1) ws w' ∧ Below w.heap.size w w' ∧ m_impl_Net_data_A1 z244 z245 z246 = some r) (x210.ports.length + 1) ⟨1, s12, (⟨0, 0, [], []⟩ : DCore), (⟨8, x210.value, [], []⟩ : DCore), (.slice none 0 0), (.slice none 0 0), [], (.slice none 0 0), (.slice none 0 0), [], s0, s2, s3, rfl, rfl, rfl, rfl, rfl, (by omega), B14, B7, OwF.nil, OwN.nil, B242, OwF.nil, OwN.nil, nilNe (b := pc3), nilNe (b := ws.heap.size), nilNe (b := w2.heap.size), nilNe (b := w16.heap.size), nilNe (b := w232.heap.size), Ap.nil, Ap.nil, Ap.nil, Ap.nil, Ap.nil, Ap.nil, Dj.nil, Ap.nil, nilNe (b := pc3), nilNe (b := ws.heap.size), nilNe (b := w2.heap.size), nilNe (b := w16.heap.size), nilNe (b := w232.heap.size), Ap.nil, Ap.nil, Ap.nil, Ap.nil, Ap.nil, Ap.nil, Ap.nil, Ap.nil, B3, B222, K, T, hm⟩ ?_ ?_
                  · rintro f w247 ⟨z244, z245, z246, uz245_0, uz245_1, bsz245_1, uz246_0, uz246_1, bsz246_1, s3_1x, s8_1x, s11_1x, Bz244, Bz245, Guz245_0, Guz245_1, Bz246, Guz246_0, Guz246_1, Noz245_0_obp3, Noz245_0_ob5, Noz245_0_ob9, Noz245_0_ob205, Noz245_0_ob240, Doz245_1_oz245_0, Noz245_1_obp3, Noz245_1_ob5, Noz245_1_ob9, Noz245_1_ob205, Noz245_1_ob240, Doz246_0_oz245_0, Doz246_0_oz245_1, Noz246_0_obp3, Noz246_0_ob5, Noz246_0_ob9, Noz246_0_ob205, Noz246_0_ob240, Doz246_1_oz245_0, Doz246_1_oz245_1, Doz246_1_oz246_0, Noz246_1_obp3, Noz246_1_ob5, Noz246_1_ob9, Noz246_1_ob205, Noz246_1_ob240, B3, B222, K, T, hm⟩
                    unfold m_impl_Net_data_A1 at hm
                    refine blk_hit (then_n ?_)
                    refine wp_seq ?_
                    refine wp_rl rfl ?_
                    refine RL.y rfl (Y.loadN (cs := [.int .i64 z246.kind, .int .i64 z246.value, uz246_0, uz246_1]) s11_1x (by kernel_rfl) (cells4 (eqC (blkCell Bz246 (i := 0) rfl)) (eqC (blkCell Bz246 (i := 1) rfl)) (eqC (blkCell Bz246 (i := 2) rfl)) (eqC (blkCell Bz246 (i := 3) rfl)))) ?_
                    obtain ⟨A248, c249, rfl⟩ := OwF.form Guz246_0
                    have qbA248 := OwF.bound Guz246_0
                    obtain ⟨A250, c251, rfl⟩ := OwN.form Guz246_1
                    have qbA250 := OwN.bound Guz246_1
                    refine RL.store (v := .agg #[.int .i64 z246.kind, .int .i64 z246.value, .slice A248 z246.data.length c249, .slice A250 z246.kids.length c251]) (cs' := #[.int .i64 z246.kind, .int .i64 z246.value, .slice A248 z246.data.length c249, .slice A250 z246.kids.length c251]) rfl s8_1x rfl Bz245 (by kernel_rfl) (by rfl) (by rfl) (by rfl) (fun w252 B253 ho254 => ?_)
                    have szw252 := ho254.size
                    have Bz244 := Bz244.only_ ho254 (by intro hin; simp at hin; exact Eob9_obp3 hin)
                    have B3 := B3.only_ ho254 (by intro hin; simp at hin; exact Eob9_ob5 hin)
                    have B222 := B222.only_ ho254 (by intro hin; simp at hin; exact Eob205_ob9.symm hin)
                    have Bz246 := Bz246.only_ ho254 (by intro hin; simp at hin; exact Eob240_ob9.symm hin)
                    have Guz245_0 := OwF.only Guz245_0 ho254 Noz245_0_ob9
                    have Guz245_1 := OwN.only coreOw_ok Guz245_1 ho254 (Ap.one Noz245_1_ob9)
                    have Guz246_0 := OwF.only Guz246_0 ho254 Noz246_0_ob9
                    have Guz246_1 := OwN.only coreOw_ok Guz246_1 ho254 (Ap.one Noz246_1_ob9)
                    have K := KeepV.far K ho254 KZob9
                    have T := T.trans (ho254.below (by first | (simp; done) | (simp; omega)))
                    refine RL.y rfl (Y.assign (v := .int .i64 0) rfl) ?_
                    refine RL.nil ?_
                    refine then_n ?_
                    refine wp_ret ?_
                    obtain rfl := Option.some.inj hm
                    exact (retct (cs := [.int .i64 z246.kind, .int .i64 z246.value, .slice A248 z246.data.length c249, .slice A250 z246.kids.length c251]) rfl rfl s8_1x rfl (by kernel_rfl) (blkCells B253) ⟨⟨_, _, _, rfl, Guz246_0, Guz246_1, (Ap.symm Doz246_1_oz246_0)⟩, Bz244, K, T⟩)
                  · rintro g f w259 ⟨i255, z256, z257, z258, uz257_0, uz257_1, bsz257_1, uz258_0, uz258_1, bsz258_1, s0_1, s2_1, s3_1, s5_1, s8_1, s10_1, s11_1, s12_1, nn12_1, Bz256, Bz257, Guz257_0, Guz257_1, Bz258, Guz258_0, Guz258_1, Noz257_0_obp3, Noz257_0_ob5, Noz257_0_ob9, Noz257_0_ob205, Noz257_0_ob240, Doz257_1_oz257_0, Noz257_1_obp3, Noz257_1_ob5, Noz257_1_ob9, Noz257_1_ob205, Noz257_1_ob240, Doz258_0_oz257_0, Doz258_0_oz257_1, Noz258_0_obp3, Noz258_0_ob5, Noz258_0_ob9, Noz258_0_ob205, Noz258_0_ob240, Doz258_1_oz257_0, Doz258_1_oz257_1, Doz258_1_oz258_0, Noz258_1_obp3, Noz258_1_ob5, Noz258_1_ob9, Noz258_1_ob205, Noz258_1_ob240, B3, B222, K, T, hm⟩
                    rcases g with _ | g
                    · simp only [m_impl_Net_data_L1] at hm; cases hm
                    obtain ⟨rec1, hrec1, hm⟩ : ∃ z, z = m_impl_Net_data_L1 d0 d1 d2 self x210 K1 g ∧ m_impl_Net_data_B1 d0 d1 d2 self x210 z K1 i255 z256 z257 z258 = some r := ⟨_, rfl, hm⟩
                    unfold m_impl_Net_data_B1 at hm
                    refine wp_seq ?_
                    refine wp_seq ?_
                    refine wp_rs rfl ?_
                    refine RQ.y rfl (Y.move (v := .int .i64 i255) s12_1) ?_
                    refine RQ.y rfl (Y.fieldAddr (off := 4) s10_1 (by kernel_rfl)) ?_
                    refine RQ.y rfl (Y.load (v := .slice A220 x210.ports.length c220) rfl (by kernel_rfl) (eqC (blkCell B222 (i := 4) rfl))) ?_
                    refine RQ.y rfl (Y.len (by kernel_rfl) rfl) ?_
                    refine RQ.y rfl (Y.binI (v := .bool (decide (i255 < (x210.ports.length : Int)))) rfl rfl rfl) ?_
                    refine RQ.nil ?_
                    refine then_n ?_
                    rcases bcases (decide (i255 < (x210.ports.length : Int))) with c260 | c260
                    · replace hm := cF c260 hm
                      have pc260 := of_decide_eq_false c260
                      refine cond_f rfl (vb rfl c260) ?_
                      refine wp_exit ?_
                      exact (then_x (then_x (hit_x ⟨_, rfl, ⟨z256, z257, z258, (uz257_0), (uz257_1), bsz257_1, (uz258_0), (uz258_1), bsz258_1, s3_1, s8_1, s11_1, Bz256, Bz257, Guz257_0, Guz257_1, Bz258, Guz258_0, Guz258_1, (ap_ne (ne_ap Noz257_0_obp3)), (ap_ne (ne_ap Noz257_0_ob5)), (ap_ne (ne_ap Noz257_0_ob9)), (ap_ne (ne_ap Noz257_0_ob205)), (ap_ne (ne_ap Noz257_0_ob240)), Doz257_1_oz257_0, Noz257_1_obp3, Noz257_1_ob5, Noz257_1_ob9, Noz257_1_ob205, Noz257_1_ob240, (Ap.dj (Dj.ap Doz258_0_oz257_0)), Doz258_0_oz257_1, (ap_ne (ne_ap Noz258_0_obp3)), (ap_ne (ne_ap Noz258_0_ob5)), (ap_ne (ne_ap Noz258_0_ob9)), (ap_ne (ne_ap Noz258_0_ob205)), (ap_ne (ne_ap Noz258_0_ob240)), Doz258_1_oz257_0, Doz258_1_oz257_1, Doz258_1_oz258_0, Noz258_1_obp3, Noz258_1_ob5, Noz258_1_ob9, Noz258_1_ob205, Noz258_1_ob240, B3, B222, K, T, (by rw [hK1] at hm; exact hm)⟩⟩)))
                    · replace hm := cT c260 hm
                      have pc260 := of_decide_eq_true c260
                      refine cond_t rfl (vb rfl c260) ?_
                      refine wp_skip ?_
                      refine then_n ?_
                      refine wp_seq ?_
                      refine wp_block ?_
                      refine wp_seq ?_
                      refine wp_rl rfl ?_
                      refine RL.y rfl (Y.move (v := .pointer (some ⟨ba0, oa0, none⟩)) s0_1) ?_
                      refine RL.y rfl (Y.move (v := .pointer (some ⟨ba0, oa0, none⟩)) s0_1) ?_
                      refine RL.y rfl (Y.loadN (cs := [.int .i64 d1.agent, .int .i64 d1.slot]) s5_1 (by kernel_rfl) (cells2 (eqC (blkCell B3 (i := 0) rfl)) (eqC (blkCell B3 (i := 1) rfl)))) ?_
                      obtain ⟨y261, e262, hm⟩ := bnd hm
                      refine RL.call rfl (am2 rfl rfl) (by kernel_rfl) ((c_m_impl_Net_peer d0 d1 _ e262 _ _ (ptArg netRd_ok hba0 hSa0 hca0 T)).mono ?_)
                      rintro _ w263 ⟨rfl, hb264⟩
                      refine ⟨_, rfl, ?_⟩
                      have szw263 := hb264.size
                      have Bz256 := blkT Bz256 hb264
                      have B3 := blkT B3 hb264
                      have Bz257 := blkT Bz257 hb264
                      have B222 := blkT B222 hb264
                      have Bz258 := blkT Bz258 hb264
                      have Guz257_0 := OwF.below Guz257_0 hb264
                      have Guz257_1 := OwN.below coreOw_ok Guz257_1 hb264
                      have Guz258_0 := OwF.below Guz258_0 hb264
                      have Guz258_1 := OwN.below coreOw_ok Guz258_1 hb264
                      have K := KeepV.below K hb264
                      have T := Tt T hb264
                      refine RL.y rfl (Y.field (i := 0) (v := .int .i64 y261.agent) rfl (by kernel_rfl)) ?_
                      refine RL.y rfl (Y.move (v := .int .i64 i255) s12_1) ?_
                      refine RL.y rfl (Y.build2 (cells := #[.int .i64 y261.agent, .int .i64 i255]) rfl rfl (by kernel_rfl) (by kernel_rfl)) ?_
                      refine RL.y rfl (Y.move (v := .int .i64 d2) s2_1) ?_
                      obtain ⟨s265, ks265, hm⟩ := bnd hm
                      replace ks265 := ck_some ks265
                      refine RL.y rfl (Y.binI (v := .int .i64 s265) rfl rfl (by rw [binI_add ks265.2, ks265.1])) ?_
                      refine RL.y rfl (Y.move (v := .pointer (some ⟨pc3, 0, none⟩)) s3_1) ?_
                      obtain ⟨y266, e267, hm⟩ := bnd hm
                      refine RL.call rfl (am4 rfl rfl rfl rfl) (by kernel_rfl) ((ih d0 (⟨y261.agent, i255⟩ : DPort) s265 z256 _ (by rw [← hself]; exact e267) _ w w263 T (ptArg netRd_ok hba0 hSa0 hca0 (Below.refl _ _)) _ Bz256 hl3).mono ?_)
                      rintro _ w275 ⟨⟨v268, v271, bs274, rfl, G269, G272, Ro270_o273⟩, B278, K276, hb277⟩
                      refine ⟨_, rfl, ?_⟩
                      have szw275 := K276.size
                      have T0w275 := K.size
                      have Zo270_obp3 := ap_ne (Ap.new (OwF.flo G269) (one_hi Bz256.lt))
                      have Zo270_ob5 := ap_ne (Ap.new (OwF.flo G269) (one_hi B3.lt))
                      have Zo270_ob9 := ap_ne (Ap.new (OwF.flo G269) (one_hi Bz257.lt))
                      have Zo270_ob205 := ap_ne (Ap.new (OwF.flo G269) (one_hi B222.lt))
                      have Zo270_ob240 := ap_ne (Ap.new (OwF.flo G269) (one_hi Bz258.lt))
                      have Zo270_oz257_0 := Ap.dj (Ap.new (OwF.flo G269) (OwF.fhi Guz257_0))
                      have Zo270_oz257_1 : Ap (fb v268) bsz257_1 := (Ap.new (OwF.flo G269) (OwN.hi Guz257_1))
                      have Zo270_oz258_0 := Ap.dj (Ap.new (OwF.flo G269) (OwF.fhi Guz258_0))
                      have Zo270_oz258_1 : Ap (fb v268) bsz258_1 := (Ap.new (OwF.flo G269) (OwN.hi Guz258_1))
                      have Zo273_obp3 : Ap bs274 [pc3] := (Ap.new (OwN.lo_ G272) (one_hi Bz256.lt))
                      have Zo273_ob5 : Ap bs274 [ws.heap.size] := (Ap.new (OwN.lo_ G272) (one_hi B3.lt))
                      have Zo273_ob9 : Ap bs274 [w2.heap.size] := (Ap.new (OwN.lo_ G272) (one_hi Bz257.lt))
                      have Zo273_ob205 : Ap bs274 [w16.heap.size] := (Ap.new (OwN.lo_ G272) (one_hi B222.lt))
                      have Zo273_ob240 : Ap bs274 [w232.heap.size] := (Ap.new (OwN.lo_ G272) (one_hi Bz258.lt))
                      have Zo273_oz257_0 : Ap bs274 (fb uz257_0) := (Ap.new (OwN.lo_ G272) (OwF.fhi Guz257_0))
                      have Zo273_oz257_1 : Ap bs274 bsz257_1 := (Ap.new (OwN.lo_ G272) (OwN.hi Guz257_1))
                      have Zo273_oz258_0 : Ap bs274 (fb uz258_0) := (Ap.new (OwN.lo_ G272) (OwF.fhi Guz258_0))
                      have Zo273_oz258_1 : Ap bs274 bsz258_1 := (Ap.new (OwN.lo_ G272) (OwN.hi Guz258_1))
                      have B3 := Blk.keepV B3 K276 (cellNe Eob5_obp3.symm) (cellNe Eob5_obp3.symm)
                      have Bz257 := Blk.keepV Bz257 K276 (cellNe Eob9_obp3.symm) (cellNe Eob9_obp3.symm)
                      have B222 := Blk.keepV B222 K276 (cellNe Eob205_obp3.symm) (cellNe Eob205_obp3.symm)
                      have Bz258 := Blk.keepV Bz258 K276 (cellNe Eob240_obp3.symm) (cellNe Eob240_obp3.symm)
                      have Guz257_0 := OwF.keepV Guz257_0 K276 (cellDj Noz257_0_obp3) (cellDj Noz257_0_obp3)
                      have Guz257_1 := OwN.keepV coreOw_ok Guz257_1 K276 Noz257_1_obp3 Noz257_1_obp3
                      have Guz258_0 := OwF.keepV Guz258_0 K276 (cellDj Noz258_0_obp3) (cellDj Noz258_0_obp3)
                      have Guz258_1 := OwN.keepV coreOw_ok Guz258_1 K276 Noz258_1_obp3 Noz258_1_obp3
                      have T := hb277
                      have K := KeepV.tr K K276
                      replace G269 := OwF.mono G269 T0w275
                      replace G272 := OwN.mono G272 T0w275
                      refine RL.y rfl (Y.move (v := .tuple #[.agg #[.int .i64 y266.1.kind, .int .i64 y266.1.value, v268, v271], .int .i64 y266.2.1]) rfl) ?_
                      refine RL.y rfl (Y.extract (i := 0) rfl rfl) ?_
                      refine RL.y rfl (Y.extract (i := 1) rfl rfl) ?_
                      refine RL.alloc (z := .agg #[.int .i64 0, .int .i64 0, .slice none 0 0, .slice none 0 0]) rfl (by kernel_rfl) (fun w279 B280 hb281 szw279 => ?_)
                      replace B280 : Blk w279 w275.heap.size 42 #[.int .i64 0, .int .i64 0, .slice none 0 0, .slice none 0 0] := B280
                      have GB280 : ws.heap.size ≤ w275.heap.size := K.size
                      have KZob282 := K.size
                      have Eob282_obp3 := Nat.ne_of_lt B278.lt
                      have Eob282_ob5 := Nat.ne_of_lt B3.lt
                      have Eob282_ob9 := Nat.ne_of_lt Bz257.lt
                      have Eob282_ob205 := Nat.ne_of_lt B222.lt
                      have Eob282_ob240 := Nat.ne_of_lt Bz258.lt
                      have Noz257_0_ob282 := OwF.far Guz257_0 (Nat.le_refl _)
                      have Noz257_1_ob282 := Ap.far (OwN.hi Guz257_1)
                      have Noz258_0_ob282 := OwF.far Guz258_0 (Nat.le_refl _)
                      have Noz258_1_ob282 := Ap.far (OwN.hi Guz258_1)
                      have No270_ob282 := OwF.far G269 (Nat.le_refl _)
                      have No273_ob282 := Ap.far (OwN.hi G272)
                      have B278 := blkT B278 hb281
                      have B3 := blkT B3 hb281
                      have Bz257 := blkT Bz257 hb281
                      have B222 := blkT B222 hb281
                      have Bz258 := blkT Bz258 hb281
                      have Guz257_0 := OwF.below Guz257_0 hb281
                      have Guz257_1 := OwN.below coreOw_ok Guz257_1 hb281
                      have Guz258_0 := OwF.below Guz258_0 hb281
                      have Guz258_1 := OwN.below coreOw_ok Guz258_1 hb281
                      have G269 := OwF.below G269 hb281
                      have G272 := OwN.below coreOw_ok G272 hb281
                      have K := KeepV.below K hb281
                      have T := Tt T hb281
                      obtain ⟨A283, c284, rfl⟩ := OwF.form G269
                      have qbA283 := OwF.bound G269
                      obtain ⟨A285, c286, rfl⟩ := OwN.form G272
                      have qbA285 := OwN.bound G272
                      refine RL.store (v := .agg #[.int .i64 y266.1.kind, .int .i64 y266.1.value, .slice A283 y266.1.data.length c284, .slice A285 y266.1.kids.length c286]) (cs' := #[.int .i64 y266.1.kind, .int .i64 y266.1.value, .slice A283 y266.1.data.length c284, .slice A285 y266.1.kids.length c286]) rfl rfl rfl B280 (by kernel_rfl) (by rfl) (by rfl) (by rfl) (fun w287 B288 ho289 => ?_)
                      have szw287 := ho289.size
                      have B278 := B278.only_ ho289 (by intro hin; simp at hin; exact Eob282_obp3 hin)
                      have B3 := B3.only_ ho289 (by intro hin; simp at hin; exact Eob282_ob5 hin)
                      have Bz257 := Bz257.only_ ho289 (by intro hin; simp at hin; exact Eob282_ob9 hin)
                      have B222 := B222.only_ ho289 (by intro hin; simp at hin; exact Eob282_ob205 hin)
                      have Bz258 := Bz258.only_ ho289 (by intro hin; simp at hin; exact Eob282_ob240 hin)
                      have Guz257_0 := OwF.only Guz257_0 ho289 Noz257_0_ob282
                      have Guz257_1 := OwN.only coreOw_ok Guz257_1 ho289 (Ap.one Noz257_1_ob282)
                      have Guz258_0 := OwF.only Guz258_0 ho289 Noz258_0_ob282
                      have Guz258_1 := OwN.only coreOw_ok Guz258_1 ho289 (Ap.one Noz258_1_ob282)
                      have G269 := OwF.only G269 ho289 No270_ob282
                      have G272 := OwN.only coreOw_ok G272 ho289 (Ap.one No273_ob282)
                      have K := KeepV.far K ho289 KZob282
                      have T := T.trans (ho289.below (by first | (simp; done) | (simp; omega)))
                      refine RL.y rfl (Y.assign (v := .int .i64 y266.2.1) rfl) ?_
                      refine RL.nil ?_
                      refine then_n ?_
                      refine wp_seq ?_
                      refine wp_seq ?_
                      refine wp_rs rfl ?_
                      refine RQ.y rfl (Y.move (v := .int .i64 y266.2.1) rfl) ?_
                      refine RQ.y rfl (Y.binI (v := .bool (y266.2.1 != 0)) rfl rfl rfl) ?_
                      refine RQ.nil ?_
                      refine then_n ?_
                      rcases bcases (y266.2.1 != 0) with c290 | c290
                      · replace hm := cF c290 hm
                        refine cond_f rfl (vb rfl c290) ?_
                        refine wp_skip ?_
                        refine then_n ?_
                        refine wp_rl rfl ?_
                        refine RL.y rfl (Y.fieldAddr (off := 3) s11_1 (by kernel_rfl)) ?_
                        refine RL.y rfl (Y.load (v := uz258_1) rfl (by kernel_rfl) (eqC (blkCell Bz258 (i := 3) rfl))) ?_
                        refine RL.y rfl (Y.loadN (cs := [.int .i64 y266.1.kind, .int .i64 y266.1.value, .slice A283 y266.1.data.length c284, .slice A285 y266.1.kids.length c286]) rfl (by kernel_rfl) (cells4 (eqC (blkCell B288 (i := 0) rfl)) (eqC (blkCell B288 (i := 1) rfl)) (eqC (blkCell B288 (i := 2) rfl)) (eqC (blkCell B288 (i := 3) rfl)))) ?_
                        refine RL.bslice (e := 42) (cells := #[.int .i64 y266.1.kind, .int .i64 y266.1.value, .slice A283 y266.1.data.length c284, .slice A285 y266.1.kids.length c286]) rfl (pm1 rfl) (by kernel_rfl) (fun w291 B292 hb293 szw291 => ?_)
                        have ZB292 : ws.heap.size ≤ w287.heap.size := K.size
                        have q295 := OwF.fboth G269 (Nat.le_refl _)
                        have q296 := OwN.both G272 (Nat.le_refl _)
                        have z297 := Ap.cons (Ap.farL (one_hi B278.lt)) (Ap.append (ne_ap Zo270_obp3) Zo273_obp3)
                        have z298 := Ap.cons (Ap.farL (one_hi B3.lt)) (Ap.append (ne_ap Zo270_ob5) Zo273_ob5)
                        have z299 := Ap.cons (Ap.farL (one_hi Bz257.lt)) (Ap.append (ne_ap Zo270_ob9) Zo273_ob9)
                        have z300 := Ap.cons (Ap.farL (one_hi B222.lt)) (Ap.append (ne_ap Zo270_ob205) Zo273_ob205)
                        have z301 := Ap.cons (Ap.farL (one_hi Bz258.lt)) (Ap.append (ne_ap Zo270_ob240) Zo273_ob240)
                        have z302 := Ap.cons (Ap.farL (one_hi B288.lt)) (Ap.append (ne_ap No270_ob282) No273_ob282)
                        have z303 := Ap.cons (Ap.farL (OwF.fhi Guz257_0)) (Ap.append (Dj.ap Zo270_oz257_0) Zo273_oz257_0)
                        have z304 := Ap.cons (Ap.farL (OwN.hi Guz257_1)) (Ap.append Zo270_oz257_1 Zo273_oz257_1)
                        have z305 := Ap.cons (Ap.farL (OwF.fhi Guz258_0)) (Ap.append (Dj.ap Zo270_oz258_0) Zo273_oz258_0)
                        have z306 := Ap.cons (Ap.farL (OwN.hi Guz258_1)) (Ap.append Zo270_oz258_1 Zo273_oz258_1)
                        have B278 := blkT B278 hb293
                        have B3 := blkT B3 hb293
                        have Bz257 := blkT Bz257 hb293
                        have B222 := blkT B222 hb293
                        have Bz258 := blkT Bz258 hb293
                        have B288 := blkT B288 hb293
                        have Guz257_0 := OwF.below Guz257_0 hb293
                        have Guz257_1 := OwN.below coreOw_ok Guz257_1 hb293
                        have Guz258_0 := OwF.below Guz258_0 hb293
                        have Guz258_1 := OwN.below coreOw_ok Guz258_1 hb293
                        have G269 := OwF.below G269 hb293
                        have G272 := OwN.below coreOw_ok G272 hb293
                        have K := KeepV.below K hb293
                        have T := Tt T hb293
                        obtain ⟨l308, a307, nd309, sb310, r311⟩ := OwF.own2 fI G269
                        obtain ⟨_, _, _, l313, hea312, a312, nd314, sb315, r316⟩ := OwN.own1 coreOw_ok G272
                        injection hea312 with e1 e2 e3; subst e1 e2 e3
                        have G317 : OwN 42 coreOw 4 w291 ws.heap.size (.slice (some ⟨w287.heap.size, 0, none⟩) 1 1) [y266.1] (w287.heap.size :: ((fb (.slice A283 y266.1.data.length c284)) ++ bs274)) := OwN.lit1 (b1 := (l308 ++ l313)) B292 ZB292 (coreOw_in ⟨_, _, _, _, _, _, l308, l313, rfl, ⟨a307, r311⟩, ⟨a312, r316⟩, rfl⟩) coreOw_ok (nodup2 nd309 nd314 sb310 sb315 Ro270_o273) (sub2 sb310 sb315) (all2 q295 q296)
                        obtain ⟨_, m319, hm⟩ := bnd hm
                        have hk320 := mustP_some m319
                        refine RL.appendN coreOw_ok coreOw_one (by decide) app_impl_Core rfl rfl rfl Guz258_1 G317 (Ap.symm z306) K.size hk320 (fun v321 w322 bs323 G324 hgr325 hbl326 hnb327 => ?_)
                        have szw322 := hbl326.size
                        have z329 := Ap.app hnb327 Noz258_1_obp3 z297 (one_hi B278.lt)
                        have z330 := Ap.app hnb327 Noz258_1_ob5 z298 (one_hi B3.lt)
                        have z331 := Ap.app hnb327 Noz258_1_ob9 z299 (one_hi Bz257.lt)
                        have z332 := Ap.app hnb327 Noz258_1_ob205 z300 (one_hi B222.lt)
                        have z333 := Ap.app hnb327 Noz258_1_ob240 z301 (one_hi Bz258.lt)
                        have z334 := Ap.app hnb327 Noz258_1_ob282 z302 (one_hi B288.lt)
                        have z335 := Ap.app hnb327 Doz258_1_oz257_0 z303 (OwF.fhi Guz257_0)
                        have z336 := Ap.app hnb327 Doz258_1_oz257_1 z304 (OwN.hi Guz257_1)
                        have z337 := Ap.app hnb327 Doz258_1_oz258_0 z305 (OwF.fhi Guz258_0)
                        have B278 := Blk.kept B278 hgr325 (OwN.neB Guz258_1 Noz258_1_obp3)
                        have B3 := Blk.kept B3 hgr325 (OwN.neB Guz258_1 Noz258_1_ob5)
                        have Bz257 := Blk.kept Bz257 hgr325 (OwN.neB Guz258_1 Noz258_1_ob9)
                        have B222 := Blk.kept B222 hgr325 (OwN.neB Guz258_1 Noz258_1_ob205)
                        have Bz258 := Blk.kept Bz258 hgr325 (OwN.neB Guz258_1 Noz258_1_ob240)
                        have B288 := Blk.kept B288 hgr325 (OwN.neB Guz258_1 Noz258_1_ob282)
                        have Guz257_0 := OwF.keptD Guz257_0 hgr325 (OwN.dj Guz258_1 Doz258_1_oz257_0)
                        have Guz257_1 := OwN.grown coreOw_ok Guz257_1 hgr325 (OwN.apRow Guz258_1 Doz258_1_oz257_1)
                        have Guz258_0 := OwF.keptD Guz258_0 hgr325 (OwN.dj Guz258_1 Doz258_1_oz258_0)
                        have K := KeepV.belowLo K hbl326
                        have T := T.trans (Below.weak LW hbl326)
                        refine RL.y rfl (Y.fieldAddr (off := 3) s11_1 (by kernel_rfl)) ?_
                        obtain ⟨A338, c339, rfl⟩ := OwN.form G324
                        have qbA338 := OwN.bound G324
                        refine RL.store (v := .slice A338 ((z258.kids ++ [y266.1]).length) c339) (cs' := #[.int .i64 z258.kind, .int .i64 z258.value, uz258_0, .slice A338 ((z258.kids ++ [y266.1]).length) c339]) rfl rfl rfl Bz258 (by kernel_rfl) (by rfl) (by rfl) (by rfl) (fun w340 B341 ho342 => ?_)
                        have szw340 := ho342.size
                        have B278 := B278.only_ ho342 (by intro hin; simp at hin; exact Eob240_obp3 hin)
                        have B3 := B3.only_ ho342 (by intro hin; simp at hin; exact Eob240_ob5 hin)
                        have Bz257 := Bz257.only_ ho342 (by intro hin; simp at hin; exact Eob240_ob9 hin)
                        have B222 := B222.only_ ho342 (by intro hin; simp at hin; exact Eob240_ob205 hin)
                        have B288 := B288.only_ ho342 (by intro hin; simp at hin; exact Eob282_ob240.symm hin)
                        have Guz257_0 := OwF.only Guz257_0 ho342 Noz257_0_ob240
                        have Guz257_1 := OwN.only coreOw_ok Guz257_1 ho342 (Ap.one Noz257_1_ob240)
                        have Guz258_0 := OwF.only Guz258_0 ho342 Noz258_0_ob240
                        have G324 := OwN.only coreOw_ok G324 ho342 (Ap.one z333)
                        have K := KeepV.far K ho342 KZob240
                        have T := T.trans (ho342.below (by first | (simp; done) | (simp; omega)))
                        refine RL.nil ?_
                        refine blk_n (then_n ?_)
                        refine wp_rs rfl ?_
                        refine RQ.y rfl (Y.move (v := .int .i64 i255) s12_1) ?_
                        refine RQ.y rfl (Y.binI rfl rfl (binI_add (m := i255) (by omega))) ?_
                        refine RQ.y rfl (Y.assign (v := .int .i64 (i255 + 1)) rfl) ?_
                        refine RQ.nil ?_
                        exact (then_n ⟨g, _, Nat.lt_succ_self _, rfl, ⟨(i255 + 1), y266.2.2, z257, (⟨z258.kind, z258.value, z258.data, (z258.kids ++ [y266.1])⟩ : DCore), (uz257_0), (uz257_1), bsz257_1, (uz258_0), (.slice A338 ((z258.kids ++ [y266.1]).length) c339), bs323, s0_1, s2_1, s3_1, s5_1, s8_1, s10_1, s11_1, rfl, (by omega), B278, Bz257, Guz257_0, Guz257_1, B341, Guz258_0, G324, (ap_ne (ne_ap Noz257_0_obp3)), (ap_ne (ne_ap Noz257_0_ob5)), (ap_ne (ne_ap Noz257_0_ob9)), (ap_ne (ne_ap Noz257_0_ob205)), (ap_ne (ne_ap Noz257_0_ob240)), Doz257_1_oz257_0, Noz257_1_obp3, Noz257_1_ob5, Noz257_1_ob9, Noz257_1_ob205, Noz257_1_ob240, (Ap.dj (Dj.ap Doz258_0_oz257_0)), Doz258_0_oz257_1, (ap_ne (ne_ap Noz258_0_obp3)), (ap_ne (ne_ap Noz258_0_ob5)), (ap_ne (ne_ap Noz258_0_ob9)), (ap_ne (ne_ap Noz258_0_ob205)), (ap_ne (ne_ap Noz258_0_ob240)), z335, z336, z337, z329, z330, z331, z332, z333, B3, B222, K, T, (by rw [← hrec1]; exact hm)⟩⟩)
                      · replace hm := cT c290 hm
                        refine cond_t rfl (vb rfl c290) ?_
                        refine wp_seq ?_
                        refine wp_rl rfl ?_
                        refine RL.y rfl (Y.build0 (cells := #[.int .i64 0, .int .i64 0, .slice none 0 0, .slice none 0 0])  (by kernel_rfl) (by kernel_rfl)) ?_
                        refine RL.y rfl (Y.move (v := .int .i64 y266.2.1) rfl) ?_
                        refine RL.store (v := .agg #[.int .i64 0, .int .i64 0, .slice none 0 0, .slice none 0 0]) (cs' := #[.int .i64 0, .int .i64 0, .slice none 0 0, .slice none 0 0]) rfl s8_1 rfl Bz257 (by kernel_rfl) (by rfl) (by rfl) (by rfl) (fun w343 B344 ho345 => ?_)
                        have szw343 := ho345.size
                        have B278 := B278.only_ ho345 (by intro hin; simp at hin; exact Eob9_obp3 hin)
                        have B3 := B3.only_ ho345 (by intro hin; simp at hin; exact Eob9_ob5 hin)
                        have B222 := B222.only_ ho345 (by intro hin; simp at hin; exact Eob205_ob9.symm hin)
                        have Bz258 := Bz258.only_ ho345 (by intro hin; simp at hin; exact Eob240_ob9.symm hin)
                        have B288 := B288.only_ ho345 (by intro hin; simp at hin; exact Eob282_ob9.symm hin)
                        have Guz257_0 := OwF.only Guz257_0 ho345 Noz257_0_ob9
                        have Guz257_1 := OwN.only coreOw_ok Guz257_1 ho345 (Ap.one Noz257_1_ob9)
                        have Guz258_0 := OwF.only Guz258_0 ho345 Noz258_0_ob9
                        have Guz258_1 := OwN.only coreOw_ok Guz258_1 ho345 (Ap.one Noz258_1_ob9)
                        have G269 := OwF.only G269 ho345 Zo270_ob9
                        have G272 := OwN.only coreOw_ok G272 ho345 (Ap.one Zo273_ob9)
                        have K := KeepV.far K ho345 KZob9
                        have T := T.trans (ho345.below (by first | (simp; done) | (simp; omega)))
                        refine RL.y rfl (Y.assign (v := .int .i64 y266.2.1) rfl) ?_
                        refine RL.nil ?_
                        refine then_n ?_
                        refine wp_ret ?_
                        obtain rfl := Option.some.inj hm
                        exact (then_r (blk_r (then_r (then_r (hit_r (blk_r (then_r (retct (cs := [.int .i64 0, .int .i64 0, .slice none 0 0, .slice none 0 0]) rfl rfl s8_1 rfl (by kernel_rfl) (blkCells B344) ⟨⟨_, _, _, rfl, OwF.nil, OwN.nil, Ap.nil⟩, B278, K, T⟩))))))))
                · replace hm := cT c236 hm
                  refine cond_t rfl (vb rfl c236) ?_
                  refine wp_seq ?_
                  refine wp_rl rfl ?_
                  refine RL.y rfl (Y.fieldAddr (off := 2) rfl (by kernel_rfl)) ?_
                  refine RL.y rfl (Y.load (v := .int .i64 x210.value) rfl (by kernel_rfl) (eqC (blkCell B222 (i := 2) rfl))) ?_
                  obtain ⟨y347, e348, hm⟩ := bnd hm
                  refine RL.call rfl (am1 rfl) (by kernel_rfl) ((c_m_impl_coreRef x210.value _ e348  _ ).mono ?_)
                  rintro _ w356 ⟨⟨v349, v352, bs355, rfl, G350, G353, Ro351_o354⟩, hb357⟩
                  refine ⟨_, rfl, ?_⟩
                  have szw356 := hb357.size
                  have T0w356 := K.size
                  have Zo351_obp3 := ap_ne (Ap.new (OwF.flo G350) (one_hi B14.lt))
                  have Zo351_ob5 := ap_ne (Ap.new (OwF.flo G350) (one_hi B3.lt))
                  have Zo351_ob9 := ap_ne (Ap.new (OwF.flo G350) (one_hi B7.lt))
                  have Zo351_ob205 := ap_ne (Ap.new (OwF.flo G350) (one_hi B222.lt))
                  have Zo354_obp3 : Ap bs355 [pc3] := (Ap.new (OwN.lo_ G353) (one_hi B14.lt))
                  have Zo354_ob5 : Ap bs355 [ws.heap.size] := (Ap.new (OwN.lo_ G353) (one_hi B3.lt))
                  have Zo354_ob9 : Ap bs355 [w2.heap.size] := (Ap.new (OwN.lo_ G353) (one_hi B7.lt))
                  have Zo354_ob205 : Ap bs355 [w16.heap.size] := (Ap.new (OwN.lo_ G353) (one_hi B222.lt))
                  have B14 := blkT B14 hb357
                  have B3 := blkT B3 hb357
                  have B7 := blkT B7 hb357
                  have B222 := blkT B222 hb357
                  have K := KeepV.below K hb357
                  have T := Tt T hb357
                  replace G350 := OwF.mono G350 T0w356
                  replace G353 := OwN.mono G353 T0w356
                  obtain ⟨A358, c359, rfl⟩ := OwF.form G350
                  have qbA358 := OwF.bound G350
                  obtain ⟨A360, c361, rfl⟩ := OwN.form G353
                  have qbA360 := OwN.bound G353
                  refine RL.store (v := .agg #[.int .i64 y347.kind, .int .i64 y347.value, .slice A358 y347.data.length c359, .slice A360 y347.kids.length c361]) (cs' := #[.int .i64 y347.kind, .int .i64 y347.value, .slice A358 y347.data.length c359, .slice A360 y347.kids.length c361]) rfl rfl rfl B7 (by kernel_rfl) (by rfl) (by rfl) (by rfl) (fun w362 B363 ho364 => ?_)
                  have szw362 := ho364.size
                  have B14 := B14.only_ ho364 (by intro hin; simp at hin; exact Eob9_obp3 hin)
                  have B3 := B3.only_ ho364 (by intro hin; simp at hin; exact Eob9_ob5 hin)
                  have B222 := B222.only_ ho364 (by intro hin; simp at hin; exact Eob205_ob9.symm hin)
                  have G350 := OwF.only G350 ho364 Zo351_ob9
                  have G353 := OwN.only coreOw_ok G353 ho364 (Ap.one Zo354_ob9)
                  have K := KeepV.far K ho364 KZob9
                  have T := T.trans (ho364.below (by first | (simp; done) | (simp; omega)))
                  refine RL.y rfl (Y.assign (v := .int .i64 0) rfl) ?_
                  refine RL.nil ?_
                  refine then_n ?_
                  refine wp_ret ?_
                  obtain rfl := Option.some.inj hm
                  exact (blk_r (then_r (retct (cs := [.int .i64 y347.kind, .int .i64 y347.value, .slice A358 y347.data.length c359, .slice A360 y347.kids.length c361]) rfl rfl rfl rfl (by kernel_rfl) (blkCells B363) ⟨⟨_, _, _, rfl, G350, G353, Ro351_o354⟩, B14, K, T⟩)))
              · replace hm := cT c235 hm
                refine cond_t rfl (vb rfl c235) ?_
                refine wp_seq ?_
                refine wp_rl rfl ?_
                refine RL.y rfl (Y.fieldAddr (off := 2) rfl (by kernel_rfl)) ?_
                refine RL.y rfl (Y.load (v := .int .i64 x210.value) rfl (by kernel_rfl) (eqC (blkCell B222 (i := 2) rfl))) ?_
                obtain ⟨y365, e366, hm⟩ := bnd hm
                refine RL.call rfl (am1 rfl) (by kernel_rfl) ((c_m_impl_coreNum x210.value _ e366  _ ).mono ?_)
                rintro _ w374 ⟨⟨v367, v370, bs373, rfl, G368, G371, Ro369_o372⟩, hb375⟩
                refine ⟨_, rfl, ?_⟩
                have szw374 := hb375.size
                have T0w374 := K.size
                have Zo369_obp3 := ap_ne (Ap.new (OwF.flo G368) (one_hi B14.lt))
                have Zo369_ob5 := ap_ne (Ap.new (OwF.flo G368) (one_hi B3.lt))
                have Zo369_ob9 := ap_ne (Ap.new (OwF.flo G368) (one_hi B7.lt))
                have Zo369_ob205 := ap_ne (Ap.new (OwF.flo G368) (one_hi B222.lt))
                have Zo372_obp3 : Ap bs373 [pc3] := (Ap.new (OwN.lo_ G371) (one_hi B14.lt))
                have Zo372_ob5 : Ap bs373 [ws.heap.size] := (Ap.new (OwN.lo_ G371) (one_hi B3.lt))
                have Zo372_ob9 : Ap bs373 [w2.heap.size] := (Ap.new (OwN.lo_ G371) (one_hi B7.lt))
                have Zo372_ob205 : Ap bs373 [w16.heap.size] := (Ap.new (OwN.lo_ G371) (one_hi B222.lt))
                have B14 := blkT B14 hb375
                have B3 := blkT B3 hb375
                have B7 := blkT B7 hb375
                have B222 := blkT B222 hb375
                have K := KeepV.below K hb375
                have T := Tt T hb375
                replace G368 := OwF.mono G368 T0w374
                replace G371 := OwN.mono G371 T0w374
                obtain ⟨A376, c377, rfl⟩ := OwF.form G368
                have qbA376 := OwF.bound G368
                obtain ⟨A378, c379, rfl⟩ := OwN.form G371
                have qbA378 := OwN.bound G371
                refine RL.store (v := .agg #[.int .i64 y365.kind, .int .i64 y365.value, .slice A376 y365.data.length c377, .slice A378 y365.kids.length c379]) (cs' := #[.int .i64 y365.kind, .int .i64 y365.value, .slice A376 y365.data.length c377, .slice A378 y365.kids.length c379]) rfl rfl rfl B7 (by kernel_rfl) (by rfl) (by rfl) (by rfl) (fun w380 B381 ho382 => ?_)
                have szw380 := ho382.size
                have B14 := B14.only_ ho382 (by intro hin; simp at hin; exact Eob9_obp3 hin)
                have B3 := B3.only_ ho382 (by intro hin; simp at hin; exact Eob9_ob5 hin)
                have B222 := B222.only_ ho382 (by intro hin; simp at hin; exact Eob205_ob9.symm hin)
                have G368 := OwF.only G368 ho382 Zo369_ob9
                have G371 := OwN.only coreOw_ok G371 ho382 (Ap.one Zo372_ob9)
                have K := KeepV.far K ho382 KZob9
                have T := T.trans (ho382.below (by first | (simp; done) | (simp; omega)))
                refine RL.y rfl (Y.assign (v := .int .i64 0) rfl) ?_
                refine RL.nil ?_
                refine then_n ?_
                refine wp_ret ?_
                obtain rfl := Option.some.inj hm
                exact (blk_r (then_r (retct (cs := [.int .i64 y365.kind, .int .i64 y365.value, .slice A376 y365.data.length c377, .slice A378 y365.kids.length c379]) rfl rfl rfl rfl (by kernel_rfl) (blkCells B381) ⟨⟨_, _, _, rfl, G368, G371, Ro369_o372⟩, B14, K, T⟩)))
            · replace hm := cT c234 hm
              refine cond_t rfl (vb rfl c234) ?_
              refine wp_seq ?_
              refine wp_rl rfl ?_
              refine RL.y rfl (Y.build0 (cells := #[.int .i64 0, .int .i64 0, .slice none 0 0, .slice none 0 0])  (by kernel_rfl) (by kernel_rfl)) ?_
              refine RL.store (v := .agg #[.int .i64 0, .int .i64 0, .slice none 0 0, .slice none 0 0]) (cs' := #[.int .i64 0, .int .i64 0, .slice none 0 0, .slice none 0 0]) rfl rfl rfl B7 (by kernel_rfl) (by rfl) (by rfl) (by rfl) (fun w383 B384 ho385 => ?_)
              have szw383 := ho385.size
              have B14 := B14.only_ ho385 (by intro hin; simp at hin; exact Eob9_obp3 hin)
              have B3 := B3.only_ ho385 (by intro hin; simp at hin; exact Eob9_ob5 hin)
              have B222 := B222.only_ ho385 (by intro hin; simp at hin; exact Eob205_ob9.symm hin)
              have K := KeepV.far K ho385 KZob9
              have T := T.trans (ho385.below (by first | (simp; done) | (simp; omega)))
              refine RL.y rfl (Y.assign (v := .int .i64 5) rfl) ?_
              refine RL.nil ?_
              refine then_n ?_
              refine wp_ret ?_
              obtain rfl := Option.some.inj hm
              exact (then_r (retct (cs := [.int .i64 0, .int .i64 0, .slice none 0 0, .slice none 0 0]) rfl rfl rfl rfl (by kernel_rfl) (blkCells B384) ⟨⟨_, _, _, rfl, OwF.nil, OwN.nil, Ap.nil⟩, B14, K, T⟩))
      · replace hm := cT c11 hm
        refine cond_t rfl (vb rfl c11) ?_
        refine wp_seq ?_
        refine wp_rl rfl ?_
        refine RL.y rfl (Y.build0 (cells := #[.int .i64 0, .int .i64 0, .slice none 0 0, .slice none 0 0])  (by kernel_rfl) (by kernel_rfl)) ?_
        refine RL.store (v := .agg #[.int .i64 0, .int .i64 0, .slice none 0 0, .slice none 0 0]) (cs' := #[.int .i64 0, .int .i64 0, .slice none 0 0, .slice none 0 0]) rfl rfl rfl B7 (by kernel_rfl) (by rfl) (by rfl) (by rfl) (fun w386 B387 ho388 => ?_)
        have szw386 := ho388.size
        have hv3 := hv3.only_ ho388 (by intro hin; simp at hin; exact Eob9_obp3 hin)
        have B3 := B3.only_ ho388 (by intro hin; simp at hin; exact Eob9_ob5 hin)
        have K := KeepV.far K ho388 KZob9
        have T := T.trans (ho388.below (by first | (simp; done) | (simp; omega)))
        refine RL.y rfl (Y.assign (v := .int .i64 4) rfl) ?_
        refine RL.nil ?_
        refine then_n ?_
        refine wp_ret ?_
        obtain rfl := Option.some.inj hm
        exact (then_r (retct (cs := [.int .i64 0, .int .i64 0, .slice none 0 0, .slice none 0 0]) rfl rfl rfl rfl (by kernel_rfl) (blkCells B387) ⟨⟨_, _, _, rfl, OwF.nil, OwN.nil, Ap.nil⟩, hv3, K, T⟩))
    · replace hm := cT c10 hm
      have pc10 := of_decide_eq_true c10
      refine RQ.skip (wantN (dj := 17) rfl (vb rfl c10) rfl) ?_
      refine RQ.skip (wantN (dj := 17) rfl (vb rfl c10) rfl) ?_
      refine RQ.skip (wantN (dj := 17) rfl (vb rfl c10) rfl) ?_
      refine RQ.skip (wantN (dj := 17) rfl (vb rfl c10) rfl) ?_
      refine RQ.y rfl (Y.pick (b := true) (v := .bool true) (vb rfl c10) rfl) ?_
      refine RQ.nil ?_
      refine then_n ?_
      refine cond_t rfl rfl ?_
      refine wp_seq ?_
      refine wp_rl rfl ?_
      refine RL.y rfl (Y.build0 (cells := #[.int .i64 0, .int .i64 0, .slice none 0 0, .slice none 0 0])  (by kernel_rfl) (by kernel_rfl)) ?_
      refine RL.store (v := .agg #[.int .i64 0, .int .i64 0, .slice none 0 0, .slice none 0 0]) (cs' := #[.int .i64 0, .int .i64 0, .slice none 0 0, .slice none 0 0]) rfl rfl rfl B7 (by kernel_rfl) (by rfl) (by rfl) (by rfl) (fun w389 B390 ho391 => ?_)
      have szw389 := ho391.size
      have hv3 := hv3.only_ ho391 (by intro hin; simp at hin; exact Eob9_obp3 hin)
      have B3 := B3.only_ ho391 (by intro hin; simp at hin; exact Eob9_ob5 hin)
      have K := KeepV.far K ho391 KZob9
      have T := T.trans (ho391.below (by first | (simp; done) | (simp; omega)))
      refine RL.y rfl (Y.assign (v := .int .i64 4) rfl) ?_
      refine RL.nil ?_
      refine then_n ?_
      refine wp_ret ?_
      obtain rfl := Option.some.inj hm
      exact (then_r (retct (cs := [.int .i64 0, .int .i64 0, .slice none 0 0, .slice none 0 0]) rfl rfl rfl rfl (by kernel_rfl) (blkCells B390) ⟨⟨_, _, _, rfl, OwF.nil, OwN.nil, Ap.nil⟩, hv3, K, T⟩))
def m_impl_DataOf (d0 : DNet) : Option (DCore × Int) :=
  ((m_impl_ValidNet d0).bind fun y10 => (bif y10 then ((m_impl_rootPort ).bind fun y29 => ((m_impl_Net_data ((82 - (1 : Int)).toNat) d0 y29 1 0).bind fun y33 => some (y33.1, y33.2.1))) else some ((⟨0, 0, [], []⟩ : DCore), 1)))
set_option maxHeartbeats 2000000 in
theorem c_m_impl_DataOf (d0 : DNet) (r : DCore × Int) (hm : m_impl_DataOf d0 = some r) (v0 : Value) (w : World) (hv0 : St netRd w v0 d0) :
    Calls Try.prog 20 #[v0] w fun e w' => (∃ (v0 : Value) (v1 : Value) (bs1 : List Nat), e = .returned (.tuple #[.agg #[.int .i64 r.1.kind, .int .i64 r.1.value, v0, v1], .int .i64 r.2]) ∧ OwF 2 encI 1 w' w.heap.size v0 r.1.data ∧ OwN 42 coreOw 4 w' w.heap.size v1 r.1.kids bs1 ∧ Ap (fb v0) bs1) ∧ Below w.heap.size w w' := by
  obtain ⟨csa0, rfl, ⟨A1, n1, c1, rfl, ⟨h1, r1⟩⟩⟩ := hv0
  have e1 := h1.len; subst e1
  have q1 := len_le r1
  have T := Below.refl w.heap.size w
  unfold m_impl_DataOf at hm
  refine enter 13 Try.func20 rfl rfl rfl ?_
  intro f hf
  have s0 : f 0 = .agg #[.slice A1 d0.agents.length c1] := hf 0 _ rfl
  refine wp_seq ?_
  refine wp_rl rfl ?_
  refine RL.box rfl s0 (fun w2 B3 hb4 szw2 => ?_)
  replace B3 : Blk w2 w.heap.size 31 #[.slice A1 d0.agents.length c1] := B3
  have GB3 : w.heap.size ≤ w.heap.size := T.size
  have T := Tt T hb4
  refine RL.alloc (z := .agg #[.int .i64 0, .int .i64 0, .slice none 0 0, .slice none 0 0]) rfl (by kernel_rfl) (fun w6 B7 hb8 szw6 => ?_)
  replace B7 : Blk w6 w2.heap.size 42 #[.int .i64 0, .int .i64 0, .slice none 0 0, .slice none 0 0] := B7
  have GB7 : w.heap.size ≤ w2.heap.size := T.size
  have Eob9_ob5 := Nat.ne_of_lt B3.lt
  have B3 := blkT B3 hb8
  have T := Tt T hb8
  refine RL.y rfl (Y.assign (v := .int .i64 0) rfl) ?_
  refine RL.nil ?_
  refine then_n ?_
  refine wp_seq ?_
  refine wp_seq ?_
  refine wp_rb rfl ?_
  refine RQ.y rfl (Y.loadN (cs := [.slice A1 d0.agents.length c1]) rfl (by kernel_rfl) (cells1 (beC (blkCell B3 (i := 0) rfl)))) ?_
  obtain ⟨y10, e11, hm⟩ := bnd hm
  refine RQ.call rfl (am1 rfl) (by kernel_rfl) (v := .bool y10) (bel (K := fun _ => True) fun w' hb' => (c_m_impl_ValidNet d0 _ e11 _ w' (stArg (R := netRd) ⟨_, _, _, rfl, ⟨SlAt.now agentRd_ok h1 (Nat.le_refl _) (Tt T hb'), r1⟩⟩))) ?_
  refine RQ.y rfl (Y.not (b' := (!y10)) rfl rfl) ?_
  refine RQ.nil ?_
  intro w12 hb13
  have szw12 := hb13.size
  have B3 := blkT B3 hb13
  have B7 := blkT B7 hb13
  have T := Tt T hb13
  refine then_n ?_
  rcases bcases y10 with c14 | c14
  · replace hm := cF c14 hm
    refine cond_t rfl (vbn rfl c14 rfl) ?_
    refine wp_seq ?_
    refine wp_rl rfl ?_
    refine RL.y rfl (Y.build0 (cells := #[.int .i64 0, .int .i64 0, .slice none 0 0, .slice none 0 0])  (by kernel_rfl) (by kernel_rfl)) ?_
    refine RL.store (v := .agg #[.int .i64 0, .int .i64 0, .slice none 0 0, .slice none 0 0]) (cs' := #[.int .i64 0, .int .i64 0, .slice none 0 0, .slice none 0 0]) rfl rfl rfl B7 (by kernel_rfl) (by rfl) (by rfl) (by rfl) (fun w15 B16 ho17 => ?_)
    have szw15 := ho17.size
    have B3 := B3.only_ ho17 (by intro hin; simp at hin; exact Eob9_ob5 hin)
    have T := T.trans (ho17.below (by first | (simp; done) | (simp; omega)))
    refine RL.y rfl (Y.assign (v := .int .i64 1) rfl) ?_
    refine RL.nil ?_
    refine then_n ?_
    refine wp_ret ?_
    obtain rfl := Option.some.inj hm
    exact (then_r (retct (cs := [.int .i64 0, .int .i64 0, .slice none 0 0, .slice none 0 0]) rfl rfl rfl rfl (by kernel_rfl) (blkCells B16) ⟨⟨_, _, _, rfl, OwF.nil, OwN.nil, Ap.nil⟩, T⟩))
  · replace hm := cT c14 hm
    refine cond_f rfl (vbn rfl c14 rfl) ?_
    refine wp_skip ?_
    refine then_n ?_
    refine wp_seq ?_
    refine wp_rl rfl ?_
    have U22 := Below.refl w12.heap.size w12
    have ST23 := T
    have SB24 := B3
    have SB25 := B7
    refine RL.alloc (z := .int .i64 0) rfl (by kernel_rfl) (fun w18 B19 hb20 szw18 => ?_)
    replace B19 : Blk w18 w12.heap.size 3 #[.int .i64 0] := B19
    have GB19 : w.heap.size ≤ w12.heap.size := T.size
    have Eob21_ob5 := Nat.ne_of_lt B3.lt
    have Eob21_ob9 := Nat.ne_of_lt B7.lt
    have B3 := blkT B3 hb20
    have B7 := blkT B7 hb20
    try have U22 := Tt U22 hb20
    have T := Tt T hb20
    refine RL.store (v := .int .i64 0) (cs' := #[.int .i64 0]) rfl rfl rfl B19 (by kernel_rfl) (by rfl) (by rfl) (by rfl) (fun w26 B27 ho28 => ?_)
    have szw26 := ho28.size
    have B3 := B3.only_ ho28 (by intro hin; simp at hin; exact Eob21_ob5 hin)
    have B7 := B7.only_ ho28 (by intro hin; simp at hin; exact Eob21_ob9 hin)
    try have U22 := U22.trans (ho28.below (by first | (simp; done) | (simp; omega)))
    have T := T.trans (ho28.below (by first | (simp; done) | (simp; omega)))
    refine RL.nil ?_
    refine then_n ?_
    refine wp_seq ?_
    refine wp_rl rfl ?_
    obtain ⟨y29, e30, hm⟩ := bnd hm
    refine RL.call rfl (am0) (by kernel_rfl) ((c_m_impl_rootPort  _ e30  _ ).mono ?_)
    rintro _ w31 ⟨rfl, hb32⟩
    refine ⟨_, rfl, ?_⟩
    have szw31 := hb32.size
    have B3 := blkT B3 hb32
    have B7 := blkT B7 hb32
    have B27 := blkT B27 hb32
    try have U22 := Tt U22 hb32
    have T := Tt T hb32
    obtain ⟨y33, e34, hm⟩ := bnd hm
    refine RL.call rfl (am4 rfl rfl rfl rfl) (by kernel_rfl) ((c_m_impl_Net_data ((82 - (1 : Int)).toNat) d0 y29 1 0 _ e34 _ w12 w31 U22 (ptBox (R := netRd) SB24 ⟨_, _, _, rfl, ⟨SlAt.now agentRd_ok h1 (Nat.le_refl _) ST23, r1⟩⟩) _ B27 (Nat.le_refl _)).mono ?_)
    rintro _ w42 ⟨⟨v35, v38, bs41, rfl, G36, G39, Ro37_o40⟩, B45, K43, hb44⟩
    refine ⟨_, rfl, ?_⟩
    have szw42 := K43.size
    have T0w42 := T.size
    have Zo37_ob5 := ap_ne (Ap.new (OwF.flo G36) (one_hi B3.lt))
    have Zo37_ob9 := ap_ne (Ap.new (OwF.flo G36) (one_hi B7.lt))
    have Zo37_ob21 := ap_ne (Ap.new (OwF.flo G36) (one_hi B27.lt))
    have Zo40_ob5 : Ap bs41 [w.heap.size] := (Ap.new (OwN.lo_ G39) (one_hi B3.lt))
    have Zo40_ob9 : Ap bs41 [w2.heap.size] := (Ap.new (OwN.lo_ G39) (one_hi B7.lt))
    have Zo40_ob21 : Ap bs41 [w12.heap.size] := (Ap.new (OwN.lo_ G39) (one_hi B27.lt))
    have B3 := Blk.keepV B3 K43 (cellNe Eob21_ob5) (cellNe Eob21_ob5)
    have B7 := Blk.keepV B7 K43 (cellNe Eob21_ob9) (cellNe Eob21_ob9)
    have U22 := hb44
    have T := Tt ST23 hb44
    replace G36 := OwF.mono G36 T0w42
    replace G39 := OwN.mono G39 T0w42
    refine RL.y rfl (Y.extract (i := 0) rfl rfl) ?_
    refine RL.y rfl (Y.extract (i := 1) rfl rfl) ?_
    obtain ⟨A46, c47, rfl⟩ := OwF.form G36
    have qbA46 := OwF.bound G36
    obtain ⟨A48, c49, rfl⟩ := OwN.form G39
    have qbA48 := OwN.bound G39
    refine RL.store (v := .agg #[.int .i64 y33.1.kind, .int .i64 y33.1.value, .slice A46 y33.1.data.length c47, .slice A48 y33.1.kids.length c49]) (cs' := #[.int .i64 y33.1.kind, .int .i64 y33.1.value, .slice A46 y33.1.data.length c47, .slice A48 y33.1.kids.length c49]) rfl rfl rfl B7 (by kernel_rfl) (by rfl) (by rfl) (by rfl) (fun w50 B51 ho52 => ?_)
    have szw50 := ho52.size
    have B3 := B3.only_ ho52 (by intro hin; simp at hin; exact Eob9_ob5 hin)
    have B45 := B45.only_ ho52 (by intro hin; simp at hin; exact Eob21_ob9.symm hin)
    have G36 := OwF.only G36 ho52 Zo37_ob9
    have G39 := OwN.only coreOw_ok G39 ho52 (Ap.one Zo40_ob9)
    try have U22 := U22.trans (ho52.below (by first | (simp; done) | (simp; omega)))
    have T := T.trans (ho52.below (by first | (simp; done) | (simp; omega)))
    refine RL.y rfl (Y.assign (v := .int .i64 y33.2.1) rfl) ?_
    refine RL.nil ?_
    refine then_n ?_
    refine wp_ret ?_
    obtain rfl := Option.some.inj hm
    exact (retct (cs := [.int .i64 y33.1.kind, .int .i64 y33.1.value, .slice A46 y33.1.data.length c47, .slice A48 y33.1.kids.length c49]) rfl rfl rfl rfl (by kernel_rfl) (blkCells B51) ⟨⟨_, _, _, rfl, G36, G39, Ro37_o40⟩, T⟩)
end
end Go.Proofs.Ytpbobilkejblgaa
