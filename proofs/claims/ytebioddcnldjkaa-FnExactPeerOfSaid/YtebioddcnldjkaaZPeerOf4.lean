/- Lemmas of the proof of PeerOf, part 4. No condition. -/
import Derived.Test.YtebioddcnldjkaaZPeerOf3
namespace Go.Proofs.Ytebioddcnldjkaa
section
open Go.RowKit
set_option linter.unusedVariables false
set_option linter.unusedSimpArgs false
set_option maxRecDepth 100000
def m_laws_FnExactPeerOf (d0 : DNet) (d1 : DPort) : Option Bool :=
  ((szNetM d0 1048576).bind fun y10 => (bif (decide (y10 < 0)) then some true else ((toNetM d0).bind fun y17 => ((toPortM d1).bind fun y30 => ((m_spec_PeerOf y17 y30).bind fun y34 => ((toNetM d0).bind fun y45 => ((toPortM d1).bind fun y67 => ((m_impl_PeerOf y45 y67).bind fun y71 => ((eqPortM y71.1 y34.1).bind fun y82 => (bif y82 then (bif (y71.2 != y34.2) then some false else ((toNetM d0).bind fun y92 => ((eqNetM y45 y92).bind fun y105 => (bif y105 then some true else some false)))) else some false))))))))))
set_option maxHeartbeats 2000000 in
theorem c_m_laws_FnExactPeerOf (d0 : DNet) (d1 : DPort) (r : Bool) (hm : m_laws_FnExactPeerOf d0 d1 = some r) (v0 : Value) (w : World) (hv0 : St netRd w v0 d0) :
    Calls Try.prog 3 #[v0, .agg #[.int .i64 d1.agent, .int .i64 d1.slot]] w fun e w' => e = .returned (.bool r) ∧ Below w.heap.size w w' := by
  obtain ⟨csa0, rfl, ⟨A1, n1, c1, rfl, ⟨h1, r1⟩⟩⟩ := hv0
  have e1 := h1.len; subst e1
  have q1 := len_le r1
  have T := Below.refl w.heap.size w
  unfold m_laws_FnExactPeerOf at hm
  refine enter 47 Try.func3 rfl rfl rfl ?_
  intro f hf
  have s0 : f 0 = .agg #[.slice A1 d0.agents.length c1] := hf 0 _ rfl
  have s1 : f 1 = .agg #[.int .i64 d1.agent, .int .i64 d1.slot] := hf 1 _ rfl
  refine wp_seq ?_
  refine wp_rl rfl ?_
  refine RL.box rfl s0 (fun w2 B3 hb4 szw2 => ?_)
  replace B3 : Blk w2 w.heap.size 24 #[.slice A1 d0.agents.length c1] := B3
  have GB3 : w.heap.size ≤ w.heap.size := T.size
  have T := Tt T hb4
  refine RL.box rfl s1 (fun w6 B7 hb8 szw6 => ?_)
  replace B7 : Blk w6 w2.heap.size 26 #[.int .i64 d1.agent, .int .i64 d1.slot] := B7
  have GB7 : w.heap.size ≤ w2.heap.size := T.size
  have Eob9_ob5 := Nat.ne_of_lt B3.lt
  have B3 := blkT B3 hb8
  have T := Tt T hb8
  refine RL.y rfl (Y.assign (v := .bool false) rfl) ?_
  refine RL.nil ?_
  refine then_n ?_
  refine wp_seq ?_
  refine wp_rs rfl ?_
  refine RQ.y rfl (Y.assign (v := .int .i64 1048576) rfl) ?_
  refine RQ.nil ?_
  refine then_n ?_
  refine wp_seq ?_
  refine wp_rb rfl ?_
  refine RQ.y rfl (Y.loadN (cs := [.slice A1 d0.agents.length c1]) rfl (by kernel_rfl) (cells1 (beC (blkCell B3 (i := 0) rfl)))) ?_
  refine RQ.y rfl (Y.move (v := .int .i64 1048576) rfl) ?_
  obtain ⟨y10, e11, hm⟩ := bnd hm
  refine RQ.call rfl (am2 rfl rfl) (by kernel_rfl) (v := .int .i64 y10) (bel (K := fun _ => True) fun w' hb' => (c_szNetM d0 1048576 _ e11 _ w' (stArg (R := netRd) ⟨_, _, _, rfl, ⟨SlAt.now agentRd_ok h1 (Nat.le_refl _) (Tt T hb'), r1⟩⟩))) ?_
  refine RQ.y rfl (Y.assign (v := .int .i64 y10) rfl) ?_
  refine RQ.nil ?_
  intro w12 hb13
  have szw12 := hb13.size
  have B3 := blkT B3 hb13
  have B7 := blkT B7 hb13
  have T := Tt T hb13
  refine then_n ?_
  refine wp_seq ?_
  refine wp_seq ?_
  refine wp_rs rfl ?_
  refine RQ.y rfl (Y.move (v := .int .i64 y10) rfl) ?_
  refine RQ.y rfl (Y.binI (v := .bool (decide (y10 < 0))) rfl rfl rfl) ?_
  refine RQ.nil ?_
  refine then_n ?_
  rcases bcases (decide (y10 < 0)) with c14 | c14
  · replace hm := cF c14 hm
    have pc14 := of_decide_eq_false c14
    refine cond_f rfl (vb rfl c14) ?_
    refine wp_skip ?_
    refine then_n ?_
    refine wp_seq ?_
    refine wp_rgt (fun w' => Below w.heap.size w w' ∧ Blk w' w.heap.size 24 #[.slice A1 d0.agents.length c1] ∧ Blk w' w2.heap.size 26 #[.int .i64 d1.agent, .int .i64 d1.slot]) (.q 0 (.q 2 (.two 1 (.two 3 (.two 4 (.q 5 (.q 6 (.q 7 (.a 8 (.a 9 (.q 10 .nil)))))) 8 (.a 4 (.q 5 (.q 6 (.q 7 (.a 9 (.q 10 .nil))))))) 8 (.a 3 (.a 4 (.q 5 (.q 6 (.q 7 (.a 9 (.q 10 .nil)))))))) 8 (.a 1 (.a 3 (.a 4 (.q 5 (.q 6 (.q 7 (.a 9 (.q 10 .nil))))))))))) (by kernel_rfl) (by kernel_rfl) (fun w15 hb16 szw15 => ?_)
    have B3 := blkT B3 hb16
    have B7 := blkT B7 hb16
    have T := Tt T hb16
    refine ⟨⟨T, B3, B7⟩, ?_⟩
    refine RT.y rfl rfl (Y.loadN (cs := [.slice A1 d0.agents.length c1]) rfl (by kernel_rfl) (cells1 (fun w' hS => (blkCell hS.2.1 (i := 0) rfl)))) ?_
    refine RT.y rfl rfl (Y.loadN (cs := [.int .i64 d1.agent, .int .i64 d1.slot]) rfl (by kernel_rfl) (cells2 (fun w' hS => (blkCell hS.2.2 (i := 0) rfl)) (fun w' hS => (blkCell hS.2.2 (i := 1) rfl)))) ?_
    refine RT.both rfl rfl ?_ ?_
    · obtain ⟨y17, e18, hm⟩ := bnd hm
      refine RL.call rfl (am1 rfl) (by kernel_rfl) ((c_toNetM d0 _ e18 _ _ (stArg (R := netRd) ⟨_, _, _, rfl, ⟨SlAt.now agentRd_ok h1 (Nat.le_refl _) T, r1⟩⟩)).mono ?_)
      rintro _ w28 ⟨⟨A23, c24, rfl, h25, r26⟩, hb29⟩
      refine ⟨_, rfl, ?_⟩
      have szw28 := hb29.size
      have B3 := blkT B3 hb29
      have B7 := blkT B7 hb29
      have T := Tt T hb29
      have U27 := Below.refl w28.heap.size w28
      refine RL.nil ⟨⟨T, B3, B7⟩, ?_⟩
      refine RT.both rfl rfl ?_ ?_
      · obtain ⟨y30, e31, hm⟩ := bnd hm
        refine RL.call rfl (am1 rfl) (by kernel_rfl) ((c_toPortM d1 _ e31  _ ).mono ?_)
        rintro _ w32 ⟨rfl, hb33⟩
        refine ⟨_, rfl, ?_⟩
        have szw32 := hb33.size
        have B3 := blkT B3 hb33
        have B7 := blkT B7 hb33
        try have U27 := Tt U27 hb33
        have T := Tt T hb33
        refine RL.nil ⟨⟨T, B3, B7⟩, ?_⟩
        refine RT.both rfl rfl ?_ ?_
        · obtain ⟨y34, e35, hm⟩ := bnd hm
          refine RL.call rfl (am2 rfl rfl) (by kernel_rfl) ((c_m_spec_PeerOf y17 y30 _ e35 _ _ (stArg (R := netRd) ⟨_, _, _, rfl, ⟨SlAt.now agentRd_ok h25 (Nat.le_refl _) U27, r26⟩⟩)).mono ?_)
          rintro _ w36 ⟨rfl, hb37⟩
          refine ⟨_, rfl, ?_⟩
          have szw36 := hb37.size
          have B3 := blkT B3 hb37
          have B7 := blkT B7 hb37
          try have U27 := Tt U27 hb37
          have T := Tt T hb37
          refine RL.nil ⟨⟨T, B3, B7⟩, ?_⟩
          refine RT.y rfl rfl (Y.move (v := .tuple #[.agg #[.int .i64 y34.1.agent, .int .i64 y34.1.slot], .int .i64 y34.2]) rfl) ?_
          refine RT.y rfl rfl (Y.extract (i := 0) rfl rfl) ?_
          refine RT.y rfl rfl (Y.extract (i := 1) rfl rfl) ?_
          refine RT.act rfl ?_
          refine RL.alloc (z := .agg #[.int .i64 0, .int .i64 0]) rfl (by kernel_rfl) (fun w38 B39 hb40 szw38 => ?_)
          replace B39 : Blk w38 w36.heap.size 28 #[.int .i64 0, .int .i64 0] := B39
          have GB39 : w.heap.size ≤ w36.heap.size := T.size
          have Eob41_ob5 := Nat.ne_of_lt B3.lt
          have Eob41_ob9 := Nat.ne_of_lt B7.lt
          have B3 := blkT B3 hb40
          have B7 := blkT B7 hb40
          try have U27 := Tt U27 hb40
          have T := Tt T hb40
          refine RL.nil ⟨⟨T, B3, B7⟩, ?_⟩
          refine RT.act rfl ?_
          refine RL.store (v := .agg #[.int .i64 y34.1.agent, .int .i64 y34.1.slot]) (cs' := #[.int .i64 y34.1.agent, .int .i64 y34.1.slot]) rfl rfl rfl B39 (by kernel_rfl) (by rfl) (by rfl) (by rfl) (fun w42 B43 ho44 => ?_)
          have szw42 := ho44.size
          have B3 := B3.only_ ho44 (by intro hin; simp at hin; exact Eob41_ob5 hin)
          have B7 := B7.only_ ho44 (by intro hin; simp at hin; exact Eob41_ob9 hin)
          try have U27 := U27.trans (ho44.below (by first | (simp; done) | (simp; omega)))
          have T := T.trans (ho44.below (by first | (simp; done) | (simp; omega)))
          refine RL.nil ⟨⟨T, B3, B7⟩, ?_⟩
          refine RT.y rfl rfl (Y.assign (v := .int .i64 y34.2) rfl) ?_
          refine RT.nil_ ?_
          refine then_n ?_
          refine wp_seq ?_
          refine wp_rl rfl ?_
          refine RL.y rfl (Y.loadN (cs := [.slice A1 d0.agents.length c1]) rfl (by kernel_rfl) (cells1 (eqC (blkCell B3 (i := 0) rfl)))) ?_
          obtain ⟨y45, e46, hm⟩ := bnd hm
          refine RL.call rfl (am1 rfl) (by kernel_rfl) ((c_toNetM d0 _ e46 _ _ (stArg (R := netRd) ⟨_, _, _, rfl, ⟨SlAt.now agentRd_ok h1 (Nat.le_refl _) T, r1⟩⟩)).mono ?_)
          rintro _ w56 ⟨⟨A51, c52, rfl, h53, r54⟩, hb57⟩
          refine ⟨_, rfl, ?_⟩
          have szw56 := hb57.size
          have B3 := blkT B3 hb57
          have B7 := blkT B7 hb57
          have B43 := blkT B43 hb57
          try have U27 := Tt U27 hb57
          have T := Tt T hb57
          have U55 := Below.refl w56.heap.size w56
          refine RL.alloc (z := .agg #[.slice none 0 0]) rfl (by kernel_rfl) (fun w58 B59 hb60 szw58 => ?_)
          replace B59 : Blk w58 w56.heap.size 33 #[.slice none 0 0] := B59
          have GB59 : w.heap.size ≤ w56.heap.size := T.size
          have Eob61_ob5 := Nat.ne_of_lt B3.lt
          have Eob61_ob9 := Nat.ne_of_lt B7.lt
          have Eob61_ob41 := Nat.ne_of_lt B43.lt
          have B3 := blkT B3 hb60
          have B7 := blkT B7 hb60
          have B43 := blkT B43 hb60
          try have U27 := Tt U27 hb60
          try have U55 := Tt U55 hb60
          have T := Tt T hb60
          refine RL.store (v := .agg #[.slice A51 y45.agents.length c52]) (cs' := #[.slice A51 y45.agents.length c52]) rfl rfl rfl B59 (by kernel_rfl) (by rfl) (by rfl) (by rfl) (fun w62 B63 ho64 => ?_)
          have szw62 := ho64.size
          have B3 := B3.only_ ho64 (by intro hin; simp at hin; exact Eob61_ob5 hin)
          have B7 := B7.only_ ho64 (by intro hin; simp at hin; exact Eob61_ob9 hin)
          have B43 := B43.only_ ho64 (by intro hin; simp at hin; exact Eob61_ob41 hin)
          try have U27 := U27.trans (ho64.below (by first | (simp; done) | (simp; omega)))
          try have U55 := U55.trans (ho64.below (by first | (simp; done) | (simp; omega)))
          have T := T.trans (ho64.below (by first | (simp; done) | (simp; omega)))
          refine RL.nil ?_
          refine then_n ?_
          refine wp_seq ?_
          refine wp_rgt (fun w' => Below w.heap.size w w' ∧ Blk w' w2.heap.size 26 #[.int .i64 d1.agent, .int .i64 d1.slot] ∧ Blk w' w56.heap.size 33 #[.slice A51 y45.agents.length c52]) (.q 0 (.q 1 (.two 2 (.two 3 (.q 4 (.q 5 (.q 6 (.a 7 (.a 8 (.q 9 .nil)))))) 7 (.a 3 (.q 4 (.q 5 (.q 6 (.a 8 (.q 9 .nil))))))) 7 (.a 2 (.a 3 (.q 4 (.q 5 (.q 6 (.a 8 (.q 9 .nil)))))))))) (by kernel_rfl) (by kernel_rfl) (fun w65 hb66 szw65 => ?_)
          have B3 := blkT B3 hb66
          have B7 := blkT B7 hb66
          have B43 := blkT B43 hb66
          have B63 := blkT B63 hb66
          try have U27 := Tt U27 hb66
          try have U55 := Tt U55 hb66
          have T := Tt T hb66
          refine ⟨⟨T, B7, B63⟩, ?_⟩
          refine RT.y rfl rfl (Y.loadN (cs := [.slice A51 y45.agents.length c52]) rfl (by kernel_rfl) (cells1 (fun w' hS => (blkCell hS.2.2 (i := 0) rfl)))) ?_
          refine RT.y rfl rfl (Y.loadN (cs := [.int .i64 d1.agent, .int .i64 d1.slot]) rfl (by kernel_rfl) (cells2 (fun w' hS => (blkCell hS.2.1 (i := 0) rfl)) (fun w' hS => (blkCell hS.2.1 (i := 1) rfl)))) ?_
          refine RT.both rfl rfl ?_ ?_
          · obtain ⟨y67, e68, hm⟩ := bnd hm
            refine RL.call rfl (am1 rfl) (by kernel_rfl) ((c_toPortM d1 _ e68  _ ).mono ?_)
            rintro _ w69 ⟨rfl, hb70⟩
            refine ⟨_, rfl, ?_⟩
            have szw69 := hb70.size
            have B3 := blkT B3 hb70
            have B7 := blkT B7 hb70
            have B43 := blkT B43 hb70
            have B63 := blkT B63 hb70
            try have U27 := Tt U27 hb70
            try have U55 := Tt U55 hb70
            have T := Tt T hb70
            refine RL.nil ⟨⟨T, B7, B63⟩, ?_⟩
            refine RT.both rfl rfl ?_ ?_
            · obtain ⟨y71, e72, hm⟩ := bnd hm
              refine RL.call rfl (am2 rfl rfl) (by kernel_rfl) ((c_m_impl_PeerOf y45 y67 _ e72 _ _ (stArg (R := netRd) ⟨_, _, _, rfl, ⟨SlAt.now agentRd_ok h53 (Nat.le_refl _) U55, r54⟩⟩)).mono ?_)
              rintro _ w73 ⟨rfl, hb74⟩
              refine ⟨_, rfl, ?_⟩
              have szw73 := hb74.size
              have B3 := blkT B3 hb74
              have B7 := blkT B7 hb74
              have B43 := blkT B43 hb74
              have B63 := blkT B63 hb74
              try have U27 := Tt U27 hb74
              try have U55 := Tt U55 hb74
              have T := Tt T hb74
              refine RL.nil ⟨⟨T, B7, B63⟩, ?_⟩
              refine RT.y rfl rfl (Y.move (v := .tuple #[.agg #[.int .i64 y71.1.agent, .int .i64 y71.1.slot], .int .i64 y71.2]) rfl) ?_
              refine RT.y rfl rfl (Y.extract (i := 0) rfl rfl) ?_
              refine RT.y rfl rfl (Y.extract (i := 1) rfl rfl) ?_
              refine RT.act rfl ?_
              refine RL.alloc (z := .agg #[.int .i64 0, .int .i64 0]) rfl (by kernel_rfl) (fun w75 B76 hb77 szw75 => ?_)
              replace B76 : Blk w75 w73.heap.size 28 #[.int .i64 0, .int .i64 0] := B76
              have GB76 : w.heap.size ≤ w73.heap.size := T.size
              have Eob78_ob5 := Nat.ne_of_lt B3.lt
              have Eob78_ob9 := Nat.ne_of_lt B7.lt
              have Eob78_ob41 := Nat.ne_of_lt B43.lt
              have Eob78_ob61 := Nat.ne_of_lt B63.lt
              have B3 := blkT B3 hb77
              have B7 := blkT B7 hb77
              have B43 := blkT B43 hb77
              have B63 := blkT B63 hb77
              try have U27 := Tt U27 hb77
              try have U55 := Tt U55 hb77
              have T := Tt T hb77
              refine RL.nil ⟨⟨T, B7, B63⟩, ?_⟩
              refine RT.act rfl ?_
              refine RL.store (v := .agg #[.int .i64 y71.1.agent, .int .i64 y71.1.slot]) (cs' := #[.int .i64 y71.1.agent, .int .i64 y71.1.slot]) rfl rfl rfl B76 (by kernel_rfl) (by rfl) (by rfl) (by rfl) (fun w79 B80 ho81 => ?_)
              have szw79 := ho81.size
              have B3 := B3.only_ ho81 (by intro hin; simp at hin; exact Eob78_ob5 hin)
              have B7 := B7.only_ ho81 (by intro hin; simp at hin; exact Eob78_ob9 hin)
              have B43 := B43.only_ ho81 (by intro hin; simp at hin; exact Eob78_ob41 hin)
              have B63 := B63.only_ ho81 (by intro hin; simp at hin; exact Eob78_ob61 hin)
              try have U27 := U27.trans (ho81.below (by first | (simp; done) | (simp; omega)))
              try have U55 := U55.trans (ho81.below (by first | (simp; done) | (simp; omega)))
              have T := T.trans (ho81.below (by first | (simp; done) | (simp; omega)))
              refine RL.nil ⟨⟨T, B7, B63⟩, ?_⟩
              refine RT.y rfl rfl (Y.assign (v := .int .i64 y71.2) rfl) ?_
              refine RT.nil_ ?_
              refine then_n ?_
              refine wp_seq ?_
              refine wp_seq ?_
              refine wp_rb rfl ?_
              refine RQ.y rfl (Y.loadN (cs := [.int .i64 y71.1.agent, .int .i64 y71.1.slot]) rfl (by kernel_rfl) (cells2 (beC (blkCell B80 (i := 0) rfl)) (beC (blkCell B80 (i := 1) rfl)))) ?_
              refine RQ.y rfl (Y.loadN (cs := [.int .i64 y34.1.agent, .int .i64 y34.1.slot]) rfl (by kernel_rfl) (cells2 (beC (blkCell B43 (i := 0) rfl)) (beC (blkCell B43 (i := 1) rfl)))) ?_
              obtain ⟨y82, e83, hm⟩ := bnd hm
              refine RQ.call rfl (am2 rfl rfl) (by kernel_rfl) (v := .bool y82) (bel (K := fun _ => True) fun w' hb' => (c_eqPortM y71.1 y34.1 _ e83  w' )) ?_
              refine RQ.y rfl (Y.not (b' := (!y82)) rfl rfl) ?_
              refine RQ.y rfl (Y.move (v := .bool (!y82)) rfl) ?_
              rcases bcases y82 with c84 | c84
              · replace hm := cF c84 hm
                refine RQ.skip (wantN (dj := 37) rfl (vbn rfl c84 rfl) rfl) ?_
                refine RQ.skip (wantN (dj := 37) rfl (vbn rfl c84 rfl) rfl) ?_
                refine RQ.skip (wantN (dj := 37) rfl (vbn rfl c84 rfl) rfl) ?_
                refine RQ.y rfl (Y.pick (b := true) (v := .bool true) (vbn rfl c84 rfl) rfl) ?_
                refine RQ.nil ?_
                intro w85 hb86
                have szw85 := hb86.size
                have B3 := blkT B3 hb86
                have B63 := blkT B63 hb86
                try have U27 := Tt U27 hb86
                try have U55 := Tt U55 hb86
                have T := Tt T hb86
                refine then_n ?_
                refine cond_t rfl rfl ?_
                refine wp_seq ?_
                refine wp_rs rfl ?_
                refine RQ.y rfl (Y.assign (v := .bool false) rfl) ?_
                refine RQ.nil ?_
                refine then_n ?_
                refine wp_ret ?_
                obtain rfl := Option.some.inj hm
                exact (then_r (ret1 rfl rfl rfl ⟨rfl, T⟩))
              · replace hm := cT c84 hm
                refine RQ.y (wantT (dj := 37) rfl (vbn rfl c84 rfl)) (Y.move (v := .int .i64 y71.2) rfl) ?_
                refine RQ.y (wantT (dj := 37) rfl (vbn rfl c84 rfl)) (Y.move (v := .int .i64 y34.2) rfl) ?_
                refine RQ.y (wantT (dj := 37) rfl (vbn rfl c84 rfl)) (Y.binI (v := .bool (y71.2 != y34.2)) rfl rfl rfl) ?_
                refine RQ.y rfl (Y.pick (b := false) (v := .bool (y71.2 != y34.2)) (vbn rfl c84 rfl) rfl) ?_
                refine RQ.nil ?_
                intro w87 hb88
                have szw87 := hb88.size
                have B3 := blkT B3 hb88
                have B63 := blkT B63 hb88
                try have U27 := Tt U27 hb88
                try have U55 := Tt U55 hb88
                have T := Tt T hb88
                refine then_n ?_
                rcases bcases (y71.2 != y34.2) with c89 | c89
                · replace hm := cF c89 hm
                  refine cond_f rfl (vb rfl c89) ?_
                  refine wp_skip ?_
                  refine then_n ?_
                  refine wp_seq ?_
                  refine wp_seq ?_
                  refine wp_rg (fun w' => Below w.heap.size w w' ∧ Blk w' w.heap.size 24 #[.slice A1 d0.agents.length c1] ∧ Blk w' w56.heap.size 33 #[.slice A51 y45.agents.length c52]) [(0, true), (1, true), (2, false), (3, false), (4, true)] (by kernel_rfl) (by kernel_rfl) (fun w90 hb91 szw90 => ?_)
                  have B3 := blkT B3 hb91
                  have B63 := blkT B63 hb91
                  try have U27 := Tt U27 hb91
                  try have U55 := Tt U55 hb91
                  have T := Tt T hb91
                  refine ⟨⟨T, B3, B63⟩, ?_⟩
                  refine RG.y rfl rfl (Y.loadN (cs := [.slice A51 y45.agents.length c52]) rfl (by kernel_rfl) (cells1 (fun w' hS => (blkCell hS.2.2 (i := 0) rfl)))) ?_
                  refine RG.y rfl rfl (Y.loadN (cs := [.slice A1 d0.agents.length c1]) rfl (by kernel_rfl) (cells1 (fun w' hS => (blkCell hS.2.1 (i := 0) rfl)))) ?_
                  refine RG.act rfl ?_
                  obtain ⟨y92, e93, hm⟩ := bnd hm
                  refine RL.call rfl (am1 rfl) (by kernel_rfl) ((c_toNetM d0 _ e93 _ _ (stArg (R := netRd) ⟨_, _, _, rfl, ⟨SlAt.now agentRd_ok h1 (Nat.le_refl _) T, r1⟩⟩)).mono ?_)
                  rintro _ w103 ⟨⟨A98, c99, rfl, h100, r101⟩, hb104⟩
                  refine ⟨_, rfl, ?_⟩
                  have szw103 := hb104.size
                  have B3 := blkT B3 hb104
                  have B63 := blkT B63 hb104
                  try have U27 := Tt U27 hb104
                  try have U55 := Tt U55 hb104
                  have T := Tt T hb104
                  have U102 := Below.refl w103.heap.size w103
                  refine RL.nil ⟨⟨T, B3, B63⟩, ?_⟩
                  refine RG.act rfl ?_
                  obtain ⟨y105, e106, hm⟩ := bnd hm
                  refine RL.call rfl (am2 rfl rfl) (by kernel_rfl) ((c_eqNetM y45 y92 _ e106 _ _ _ (stArg (R := netRd) ⟨_, _, _, rfl, ⟨SlAt.now agentRd_ok h53 (Nat.le_refl _) U55, r54⟩⟩) (stArg (R := netRd) ⟨_, _, _, rfl, ⟨SlAt.now agentRd_ok h100 (Nat.le_refl _) U102, r101⟩⟩)).mono ?_)
                  rintro _ w107 ⟨rfl, hb108⟩
                  refine ⟨_, rfl, ?_⟩
                  have szw107 := hb108.size
                  have B3 := blkT B3 hb108
                  have B63 := blkT B63 hb108
                  try have U27 := Tt U27 hb108
                  try have U55 := Tt U55 hb108
                  try have U102 := Tt U102 hb108
                  have T := Tt T hb108
                  refine RL.nil ⟨⟨T, B3, B63⟩, ?_⟩
                  refine RG.y rfl rfl (Y.not (b' := (!y105)) rfl rfl) ?_
                  refine RG.nil ?_
                  refine then_n ?_
                  rcases bcases y105 with c109 | c109
                  · replace hm := cF c109 hm
                    refine cond_t rfl (vbn rfl c109 rfl) ?_
                    refine wp_seq ?_
                    refine wp_rs rfl ?_
                    refine RQ.y rfl (Y.assign (v := .bool false) rfl) ?_
                    refine RQ.nil ?_
                    refine then_n ?_
                    refine wp_ret ?_
                    obtain rfl := Option.some.inj hm
                    exact (then_r (ret1 rfl rfl rfl ⟨rfl, T⟩))
                  · replace hm := cT c109 hm
                    refine cond_f rfl (vbn rfl c109 rfl) ?_
                    refine wp_skip ?_
                    refine then_n ?_
                    refine wp_seq ?_
                    refine wp_rs rfl ?_
                    refine RQ.y rfl (Y.assign (v := .bool true) rfl) ?_
                    refine RQ.nil ?_
                    refine then_n ?_
                    refine wp_ret ?_
                    obtain rfl := Option.some.inj hm
                    exact (ret1 rfl rfl rfl ⟨rfl, T⟩)
                · replace hm := cT c89 hm
                  refine cond_t rfl (vb rfl c89) ?_
                  refine wp_seq ?_
                  refine wp_rs rfl ?_
                  refine RQ.y rfl (Y.assign (v := .bool false) rfl) ?_
                  refine RQ.nil ?_
                  refine then_n ?_
                  refine wp_ret ?_
                  obtain rfl := Option.some.inj hm
                  exact (then_r (ret1 rfl rfl rfl ⟨rfl, T⟩))
            · refine RL.alloc (z := .agg #[.int .i64 0, .int .i64 0]) rfl (by kernel_rfl) (fun w110 B111 hb112 szw110 => ?_)
              replace B111 : Blk w110 w69.heap.size 28 #[.int .i64 0, .int .i64 0] := B111
              have GB111 : w.heap.size ≤ w69.heap.size := T.size
              have Eob113_ob5 := Nat.ne_of_lt B3.lt
              have Eob113_ob9 := Nat.ne_of_lt B7.lt
              have Eob113_ob41 := Nat.ne_of_lt B43.lt
              have Eob113_ob61 := Nat.ne_of_lt B63.lt
              have B3 := blkT B3 hb112
              have B7 := blkT B7 hb112
              have B43 := blkT B43 hb112
              have B63 := blkT B63 hb112
              try have U27 := Tt U27 hb112
              try have U55 := Tt U55 hb112
              have T := Tt T hb112
              refine RL.nil ⟨⟨T, B7, B63⟩, ?_⟩
              refine RT.act rfl ?_
              obtain ⟨y114, e115, hm⟩ := bnd hm
              refine RL.call rfl (am2 rfl rfl) (by kernel_rfl) ((c_m_impl_PeerOf y45 y67 _ e115 _ _ (stArg (R := netRd) ⟨_, _, _, rfl, ⟨SlAt.now agentRd_ok h53 (Nat.le_refl _) U55, r54⟩⟩)).mono ?_)
              rintro _ w116 ⟨rfl, hb117⟩
              refine ⟨_, rfl, ?_⟩
              have szw116 := hb117.size
              have B3 := blkT B3 hb117
              have B7 := blkT B7 hb117
              have B43 := blkT B43 hb117
              have B63 := blkT B63 hb117
              have B111 := blkT B111 hb117
              try have U27 := Tt U27 hb117
              try have U55 := Tt U55 hb117
              have T := Tt T hb117
              refine RL.nil ⟨⟨T, B7, B63⟩, ?_⟩
              refine RT.y rfl rfl (Y.move (v := .tuple #[.agg #[.int .i64 y114.1.agent, .int .i64 y114.1.slot], .int .i64 y114.2]) rfl) ?_
              refine RT.y rfl rfl (Y.extract (i := 0) rfl rfl) ?_
              refine RT.y rfl rfl (Y.extract (i := 1) rfl rfl) ?_
              refine RT.act rfl ?_
              refine RL.store (v := .agg #[.int .i64 y114.1.agent, .int .i64 y114.1.slot]) (cs' := #[.int .i64 y114.1.agent, .int .i64 y114.1.slot]) rfl rfl rfl B111 (by kernel_rfl) (by rfl) (by rfl) (by rfl) (fun w118 B119 ho120 => ?_)
              have szw118 := ho120.size
              have B3 := B3.only_ ho120 (by intro hin; simp at hin; exact Eob113_ob5 hin)
              have B7 := B7.only_ ho120 (by intro hin; simp at hin; exact Eob113_ob9 hin)
              have B43 := B43.only_ ho120 (by intro hin; simp at hin; exact Eob113_ob41 hin)
              have B63 := B63.only_ ho120 (by intro hin; simp at hin; exact Eob113_ob61 hin)
              try have U27 := U27.trans (ho120.below (by first | (simp; done) | (simp; omega)))
              try have U55 := U55.trans (ho120.below (by first | (simp; done) | (simp; omega)))
              have T := T.trans (ho120.below (by first | (simp; done) | (simp; omega)))
              refine RL.nil ⟨⟨T, B7, B63⟩, ?_⟩
              refine RT.y rfl rfl (Y.assign (v := .int .i64 y114.2) rfl) ?_
              refine RT.nil_ ?_
              refine then_n ?_
              refine wp_seq ?_
              refine wp_seq ?_
              refine wp_rb rfl ?_
              refine RQ.y rfl (Y.loadN (cs := [.int .i64 y114.1.agent, .int .i64 y114.1.slot]) rfl (by kernel_rfl) (cells2 (beC (blkCell B119 (i := 0) rfl)) (beC (blkCell B119 (i := 1) rfl)))) ?_
              refine RQ.y rfl (Y.loadN (cs := [.int .i64 y34.1.agent, .int .i64 y34.1.slot]) rfl (by kernel_rfl) (cells2 (beC (blkCell B43 (i := 0) rfl)) (beC (blkCell B43 (i := 1) rfl)))) ?_
              obtain ⟨y121, e122, hm⟩ := bnd hm
              refine RQ.call rfl (am2 rfl rfl) (by kernel_rfl) (v := .bool y121) (bel (K := fun _ => True) fun w' hb' => (c_eqPortM y114.1 y34.1 _ e122  w' )) ?_
              refine RQ.y rfl (Y.not (b' := (!y121)) rfl rfl) ?_
              refine RQ.y rfl (Y.move (v := .bool (!y121)) rfl) ?_
              rcases bcases y121 with c123 | c123
              · replace hm := cF c123 hm
                refine RQ.skip (wantN (dj := 37) rfl (vbn rfl c123 rfl) rfl) ?_
                refine RQ.skip (wantN (dj := 37) rfl (vbn rfl c123 rfl) rfl) ?_
                refine RQ.skip (wantN (dj := 37) rfl (vbn rfl c123 rfl) rfl) ?_
                refine RQ.y rfl (Y.pick (b := true) (v := .bool true) (vbn rfl c123 rfl) rfl) ?_
                refine RQ.nil ?_
                intro w124 hb125
                have szw124 := hb125.size
                have B3 := blkT B3 hb125
                have B63 := blkT B63 hb125
                try have U27 := Tt U27 hb125
                try have U55 := Tt U55 hb125
                have T := Tt T hb125
                refine then_n ?_
                refine cond_t rfl rfl ?_
                refine wp_seq ?_
                refine wp_rs rfl ?_
                refine RQ.y rfl (Y.assign (v := .bool false) rfl) ?_
                refine RQ.nil ?_
                refine then_n ?_
                refine wp_ret ?_
                obtain rfl := Option.some.inj hm
                exact (then_r (ret1 rfl rfl rfl ⟨rfl, T⟩))
              · replace hm := cT c123 hm
                refine RQ.y (wantT (dj := 37) rfl (vbn rfl c123 rfl)) (Y.move (v := .int .i64 y114.2) rfl) ?_
                refine RQ.y (wantT (dj := 37) rfl (vbn rfl c123 rfl)) (Y.move (v := .int .i64 y34.2) rfl) ?_
                refine RQ.y (wantT (dj := 37) rfl (vbn rfl c123 rfl)) (Y.binI (v := .bool (y114.2 != y34.2)) rfl rfl rfl) ?_
                refine RQ.y rfl (Y.pick (b := false) (v := .bool (y114.2 != y34.2)) (vbn rfl c123 rfl) rfl) ?_
                refine RQ.nil ?_
                intro w126 hb127
                have szw126 := hb127.size
                have B3 := blkT B3 hb127
                have B63 := blkT B63 hb127
                try have U27 := Tt U27 hb127
                try have U55 := Tt U55 hb127
                have T := Tt T hb127
                refine then_n ?_
                rcases bcases (y114.2 != y34.2) with c128 | c128
                · replace hm := cF c128 hm
                  refine cond_f rfl (vb rfl c128) ?_
                  refine wp_skip ?_
                  refine then_n ?_
                  refine wp_seq ?_
                  refine wp_seq ?_
                  refine wp_rg (fun w' => Below w.heap.size w w' ∧ Blk w' w.heap.size 24 #[.slice A1 d0.agents.length c1] ∧ Blk w' w56.heap.size 33 #[.slice A51 y45.agents.length c52]) [(0, true), (1, true), (2, false), (3, false), (4, true)] (by kernel_rfl) (by kernel_rfl) (fun w129 hb130 szw129 => ?_)
                  have B3 := blkT B3 hb130
                  have B63 := blkT B63 hb130
                  try have U27 := Tt U27 hb130
                  try have U55 := Tt U55 hb130
                  have T := Tt T hb130
                  refine ⟨⟨T, B3, B63⟩, ?_⟩
                  refine RG.y rfl rfl (Y.loadN (cs := [.slice A51 y45.agents.length c52]) rfl (by kernel_rfl) (cells1 (fun w' hS => (blkCell hS.2.2 (i := 0) rfl)))) ?_
                  refine RG.y rfl rfl (Y.loadN (cs := [.slice A1 d0.agents.length c1]) rfl (by kernel_rfl) (cells1 (fun w' hS => (blkCell hS.2.1 (i := 0) rfl)))) ?_
                  refine RG.act rfl ?_
                  obtain ⟨y131, e132, hm⟩ := bnd hm
                  refine RL.call rfl (am1 rfl) (by kernel_rfl) ((c_toNetM d0 _ e132 _ _ (stArg (R := netRd) ⟨_, _, _, rfl, ⟨SlAt.now agentRd_ok h1 (Nat.le_refl _) T, r1⟩⟩)).mono ?_)
                  rintro _ w142 ⟨⟨A137, c138, rfl, h139, r140⟩, hb143⟩
                  refine ⟨_, rfl, ?_⟩
                  have szw142 := hb143.size
                  have B3 := blkT B3 hb143
                  have B63 := blkT B63 hb143
                  try have U27 := Tt U27 hb143
                  try have U55 := Tt U55 hb143
                  have T := Tt T hb143
                  have U141 := Below.refl w142.heap.size w142
                  refine RL.nil ⟨⟨T, B3, B63⟩, ?_⟩
                  refine RG.act rfl ?_
                  obtain ⟨y144, e145, hm⟩ := bnd hm
                  refine RL.call rfl (am2 rfl rfl) (by kernel_rfl) ((c_eqNetM y45 y131 _ e145 _ _ _ (stArg (R := netRd) ⟨_, _, _, rfl, ⟨SlAt.now agentRd_ok h53 (Nat.le_refl _) U55, r54⟩⟩) (stArg (R := netRd) ⟨_, _, _, rfl, ⟨SlAt.now agentRd_ok h139 (Nat.le_refl _) U141, r140⟩⟩)).mono ?_)
                  rintro _ w146 ⟨rfl, hb147⟩
                  refine ⟨_, rfl, ?_⟩
                  have szw146 := hb147.size
                  have B3 := blkT B3 hb147
                  have B63 := blkT B63 hb147
                  try have U27 := Tt U27 hb147
                  try have U55 := Tt U55 hb147
                  try have U141 := Tt U141 hb147
                  have T := Tt T hb147
                  refine RL.nil ⟨⟨T, B3, B63⟩, ?_⟩
                  refine RG.y rfl rfl (Y.not (b' := (!y144)) rfl rfl) ?_
                  refine RG.nil ?_
                  refine then_n ?_
                  rcases bcases y144 with c148 | c148
                  · replace hm := cF c148 hm
                    refine cond_t rfl (vbn rfl c148 rfl) ?_
                    refine wp_seq ?_
                    refine wp_rs rfl ?_
                    refine RQ.y rfl (Y.assign (v := .bool false) rfl) ?_
                    refine RQ.nil ?_
                    refine then_n ?_
                    refine wp_ret ?_
                    obtain rfl := Option.some.inj hm
                    exact (then_r (ret1 rfl rfl rfl ⟨rfl, T⟩))
                  · replace hm := cT c148 hm
                    refine cond_f rfl (vbn rfl c148 rfl) ?_
                    refine wp_skip ?_
                    refine then_n ?_
                    refine wp_seq ?_
                    refine wp_rs rfl ?_
                    refine RQ.y rfl (Y.assign (v := .bool true) rfl) ?_
                    refine RQ.nil ?_
                    refine then_n ?_
                    refine wp_ret ?_
                    obtain rfl := Option.some.inj hm
                    exact (ret1 rfl rfl rfl ⟨rfl, T⟩)
                · replace hm := cT c128 hm
                  refine cond_t rfl (vb rfl c128) ?_
                  refine wp_seq ?_
                  refine wp_rs rfl ?_
                  refine RQ.y rfl (Y.assign (v := .bool false) rfl) ?_
                  refine RQ.nil ?_
                  refine then_n ?_
                  refine wp_ret ?_
                  obtain rfl := Option.some.inj hm
                  exact (then_r (ret1 rfl rfl rfl ⟨rfl, T⟩))
          · refine RL.alloc (z := .agg #[.int .i64 0, .int .i64 0]) rfl (by kernel_rfl) (fun w149 B150 hb151 szw149 => ?_)
            replace B150 : Blk w149 w65.heap.size 28 #[.int .i64 0, .int .i64 0] := B150
            have GB150 : w.heap.size ≤ w65.heap.size := T.size
            have Eob152_ob5 := Nat.ne_of_lt B3.lt
            have Eob152_ob9 := Nat.ne_of_lt B7.lt
            have Eob152_ob41 := Nat.ne_of_lt B43.lt
            have Eob152_ob61 := Nat.ne_of_lt B63.lt
            have B3 := blkT B3 hb151
            have B7 := blkT B7 hb151
            have B43 := blkT B43 hb151
            have B63 := blkT B63 hb151
            try have U27 := Tt U27 hb151
            try have U55 := Tt U55 hb151
            have T := Tt T hb151
            refine RL.nil ⟨⟨T, B7, B63⟩, ?_⟩
            refine RT.act rfl ?_
            obtain ⟨y153, e154, hm⟩ := bnd hm
            refine RL.call rfl (am1 rfl) (by kernel_rfl) ((c_toPortM d1 _ e154  _ ).mono ?_)
            rintro _ w155 ⟨rfl, hb156⟩
            refine ⟨_, rfl, ?_⟩
            have szw155 := hb156.size
            have B3 := blkT B3 hb156
            have B7 := blkT B7 hb156
            have B43 := blkT B43 hb156
            have B63 := blkT B63 hb156
            have B150 := blkT B150 hb156
            try have U27 := Tt U27 hb156
            try have U55 := Tt U55 hb156
            have T := Tt T hb156
            refine RL.nil ⟨⟨T, B7, B63⟩, ?_⟩
            refine RT.act rfl ?_
            obtain ⟨y157, e158, hm⟩ := bnd hm
            refine RL.call rfl (am2 rfl rfl) (by kernel_rfl) ((c_m_impl_PeerOf y45 y153 _ e158 _ _ (stArg (R := netRd) ⟨_, _, _, rfl, ⟨SlAt.now agentRd_ok h53 (Nat.le_refl _) U55, r54⟩⟩)).mono ?_)
            rintro _ w159 ⟨rfl, hb160⟩
            refine ⟨_, rfl, ?_⟩
            have szw159 := hb160.size
            have B3 := blkT B3 hb160
            have B7 := blkT B7 hb160
            have B43 := blkT B43 hb160
            have B63 := blkT B63 hb160
            have B150 := blkT B150 hb160
            try have U27 := Tt U27 hb160
            try have U55 := Tt U55 hb160
            have T := Tt T hb160
            refine RL.nil ⟨⟨T, B7, B63⟩, ?_⟩
            refine RT.y rfl rfl (Y.move (v := .tuple #[.agg #[.int .i64 y157.1.agent, .int .i64 y157.1.slot], .int .i64 y157.2]) rfl) ?_
            refine RT.y rfl rfl (Y.extract (i := 0) rfl rfl) ?_
            refine RT.y rfl rfl (Y.extract (i := 1) rfl rfl) ?_
            refine RT.act rfl ?_
            refine RL.store (v := .agg #[.int .i64 y157.1.agent, .int .i64 y157.1.slot]) (cs' := #[.int .i64 y157.1.agent, .int .i64 y157.1.slot]) rfl rfl rfl B150 (by kernel_rfl) (by rfl) (by rfl) (by rfl) (fun w161 B162 ho163 => ?_)
            have szw161 := ho163.size
            have B3 := B3.only_ ho163 (by intro hin; simp at hin; exact Eob152_ob5 hin)
            have B7 := B7.only_ ho163 (by intro hin; simp at hin; exact Eob152_ob9 hin)
            have B43 := B43.only_ ho163 (by intro hin; simp at hin; exact Eob152_ob41 hin)
            have B63 := B63.only_ ho163 (by intro hin; simp at hin; exact Eob152_ob61 hin)
            try have U27 := U27.trans (ho163.below (by first | (simp; done) | (simp; omega)))
            try have U55 := U55.trans (ho163.below (by first | (simp; done) | (simp; omega)))
            have T := T.trans (ho163.below (by first | (simp; done) | (simp; omega)))
            refine RL.nil ⟨⟨T, B7, B63⟩, ?_⟩
            refine RT.y rfl rfl (Y.assign (v := .int .i64 y157.2) rfl) ?_
            refine RT.nil_ ?_
            refine then_n ?_
            refine wp_seq ?_
            refine wp_seq ?_
            refine wp_rb rfl ?_
            refine RQ.y rfl (Y.loadN (cs := [.int .i64 y157.1.agent, .int .i64 y157.1.slot]) rfl (by kernel_rfl) (cells2 (beC (blkCell B162 (i := 0) rfl)) (beC (blkCell B162 (i := 1) rfl)))) ?_
            refine RQ.y rfl (Y.loadN (cs := [.int .i64 y34.1.agent, .int .i64 y34.1.slot]) rfl (by kernel_rfl) (cells2 (beC (blkCell B43 (i := 0) rfl)) (beC (blkCell B43 (i := 1) rfl)))) ?_
            obtain ⟨y164, e165, hm⟩ := bnd hm
            refine RQ.call rfl (am2 rfl rfl) (by kernel_rfl) (v := .bool y164) (bel (K := fun _ => True) fun w' hb' => (c_eqPortM y157.1 y34.1 _ e165  w' )) ?_
            refine RQ.y rfl (Y.not (b' := (!y164)) rfl rfl) ?_
            refine RQ.y rfl (Y.move (v := .bool (!y164)) rfl) ?_
            rcases bcases y164 with c166 | c166
            · replace hm := cF c166 hm
              refine RQ.skip (wantN (dj := 37) rfl (vbn rfl c166 rfl) rfl) ?_
              refine RQ.skip (wantN (dj := 37) rfl (vbn rfl c166 rfl) rfl) ?_
              refine RQ.skip (wantN (dj := 37) rfl (vbn rfl c166 rfl) rfl) ?_
              refine RQ.y rfl (Y.pick (b := true) (v := .bool true) (vbn rfl c166 rfl) rfl) ?_
              refine RQ.nil ?_
              intro w167 hb168
              have szw167 := hb168.size
              have B3 := blkT B3 hb168
              have B63 := blkT B63 hb168
              try have U27 := Tt U27 hb168
              try have U55 := Tt U55 hb168
              have T := Tt T hb168
              refine then_n ?_
              refine cond_t rfl rfl ?_
              refine wp_seq ?_
              refine wp_rs rfl ?_
              refine RQ.y rfl (Y.assign (v := .bool false) rfl) ?_
              refine RQ.nil ?_
              refine then_n ?_
              refine wp_ret ?_
              obtain rfl := Option.some.inj hm
              exact (then_r (ret1 rfl rfl rfl ⟨rfl, T⟩))
            · replace hm := cT c166 hm
              refine RQ.y (wantT (dj := 37) rfl (vbn rfl c166 rfl)) (Y.move (v := .int .i64 y157.2) rfl) ?_
              refine RQ.y (wantT (dj := 37) rfl (vbn rfl c166 rfl)) (Y.move (v := .int .i64 y34.2) rfl) ?_
              refine RQ.y (wantT (dj := 37) rfl (vbn rfl c166 rfl)) (Y.binI (v := .bool (y157.2 != y34.2)) rfl rfl rfl) ?_
              refine RQ.y rfl (Y.pick (b := false) (v := .bool (y157.2 != y34.2)) (vbn rfl c166 rfl) rfl) ?_
              refine RQ.nil ?_
              intro w169 hb170
              have szw169 := hb170.size
              have B3 := blkT B3 hb170
              have B63 := blkT B63 hb170
              try have U27 := Tt U27 hb170
              try have U55 := Tt U55 hb170
              have T := Tt T hb170
              refine then_n ?_
              rcases bcases (y157.2 != y34.2) with c171 | c171
              · replace hm := cF c171 hm
                refine cond_f rfl (vb rfl c171) ?_
                refine wp_skip ?_
                refine then_n ?_
                refine wp_seq ?_
                refine wp_seq ?_
                refine wp_rg (fun w' => Below w.heap.size w w' ∧ Blk w' w.heap.size 24 #[.slice A1 d0.agents.length c1] ∧ Blk w' w56.heap.size 33 #[.slice A51 y45.agents.length c52]) [(0, true), (1, true), (2, false), (3, false), (4, true)] (by kernel_rfl) (by kernel_rfl) (fun w172 hb173 szw172 => ?_)
                have B3 := blkT B3 hb173
                have B63 := blkT B63 hb173
                try have U27 := Tt U27 hb173
                try have U55 := Tt U55 hb173
                have T := Tt T hb173
                refine ⟨⟨T, B3, B63⟩, ?_⟩
                refine RG.y rfl rfl (Y.loadN (cs := [.slice A51 y45.agents.length c52]) rfl (by kernel_rfl) (cells1 (fun w' hS => (blkCell hS.2.2 (i := 0) rfl)))) ?_
                refine RG.y rfl rfl (Y.loadN (cs := [.slice A1 d0.agents.length c1]) rfl (by kernel_rfl) (cells1 (fun w' hS => (blkCell hS.2.1 (i := 0) rfl)))) ?_
                refine RG.act rfl ?_
                obtain ⟨y174, e175, hm⟩ := bnd hm
                refine RL.call rfl (am1 rfl) (by kernel_rfl) ((c_toNetM d0 _ e175 _ _ (stArg (R := netRd) ⟨_, _, _, rfl, ⟨SlAt.now agentRd_ok h1 (Nat.le_refl _) T, r1⟩⟩)).mono ?_)
                rintro _ w185 ⟨⟨A180, c181, rfl, h182, r183⟩, hb186⟩
                refine ⟨_, rfl, ?_⟩
                have szw185 := hb186.size
                have B3 := blkT B3 hb186
                have B63 := blkT B63 hb186
                try have U27 := Tt U27 hb186
                try have U55 := Tt U55 hb186
                have T := Tt T hb186
                have U184 := Below.refl w185.heap.size w185
                refine RL.nil ⟨⟨T, B3, B63⟩, ?_⟩
                refine RG.act rfl ?_
                obtain ⟨y187, e188, hm⟩ := bnd hm
                refine RL.call rfl (am2 rfl rfl) (by kernel_rfl) ((c_eqNetM y45 y174 _ e188 _ _ _ (stArg (R := netRd) ⟨_, _, _, rfl, ⟨SlAt.now agentRd_ok h53 (Nat.le_refl _) U55, r54⟩⟩) (stArg (R := netRd) ⟨_, _, _, rfl, ⟨SlAt.now agentRd_ok h182 (Nat.le_refl _) U184, r183⟩⟩)).mono ?_)
                rintro _ w189 ⟨rfl, hb190⟩
                refine ⟨_, rfl, ?_⟩
                have szw189 := hb190.size
                have B3 := blkT B3 hb190
                have B63 := blkT B63 hb190
                try have U27 := Tt U27 hb190
                try have U55 := Tt U55 hb190
                try have U184 := Tt U184 hb190
                have T := Tt T hb190
                refine RL.nil ⟨⟨T, B3, B63⟩, ?_⟩
                refine RG.y rfl rfl (Y.not (b' := (!y187)) rfl rfl) ?_
                refine RG.nil ?_
                refine then_n ?_
                rcases bcases y187 with c191 | c191
                · replace hm := cF c191 hm
                  refine cond_t rfl (vbn rfl c191 rfl) ?_
                  refine wp_seq ?_
                  refine wp_rs rfl ?_
                  refine RQ.y rfl (Y.assign (v := .bool false) rfl) ?_
                  refine RQ.nil ?_
                  refine then_n ?_
                  refine wp_ret ?_
                  obtain rfl := Option.some.inj hm
                  exact (then_r (ret1 rfl rfl rfl ⟨rfl, T⟩))
                · replace hm := cT c191 hm
                  refine cond_f rfl (vbn rfl c191 rfl) ?_
                  refine wp_skip ?_
                  refine then_n ?_
                  refine wp_seq ?_
                  refine wp_rs rfl ?_
                  refine RQ.y rfl (Y.assign (v := .bool true) rfl) ?_
                  refine RQ.nil ?_
                  refine then_n ?_
                  refine wp_ret ?_
                  obtain rfl := Option.some.inj hm
                  exact (ret1 rfl rfl rfl ⟨rfl, T⟩)
              · replace hm := cT c171 hm
                refine cond_t rfl (vb rfl c171) ?_
                refine wp_seq ?_
                refine wp_rs rfl ?_
                refine RQ.y rfl (Y.assign (v := .bool false) rfl) ?_
                refine RQ.nil ?_
                refine then_n ?_
                refine wp_ret ?_
                obtain rfl := Option.some.inj hm
                exact (then_r (ret1 rfl rfl rfl ⟨rfl, T⟩))
        · refine RL.alloc (z := .agg #[.int .i64 0, .int .i64 0]) rfl (by kernel_rfl) (fun w192 B193 hb194 szw192 => ?_)
          replace B193 : Blk w192 w32.heap.size 28 #[.int .i64 0, .int .i64 0] := B193
          have GB193 : w.heap.size ≤ w32.heap.size := T.size
          have Eob195_ob5 := Nat.ne_of_lt B3.lt
          have Eob195_ob9 := Nat.ne_of_lt B7.lt
          have B3 := blkT B3 hb194
          have B7 := blkT B7 hb194
          try have U27 := Tt U27 hb194
          have T := Tt T hb194
          refine RL.nil ⟨⟨T, B3, B7⟩, ?_⟩
          refine RT.act rfl ?_
          obtain ⟨y196, e197, hm⟩ := bnd hm
          refine RL.call rfl (am2 rfl rfl) (by kernel_rfl) ((c_m_spec_PeerOf y17 y30 _ e197 _ _ (stArg (R := netRd) ⟨_, _, _, rfl, ⟨SlAt.now agentRd_ok h25 (Nat.le_refl _) U27, r26⟩⟩)).mono ?_)
          rintro _ w198 ⟨rfl, hb199⟩
          refine ⟨_, rfl, ?_⟩
          have szw198 := hb199.size
          have B3 := blkT B3 hb199
          have B7 := blkT B7 hb199
          have B193 := blkT B193 hb199
          try have U27 := Tt U27 hb199
          have T := Tt T hb199
          refine RL.nil ⟨⟨T, B3, B7⟩, ?_⟩
          refine RT.y rfl rfl (Y.move (v := .tuple #[.agg #[.int .i64 y196.1.agent, .int .i64 y196.1.slot], .int .i64 y196.2]) rfl) ?_
          refine RT.y rfl rfl (Y.extract (i := 0) rfl rfl) ?_
          refine RT.y rfl rfl (Y.extract (i := 1) rfl rfl) ?_
          refine RT.act rfl ?_
          refine RL.store (v := .agg #[.int .i64 y196.1.agent, .int .i64 y196.1.slot]) (cs' := #[.int .i64 y196.1.agent, .int .i64 y196.1.slot]) rfl rfl rfl B193 (by kernel_rfl) (by rfl) (by rfl) (by rfl) (fun w200 B201 ho202 => ?_)
          have szw200 := ho202.size
          have B3 := B3.only_ ho202 (by intro hin; simp at hin; exact Eob195_ob5 hin)
          have B7 := B7.only_ ho202 (by intro hin; simp at hin; exact Eob195_ob9 hin)
          try have U27 := U27.trans (ho202.below (by first | (simp; done) | (simp; omega)))
          have T := T.trans (ho202.below (by first | (simp; done) | (simp; omega)))
          refine RL.nil ⟨⟨T, B3, B7⟩, ?_⟩
          refine RT.y rfl rfl (Y.assign (v := .int .i64 y196.2) rfl) ?_
          refine RT.nil_ ?_
          refine then_n ?_
          refine wp_seq ?_
          refine wp_rl rfl ?_
          refine RL.y rfl (Y.loadN (cs := [.slice A1 d0.agents.length c1]) rfl (by kernel_rfl) (cells1 (eqC (blkCell B3 (i := 0) rfl)))) ?_
          obtain ⟨y203, e204, hm⟩ := bnd hm
          refine RL.call rfl (am1 rfl) (by kernel_rfl) ((c_toNetM d0 _ e204 _ _ (stArg (R := netRd) ⟨_, _, _, rfl, ⟨SlAt.now agentRd_ok h1 (Nat.le_refl _) T, r1⟩⟩)).mono ?_)
          rintro _ w214 ⟨⟨A209, c210, rfl, h211, r212⟩, hb215⟩
          refine ⟨_, rfl, ?_⟩
          have szw214 := hb215.size
          have B3 := blkT B3 hb215
          have B7 := blkT B7 hb215
          have B201 := blkT B201 hb215
          try have U27 := Tt U27 hb215
          have T := Tt T hb215
          have U213 := Below.refl w214.heap.size w214
          refine RL.alloc (z := .agg #[.slice none 0 0]) rfl (by kernel_rfl) (fun w216 B217 hb218 szw216 => ?_)
          replace B217 : Blk w216 w214.heap.size 33 #[.slice none 0 0] := B217
          have GB217 : w.heap.size ≤ w214.heap.size := T.size
          have Eob219_ob5 := Nat.ne_of_lt B3.lt
          have Eob219_ob9 := Nat.ne_of_lt B7.lt
          have Eob219_ob195 := Nat.ne_of_lt B201.lt
          have B3 := blkT B3 hb218
          have B7 := blkT B7 hb218
          have B201 := blkT B201 hb218
          try have U27 := Tt U27 hb218
          try have U213 := Tt U213 hb218
          have T := Tt T hb218
          refine RL.store (v := .agg #[.slice A209 y203.agents.length c210]) (cs' := #[.slice A209 y203.agents.length c210]) rfl rfl rfl B217 (by kernel_rfl) (by rfl) (by rfl) (by rfl) (fun w220 B221 ho222 => ?_)
          have szw220 := ho222.size
          have B3 := B3.only_ ho222 (by intro hin; simp at hin; exact Eob219_ob5 hin)
          have B7 := B7.only_ ho222 (by intro hin; simp at hin; exact Eob219_ob9 hin)
          have B201 := B201.only_ ho222 (by intro hin; simp at hin; exact Eob219_ob195 hin)
          try have U27 := U27.trans (ho222.below (by first | (simp; done) | (simp; omega)))
          try have U213 := U213.trans (ho222.below (by first | (simp; done) | (simp; omega)))
          have T := T.trans (ho222.below (by first | (simp; done) | (simp; omega)))
          refine RL.nil ?_
          refine then_n ?_
          refine wp_seq ?_
          refine wp_rgt (fun w' => Below w.heap.size w w' ∧ Blk w' w2.heap.size 26 #[.int .i64 d1.agent, .int .i64 d1.slot] ∧ Blk w' w214.heap.size 33 #[.slice A209 y203.agents.length c210]) (.q 0 (.q 1 (.two 2 (.two 3 (.q 4 (.q 5 (.q 6 (.a 7 (.a 8 (.q 9 .nil)))))) 7 (.a 3 (.q 4 (.q 5 (.q 6 (.a 8 (.q 9 .nil))))))) 7 (.a 2 (.a 3 (.q 4 (.q 5 (.q 6 (.a 8 (.q 9 .nil)))))))))) (by kernel_rfl) (by kernel_rfl) (fun w223 hb224 szw223 => ?_)
          have B3 := blkT B3 hb224
          have B7 := blkT B7 hb224
          have B201 := blkT B201 hb224
          have B221 := blkT B221 hb224
          try have U27 := Tt U27 hb224
          try have U213 := Tt U213 hb224
          have T := Tt T hb224
          refine ⟨⟨T, B7, B221⟩, ?_⟩
          refine RT.y rfl rfl (Y.loadN (cs := [.slice A209 y203.agents.length c210]) rfl (by kernel_rfl) (cells1 (fun w' hS => (blkCell hS.2.2 (i := 0) rfl)))) ?_
          refine RT.y rfl rfl (Y.loadN (cs := [.int .i64 d1.agent, .int .i64 d1.slot]) rfl (by kernel_rfl) (cells2 (fun w' hS => (blkCell hS.2.1 (i := 0) rfl)) (fun w' hS => (blkCell hS.2.1 (i := 1) rfl)))) ?_
          refine RT.both rfl rfl ?_ ?_
          · obtain ⟨y225, e226, hm⟩ := bnd hm
            refine RL.call rfl (am1 rfl) (by kernel_rfl) ((c_toPortM d1 _ e226  _ ).mono ?_)
            rintro _ w227 ⟨rfl, hb228⟩
            refine ⟨_, rfl, ?_⟩
            have szw227 := hb228.size
            have B3 := blkT B3 hb228
            have B7 := blkT B7 hb228
            have B201 := blkT B201 hb228
            have B221 := blkT B221 hb228
            try have U27 := Tt U27 hb228
            try have U213 := Tt U213 hb228
            have T := Tt T hb228
            refine RL.nil ⟨⟨T, B7, B221⟩, ?_⟩
            refine RT.both rfl rfl ?_ ?_
            · obtain ⟨y229, e230, hm⟩ := bnd hm
              refine RL.call rfl (am2 rfl rfl) (by kernel_rfl) ((c_m_impl_PeerOf y203 y225 _ e230 _ _ (stArg (R := netRd) ⟨_, _, _, rfl, ⟨SlAt.now agentRd_ok h211 (Nat.le_refl _) U213, r212⟩⟩)).mono ?_)
              rintro _ w231 ⟨rfl, hb232⟩
              refine ⟨_, rfl, ?_⟩
              have szw231 := hb232.size
              have B3 := blkT B3 hb232
              have B7 := blkT B7 hb232
              have B201 := blkT B201 hb232
              have B221 := blkT B221 hb232
              try have U27 := Tt U27 hb232
              try have U213 := Tt U213 hb232
              have T := Tt T hb232
              refine RL.nil ⟨⟨T, B7, B221⟩, ?_⟩
              refine RT.y rfl rfl (Y.move (v := .tuple #[.agg #[.int .i64 y229.1.agent, .int .i64 y229.1.slot], .int .i64 y229.2]) rfl) ?_
              refine RT.y rfl rfl (Y.extract (i := 0) rfl rfl) ?_
              refine RT.y rfl rfl (Y.extract (i := 1) rfl rfl) ?_
              refine RT.act rfl ?_
              refine RL.alloc (z := .agg #[.int .i64 0, .int .i64 0]) rfl (by kernel_rfl) (fun w233 B234 hb235 szw233 => ?_)
              replace B234 : Blk w233 w231.heap.size 28 #[.int .i64 0, .int .i64 0] := B234
              have GB234 : w.heap.size ≤ w231.heap.size := T.size
              have Eob236_ob5 := Nat.ne_of_lt B3.lt
              have Eob236_ob9 := Nat.ne_of_lt B7.lt
              have Eob236_ob195 := Nat.ne_of_lt B201.lt
              have Eob236_ob219 := Nat.ne_of_lt B221.lt
              have B3 := blkT B3 hb235
              have B7 := blkT B7 hb235
              have B201 := blkT B201 hb235
              have B221 := blkT B221 hb235
              try have U27 := Tt U27 hb235
              try have U213 := Tt U213 hb235
              have T := Tt T hb235
              refine RL.nil ⟨⟨T, B7, B221⟩, ?_⟩
              refine RT.act rfl ?_
              refine RL.store (v := .agg #[.int .i64 y229.1.agent, .int .i64 y229.1.slot]) (cs' := #[.int .i64 y229.1.agent, .int .i64 y229.1.slot]) rfl rfl rfl B234 (by kernel_rfl) (by rfl) (by rfl) (by rfl) (fun w237 B238 ho239 => ?_)
              have szw237 := ho239.size
              have B3 := B3.only_ ho239 (by intro hin; simp at hin; exact Eob236_ob5 hin)
              have B7 := B7.only_ ho239 (by intro hin; simp at hin; exact Eob236_ob9 hin)
              have B201 := B201.only_ ho239 (by intro hin; simp at hin; exact Eob236_ob195 hin)
              have B221 := B221.only_ ho239 (by intro hin; simp at hin; exact Eob236_ob219 hin)
              try have U27 := U27.trans (ho239.below (by first | (simp; done) | (simp; omega)))
              try have U213 := U213.trans (ho239.below (by first | (simp; done) | (simp; omega)))
              have T := T.trans (ho239.below (by first | (simp; done) | (simp; omega)))
              refine RL.nil ⟨⟨T, B7, B221⟩, ?_⟩
              refine RT.y rfl rfl (Y.assign (v := .int .i64 y229.2) rfl) ?_
              refine RT.nil_ ?_
              refine then_n ?_
              refine wp_seq ?_
              refine wp_seq ?_
              refine wp_rb rfl ?_
              refine RQ.y rfl (Y.loadN (cs := [.int .i64 y229.1.agent, .int .i64 y229.1.slot]) rfl (by kernel_rfl) (cells2 (beC (blkCell B238 (i := 0) rfl)) (beC (blkCell B238 (i := 1) rfl)))) ?_
              refine RQ.y rfl (Y.loadN (cs := [.int .i64 y196.1.agent, .int .i64 y196.1.slot]) rfl (by kernel_rfl) (cells2 (beC (blkCell B201 (i := 0) rfl)) (beC (blkCell B201 (i := 1) rfl)))) ?_
              obtain ⟨y240, e241, hm⟩ := bnd hm
              refine RQ.call rfl (am2 rfl rfl) (by kernel_rfl) (v := .bool y240) (bel (K := fun _ => True) fun w' hb' => (c_eqPortM y229.1 y196.1 _ e241  w' )) ?_
              refine RQ.y rfl (Y.not (b' := (!y240)) rfl rfl) ?_
              refine RQ.y rfl (Y.move (v := .bool (!y240)) rfl) ?_
              rcases bcases y240 with c242 | c242
              · replace hm := cF c242 hm
                refine RQ.skip (wantN (dj := 37) rfl (vbn rfl c242 rfl) rfl) ?_
                refine RQ.skip (wantN (dj := 37) rfl (vbn rfl c242 rfl) rfl) ?_
                refine RQ.skip (wantN (dj := 37) rfl (vbn rfl c242 rfl) rfl) ?_
                refine RQ.y rfl (Y.pick (b := true) (v := .bool true) (vbn rfl c242 rfl) rfl) ?_
                refine RQ.nil ?_
                intro w243 hb244
                have szw243 := hb244.size
                have B3 := blkT B3 hb244
                have B221 := blkT B221 hb244
                try have U27 := Tt U27 hb244
                try have U213 := Tt U213 hb244
                have T := Tt T hb244
                refine then_n ?_
                refine cond_t rfl rfl ?_
                refine wp_seq ?_
                refine wp_rs rfl ?_
                refine RQ.y rfl (Y.assign (v := .bool false) rfl) ?_
                refine RQ.nil ?_
                refine then_n ?_
                refine wp_ret ?_
                obtain rfl := Option.some.inj hm
                exact (then_r (ret1 rfl rfl rfl ⟨rfl, T⟩))
              · replace hm := cT c242 hm
                refine RQ.y (wantT (dj := 37) rfl (vbn rfl c242 rfl)) (Y.move (v := .int .i64 y229.2) rfl) ?_
                refine RQ.y (wantT (dj := 37) rfl (vbn rfl c242 rfl)) (Y.move (v := .int .i64 y196.2) rfl) ?_
                refine RQ.y (wantT (dj := 37) rfl (vbn rfl c242 rfl)) (Y.binI (v := .bool (y229.2 != y196.2)) rfl rfl rfl) ?_
                refine RQ.y rfl (Y.pick (b := false) (v := .bool (y229.2 != y196.2)) (vbn rfl c242 rfl) rfl) ?_
                refine RQ.nil ?_
                intro w245 hb246
                have szw245 := hb246.size
                have B3 := blkT B3 hb246
                have B221 := blkT B221 hb246
                try have U27 := Tt U27 hb246
                try have U213 := Tt U213 hb246
                have T := Tt T hb246
                refine then_n ?_
                rcases bcases (y229.2 != y196.2) with c247 | c247
                · replace hm := cF c247 hm
                  refine cond_f rfl (vb rfl c247) ?_
                  refine wp_skip ?_
                  refine then_n ?_
                  refine wp_seq ?_
                  refine wp_seq ?_
                  refine wp_rg (fun w' => Below w.heap.size w w' ∧ Blk w' w.heap.size 24 #[.slice A1 d0.agents.length c1] ∧ Blk w' w214.heap.size 33 #[.slice A209 y203.agents.length c210]) [(0, true), (1, true), (2, false), (3, false), (4, true)] (by kernel_rfl) (by kernel_rfl) (fun w248 hb249 szw248 => ?_)
                  have B3 := blkT B3 hb249
                  have B221 := blkT B221 hb249
                  try have U27 := Tt U27 hb249
                  try have U213 := Tt U213 hb249
                  have T := Tt T hb249
                  refine ⟨⟨T, B3, B221⟩, ?_⟩
                  refine RG.y rfl rfl (Y.loadN (cs := [.slice A209 y203.agents.length c210]) rfl (by kernel_rfl) (cells1 (fun w' hS => (blkCell hS.2.2 (i := 0) rfl)))) ?_
                  refine RG.y rfl rfl (Y.loadN (cs := [.slice A1 d0.agents.length c1]) rfl (by kernel_rfl) (cells1 (fun w' hS => (blkCell hS.2.1 (i := 0) rfl)))) ?_
                  refine RG.act rfl ?_
                  obtain ⟨y250, e251, hm⟩ := bnd hm
                  refine RL.call rfl (am1 rfl) (by kernel_rfl) ((c_toNetM d0 _ e251 _ _ (stArg (R := netRd) ⟨_, _, _, rfl, ⟨SlAt.now agentRd_ok h1 (Nat.le_refl _) T, r1⟩⟩)).mono ?_)
                  rintro _ w261 ⟨⟨A256, c257, rfl, h258, r259⟩, hb262⟩
                  refine ⟨_, rfl, ?_⟩
                  have szw261 := hb262.size
                  have B3 := blkT B3 hb262
                  have B221 := blkT B221 hb262
                  try have U27 := Tt U27 hb262
                  try have U213 := Tt U213 hb262
                  have T := Tt T hb262
                  have U260 := Below.refl w261.heap.size w261
                  refine RL.nil ⟨⟨T, B3, B221⟩, ?_⟩
                  refine RG.act rfl ?_
                  obtain ⟨y263, e264, hm⟩ := bnd hm
                  refine RL.call rfl (am2 rfl rfl) (by kernel_rfl) ((c_eqNetM y203 y250 _ e264 _ _ _ (stArg (R := netRd) ⟨_, _, _, rfl, ⟨SlAt.now agentRd_ok h211 (Nat.le_refl _) U213, r212⟩⟩) (stArg (R := netRd) ⟨_, _, _, rfl, ⟨SlAt.now agentRd_ok h258 (Nat.le_refl _) U260, r259⟩⟩)).mono ?_)
                  rintro _ w265 ⟨rfl, hb266⟩
                  refine ⟨_, rfl, ?_⟩
                  have szw265 := hb266.size
                  have B3 := blkT B3 hb266
                  have B221 := blkT B221 hb266
                  try have U27 := Tt U27 hb266
                  try have U213 := Tt U213 hb266
                  try have U260 := Tt U260 hb266
                  have T := Tt T hb266
                  refine RL.nil ⟨⟨T, B3, B221⟩, ?_⟩
                  refine RG.y rfl rfl (Y.not (b' := (!y263)) rfl rfl) ?_
                  refine RG.nil ?_
                  refine then_n ?_
                  rcases bcases y263 with c267 | c267
                  · replace hm := cF c267 hm
                    refine cond_t rfl (vbn rfl c267 rfl) ?_
                    refine wp_seq ?_
                    refine wp_rs rfl ?_
                    refine RQ.y rfl (Y.assign (v := .bool false) rfl) ?_
                    refine RQ.nil ?_
                    refine then_n ?_
                    refine wp_ret ?_
                    obtain rfl := Option.some.inj hm
                    exact (then_r (ret1 rfl rfl rfl ⟨rfl, T⟩))
                  · replace hm := cT c267 hm
                    refine cond_f rfl (vbn rfl c267 rfl) ?_
                    refine wp_skip ?_
                    refine then_n ?_
                    refine wp_seq ?_
                    refine wp_rs rfl ?_
                    refine RQ.y rfl (Y.assign (v := .bool true) rfl) ?_
                    refine RQ.nil ?_
                    refine then_n ?_
                    refine wp_ret ?_
                    obtain rfl := Option.some.inj hm
                    exact (ret1 rfl rfl rfl ⟨rfl, T⟩)
                · replace hm := cT c247 hm
                  refine cond_t rfl (vb rfl c247) ?_
                  refine wp_seq ?_
                  refine wp_rs rfl ?_
                  refine RQ.y rfl (Y.assign (v := .bool false) rfl) ?_
                  refine RQ.nil ?_
                  refine then_n ?_
                  refine wp_ret ?_
                  obtain rfl := Option.some.inj hm
                  exact (then_r (ret1 rfl rfl rfl ⟨rfl, T⟩))
            · refine RL.alloc (z := .agg #[.int .i64 0, .int .i64 0]) rfl (by kernel_rfl) (fun w268 B269 hb270 szw268 => ?_)
              replace B269 : Blk w268 w227.heap.size 28 #[.int .i64 0, .int .i64 0] := B269
              have GB269 : w.heap.size ≤ w227.heap.size := T.size
              have Eob271_ob5 := Nat.ne_of_lt B3.lt
              have Eob271_ob9 := Nat.ne_of_lt B7.lt
              have Eob271_ob195 := Nat.ne_of_lt B201.lt
              have Eob271_ob219 := Nat.ne_of_lt B221.lt
              have B3 := blkT B3 hb270
              have B7 := blkT B7 hb270
              have B201 := blkT B201 hb270
              have B221 := blkT B221 hb270
              try have U27 := Tt U27 hb270
              try have U213 := Tt U213 hb270
              have T := Tt T hb270
              refine RL.nil ⟨⟨T, B7, B221⟩, ?_⟩
              refine RT.act rfl ?_
              obtain ⟨y272, e273, hm⟩ := bnd hm
              refine RL.call rfl (am2 rfl rfl) (by kernel_rfl) ((c_m_impl_PeerOf y203 y225 _ e273 _ _ (stArg (R := netRd) ⟨_, _, _, rfl, ⟨SlAt.now agentRd_ok h211 (Nat.le_refl _) U213, r212⟩⟩)).mono ?_)
              rintro _ w274 ⟨rfl, hb275⟩
              refine ⟨_, rfl, ?_⟩
              have szw274 := hb275.size
              have B3 := blkT B3 hb275
              have B7 := blkT B7 hb275
              have B201 := blkT B201 hb275
              have B221 := blkT B221 hb275
              have B269 := blkT B269 hb275
              try have U27 := Tt U27 hb275
              try have U213 := Tt U213 hb275
              have T := Tt T hb275
              refine RL.nil ⟨⟨T, B7, B221⟩, ?_⟩
              refine RT.y rfl rfl (Y.move (v := .tuple #[.agg #[.int .i64 y272.1.agent, .int .i64 y272.1.slot], .int .i64 y272.2]) rfl) ?_
              refine RT.y rfl rfl (Y.extract (i := 0) rfl rfl) ?_
              refine RT.y rfl rfl (Y.extract (i := 1) rfl rfl) ?_
              refine RT.act rfl ?_
              refine RL.store (v := .agg #[.int .i64 y272.1.agent, .int .i64 y272.1.slot]) (cs' := #[.int .i64 y272.1.agent, .int .i64 y272.1.slot]) rfl rfl rfl B269 (by kernel_rfl) (by rfl) (by rfl) (by rfl) (fun w276 B277 ho278 => ?_)
              have szw276 := ho278.size
              have B3 := B3.only_ ho278 (by intro hin; simp at hin; exact Eob271_ob5 hin)
              have B7 := B7.only_ ho278 (by intro hin; simp at hin; exact Eob271_ob9 hin)
              have B201 := B201.only_ ho278 (by intro hin; simp at hin; exact Eob271_ob195 hin)
              have B221 := B221.only_ ho278 (by intro hin; simp at hin; exact Eob271_ob219 hin)
              try have U27 := U27.trans (ho278.below (by first | (simp; done) | (simp; omega)))
              try have U213 := U213.trans (ho278.below (by first | (simp; done) | (simp; omega)))
              have T := T.trans (ho278.below (by first | (simp; done) | (simp; omega)))
              refine RL.nil ⟨⟨T, B7, B221⟩, ?_⟩
              refine RT.y rfl rfl (Y.assign (v := .int .i64 y272.2) rfl) ?_
              refine RT.nil_ ?_
              refine then_n ?_
              refine wp_seq ?_
              refine wp_seq ?_
              refine wp_rb rfl ?_
              refine RQ.y rfl (Y.loadN (cs := [.int .i64 y272.1.agent, .int .i64 y272.1.slot]) rfl (by kernel_rfl) (cells2 (beC (blkCell B277 (i := 0) rfl)) (beC (blkCell B277 (i := 1) rfl)))) ?_
              refine RQ.y rfl (Y.loadN (cs := [.int .i64 y196.1.agent, .int .i64 y196.1.slot]) rfl (by kernel_rfl) (cells2 (beC (blkCell B201 (i := 0) rfl)) (beC (blkCell B201 (i := 1) rfl)))) ?_
              obtain ⟨y279, e280, hm⟩ := bnd hm
              refine RQ.call rfl (am2 rfl rfl) (by kernel_rfl) (v := .bool y279) (bel (K := fun _ => True) fun w' hb' => (c_eqPortM y272.1 y196.1 _ e280  w' )) ?_
              refine RQ.y rfl (Y.not (b' := (!y279)) rfl rfl) ?_
              refine RQ.y rfl (Y.move (v := .bool (!y279)) rfl) ?_
              rcases bcases y279 with c281 | c281
              · replace hm := cF c281 hm
                refine RQ.skip (wantN (dj := 37) rfl (vbn rfl c281 rfl) rfl) ?_
                refine RQ.skip (wantN (dj := 37) rfl (vbn rfl c281 rfl) rfl) ?_
                refine RQ.skip (wantN (dj := 37) rfl (vbn rfl c281 rfl) rfl) ?_
                refine RQ.y rfl (Y.pick (b := true) (v := .bool true) (vbn rfl c281 rfl) rfl) ?_
                refine RQ.nil ?_
                intro w282 hb283
                have szw282 := hb283.size
                have B3 := blkT B3 hb283
                have B221 := blkT B221 hb283
                try have U27 := Tt U27 hb283
                try have U213 := Tt U213 hb283
                have T := Tt T hb283
                refine then_n ?_
                refine cond_t rfl rfl ?_
                refine wp_seq ?_
                refine wp_rs rfl ?_
                refine RQ.y rfl (Y.assign (v := .bool false) rfl) ?_
                refine RQ.nil ?_
                refine then_n ?_
                refine wp_ret ?_
                obtain rfl := Option.some.inj hm
                exact (then_r (ret1 rfl rfl rfl ⟨rfl, T⟩))
              · replace hm := cT c281 hm
                refine RQ.y (wantT (dj := 37) rfl (vbn rfl c281 rfl)) (Y.move (v := .int .i64 y272.2) rfl) ?_
                refine RQ.y (wantT (dj := 37) rfl (vbn rfl c281 rfl)) (Y.move (v := .int .i64 y196.2) rfl) ?_
                refine RQ.y (wantT (dj := 37) rfl (vbn rfl c281 rfl)) (Y.binI (v := .bool (y272.2 != y196.2)) rfl rfl rfl) ?_
                refine RQ.y rfl (Y.pick (b := false) (v := .bool (y272.2 != y196.2)) (vbn rfl c281 rfl) rfl) ?_
                refine RQ.nil ?_
                intro w284 hb285
                have szw284 := hb285.size
                have B3 := blkT B3 hb285
                have B221 := blkT B221 hb285
                try have U27 := Tt U27 hb285
                try have U213 := Tt U213 hb285
                have T := Tt T hb285
                refine then_n ?_
                rcases bcases (y272.2 != y196.2) with c286 | c286
                · replace hm := cF c286 hm
                  refine cond_f rfl (vb rfl c286) ?_
                  refine wp_skip ?_
                  refine then_n ?_
                  refine wp_seq ?_
                  refine wp_seq ?_
                  refine wp_rg (fun w' => Below w.heap.size w w' ∧ Blk w' w.heap.size 24 #[.slice A1 d0.agents.length c1] ∧ Blk w' w214.heap.size 33 #[.slice A209 y203.agents.length c210]) [(0, true), (1, true), (2, false), (3, false), (4, true)] (by kernel_rfl) (by kernel_rfl) (fun w287 hb288 szw287 => ?_)
                  have B3 := blkT B3 hb288
                  have B221 := blkT B221 hb288
                  try have U27 := Tt U27 hb288
                  try have U213 := Tt U213 hb288
                  have T := Tt T hb288
                  refine ⟨⟨T, B3, B221⟩, ?_⟩
                  refine RG.y rfl rfl (Y.loadN (cs := [.slice A209 y203.agents.length c210]) rfl (by kernel_rfl) (cells1 (fun w' hS => (blkCell hS.2.2 (i := 0) rfl)))) ?_
                  refine RG.y rfl rfl (Y.loadN (cs := [.slice A1 d0.agents.length c1]) rfl (by kernel_rfl) (cells1 (fun w' hS => (blkCell hS.2.1 (i := 0) rfl)))) ?_
                  refine RG.act rfl ?_
                  obtain ⟨y289, e290, hm⟩ := bnd hm
                  refine RL.call rfl (am1 rfl) (by kernel_rfl) ((c_toNetM d0 _ e290 _ _ (stArg (R := netRd) ⟨_, _, _, rfl, ⟨SlAt.now agentRd_ok h1 (Nat.le_refl _) T, r1⟩⟩)).mono ?_)
                  rintro _ w300 ⟨⟨A295, c296, rfl, h297, r298⟩, hb301⟩
                  refine ⟨_, rfl, ?_⟩
                  have szw300 := hb301.size
                  have B3 := blkT B3 hb301
                  have B221 := blkT B221 hb301
                  try have U27 := Tt U27 hb301
                  try have U213 := Tt U213 hb301
                  have T := Tt T hb301
                  have U299 := Below.refl w300.heap.size w300
                  refine RL.nil ⟨⟨T, B3, B221⟩, ?_⟩
                  refine RG.act rfl ?_
                  obtain ⟨y302, e303, hm⟩ := bnd hm
                  refine RL.call rfl (am2 rfl rfl) (by kernel_rfl) ((c_eqNetM y203 y289 _ e303 _ _ _ (stArg (R := netRd) ⟨_, _, _, rfl, ⟨SlAt.now agentRd_ok h211 (Nat.le_refl _) U213, r212⟩⟩) (stArg (R := netRd) ⟨_, _, _, rfl, ⟨SlAt.now agentRd_ok h297 (Nat.le_refl _) U299, r298⟩⟩)).mono ?_)
                  rintro _ w304 ⟨rfl, hb305⟩
                  refine ⟨_, rfl, ?_⟩
                  have szw304 := hb305.size
                  have B3 := blkT B3 hb305
                  have B221 := blkT B221 hb305
                  try have U27 := Tt U27 hb305
                  try have U213 := Tt U213 hb305
                  try have U299 := Tt U299 hb305
                  have T := Tt T hb305
                  refine RL.nil ⟨⟨T, B3, B221⟩, ?_⟩
                  refine RG.y rfl rfl (Y.not (b' := (!y302)) rfl rfl) ?_
                  refine RG.nil ?_
                  refine then_n ?_
                  rcases bcases y302 with c306 | c306
                  · replace hm := cF c306 hm
                    refine cond_t rfl (vbn rfl c306 rfl) ?_
                    refine wp_seq ?_
                    refine wp_rs rfl ?_
                    refine RQ.y rfl (Y.assign (v := .bool false) rfl) ?_
                    refine RQ.nil ?_
                    refine then_n ?_
                    refine wp_ret ?_
                    obtain rfl := Option.some.inj hm
                    exact (then_r (ret1 rfl rfl rfl ⟨rfl, T⟩))
                  · replace hm := cT c306 hm
                    refine cond_f rfl (vbn rfl c306 rfl) ?_
                    refine wp_skip ?_
                    refine then_n ?_
                    refine wp_seq ?_
                    refine wp_rs rfl ?_
                    refine RQ.y rfl (Y.assign (v := .bool true) rfl) ?_
                    refine RQ.nil ?_
                    refine then_n ?_
                    refine wp_ret ?_
                    obtain rfl := Option.some.inj hm
                    exact (ret1 rfl rfl rfl ⟨rfl, T⟩)
                · replace hm := cT c286 hm
                  refine cond_t rfl (vb rfl c286) ?_
                  refine wp_seq ?_
                  refine wp_rs rfl ?_
                  refine RQ.y rfl (Y.assign (v := .bool false) rfl) ?_
                  refine RQ.nil ?_
                  refine then_n ?_
                  refine wp_ret ?_
                  obtain rfl := Option.some.inj hm
                  exact (then_r (ret1 rfl rfl rfl ⟨rfl, T⟩))
          · refine RL.alloc (z := .agg #[.int .i64 0, .int .i64 0]) rfl (by kernel_rfl) (fun w307 B308 hb309 szw307 => ?_)
            replace B308 : Blk w307 w223.heap.size 28 #[.int .i64 0, .int .i64 0] := B308
            have GB308 : w.heap.size ≤ w223.heap.size := T.size
            have Eob310_ob5 := Nat.ne_of_lt B3.lt
            have Eob310_ob9 := Nat.ne_of_lt B7.lt
            have Eob310_ob195 := Nat.ne_of_lt B201.lt
            have Eob310_ob219 := Nat.ne_of_lt B221.lt
            have B3 := blkT B3 hb309
            have B7 := blkT B7 hb309
            have B201 := blkT B201 hb309
            have B221 := blkT B221 hb309
            try have U27 := Tt U27 hb309
            try have U213 := Tt U213 hb309
            have T := Tt T hb309
            refine RL.nil ⟨⟨T, B7, B221⟩, ?_⟩
            refine RT.act rfl ?_
            obtain ⟨y311, e312, hm⟩ := bnd hm
            refine RL.call rfl (am1 rfl) (by kernel_rfl) ((c_toPortM d1 _ e312  _ ).mono ?_)
            rintro _ w313 ⟨rfl, hb314⟩
            refine ⟨_, rfl, ?_⟩
            have szw313 := hb314.size
            have B3 := blkT B3 hb314
            have B7 := blkT B7 hb314
            have B201 := blkT B201 hb314
            have B221 := blkT B221 hb314
            have B308 := blkT B308 hb314
            try have U27 := Tt U27 hb314
            try have U213 := Tt U213 hb314
            have T := Tt T hb314
            refine RL.nil ⟨⟨T, B7, B221⟩, ?_⟩
            refine RT.act rfl ?_
            obtain ⟨y315, e316, hm⟩ := bnd hm
            refine RL.call rfl (am2 rfl rfl) (by kernel_rfl) ((c_m_impl_PeerOf y203 y311 _ e316 _ _ (stArg (R := netRd) ⟨_, _, _, rfl, ⟨SlAt.now agentRd_ok h211 (Nat.le_refl _) U213, r212⟩⟩)).mono ?_)
            rintro _ w317 ⟨rfl, hb318⟩
            refine ⟨_, rfl, ?_⟩
            have szw317 := hb318.size
            have B3 := blkT B3 hb318
            have B7 := blkT B7 hb318
            have B201 := blkT B201 hb318
            have B221 := blkT B221 hb318
            have B308 := blkT B308 hb318
            try have U27 := Tt U27 hb318
            try have U213 := Tt U213 hb318
            have T := Tt T hb318
            refine RL.nil ⟨⟨T, B7, B221⟩, ?_⟩
            refine RT.y rfl rfl (Y.move (v := .tuple #[.agg #[.int .i64 y315.1.agent, .int .i64 y315.1.slot], .int .i64 y315.2]) rfl) ?_
            refine RT.y rfl rfl (Y.extract (i := 0) rfl rfl) ?_
            refine RT.y rfl rfl (Y.extract (i := 1) rfl rfl) ?_
            refine RT.act rfl ?_
            refine RL.store (v := .agg #[.int .i64 y315.1.agent, .int .i64 y315.1.slot]) (cs' := #[.int .i64 y315.1.agent, .int .i64 y315.1.slot]) rfl rfl rfl B308 (by kernel_rfl) (by rfl) (by rfl) (by rfl) (fun w319 B320 ho321 => ?_)
            have szw319 := ho321.size
            have B3 := B3.only_ ho321 (by intro hin; simp at hin; exact Eob310_ob5 hin)
            have B7 := B7.only_ ho321 (by intro hin; simp at hin; exact Eob310_ob9 hin)
            have B201 := B201.only_ ho321 (by intro hin; simp at hin; exact Eob310_ob195 hin)
            have B221 := B221.only_ ho321 (by intro hin; simp at hin; exact Eob310_ob219 hin)
            try have U27 := U27.trans (ho321.below (by first | (simp; done) | (simp; omega)))
            try have U213 := U213.trans (ho321.below (by first | (simp; done) | (simp; omega)))
            have T := T.trans (ho321.below (by first | (simp; done) | (simp; omega)))
            refine RL.nil ⟨⟨T, B7, B221⟩, ?_⟩
            refine RT.y rfl rfl (Y.assign (v := .int .i64 y315.2) rfl) ?_
            refine RT.nil_ ?_
            refine then_n ?_
            refine wp_seq ?_
            refine wp_seq ?_
            refine wp_rb rfl ?_
            refine RQ.y rfl (Y.loadN (cs := [.int .i64 y315.1.agent, .int .i64 y315.1.slot]) rfl (by kernel_rfl) (cells2 (beC (blkCell B320 (i := 0) rfl)) (beC (blkCell B320 (i := 1) rfl)))) ?_
            refine RQ.y rfl (Y.loadN (cs := [.int .i64 y196.1.agent, .int .i64 y196.1.slot]) rfl (by kernel_rfl) (cells2 (beC (blkCell B201 (i := 0) rfl)) (beC (blkCell B201 (i := 1) rfl)))) ?_
            obtain ⟨y322, e323, hm⟩ := bnd hm
            refine RQ.call rfl (am2 rfl rfl) (by kernel_rfl) (v := .bool y322) (bel (K := fun _ => True) fun w' hb' => (c_eqPortM y315.1 y196.1 _ e323  w' )) ?_
            refine RQ.y rfl (Y.not (b' := (!y322)) rfl rfl) ?_
            refine RQ.y rfl (Y.move (v := .bool (!y322)) rfl) ?_
            rcases bcases y322 with c324 | c324
            · replace hm := cF c324 hm
              refine RQ.skip (wantN (dj := 37) rfl (vbn rfl c324 rfl) rfl) ?_
              refine RQ.skip (wantN (dj := 37) rfl (vbn rfl c324 rfl) rfl) ?_
              refine RQ.skip (wantN (dj := 37) rfl (vbn rfl c324 rfl) rfl) ?_
              refine RQ.y rfl (Y.pick (b := true) (v := .bool true) (vbn rfl c324 rfl) rfl) ?_
              refine RQ.nil ?_
              intro w325 hb326
              have szw325 := hb326.size
              have B3 := blkT B3 hb326
              have B221 := blkT B221 hb326
              try have U27 := Tt U27 hb326
              try have U213 := Tt U213 hb326
              have T := Tt T hb326
              refine then_n ?_
              refine cond_t rfl rfl ?_
              refine wp_seq ?_
              refine wp_rs rfl ?_
              refine RQ.y rfl (Y.assign (v := .bool false) rfl) ?_
              refine RQ.nil ?_
              refine then_n ?_
              refine wp_ret ?_
              obtain rfl := Option.some.inj hm
              exact (then_r (ret1 rfl rfl rfl ⟨rfl, T⟩))
            · replace hm := cT c324 hm
              refine RQ.y (wantT (dj := 37) rfl (vbn rfl c324 rfl)) (Y.move (v := .int .i64 y315.2) rfl) ?_
              refine RQ.y (wantT (dj := 37) rfl (vbn rfl c324 rfl)) (Y.move (v := .int .i64 y196.2) rfl) ?_
              refine RQ.y (wantT (dj := 37) rfl (vbn rfl c324 rfl)) (Y.binI (v := .bool (y315.2 != y196.2)) rfl rfl rfl) ?_
              refine RQ.y rfl (Y.pick (b := false) (v := .bool (y315.2 != y196.2)) (vbn rfl c324 rfl) rfl) ?_
              refine RQ.nil ?_
              intro w327 hb328
              have szw327 := hb328.size
              have B3 := blkT B3 hb328
              have B221 := blkT B221 hb328
              try have U27 := Tt U27 hb328
              try have U213 := Tt U213 hb328
              have T := Tt T hb328
              refine then_n ?_
              rcases bcases (y315.2 != y196.2) with c329 | c329
              · replace hm := cF c329 hm
                refine cond_f rfl (vb rfl c329) ?_
                refine wp_skip ?_
                refine then_n ?_
                refine wp_seq ?_
                refine wp_seq ?_
                refine wp_rg (fun w' => Below w.heap.size w w' ∧ Blk w' w.heap.size 24 #[.slice A1 d0.agents.length c1] ∧ Blk w' w214.heap.size 33 #[.slice A209 y203.agents.length c210]) [(0, true), (1, true), (2, false), (3, false), (4, true)] (by kernel_rfl) (by kernel_rfl) (fun w330 hb331 szw330 => ?_)
                have B3 := blkT B3 hb331
                have B221 := blkT B221 hb331
                try have U27 := Tt U27 hb331
                try have U213 := Tt U213 hb331
                have T := Tt T hb331
                refine ⟨⟨T, B3, B221⟩, ?_⟩
                refine RG.y rfl rfl (Y.loadN (cs := [.slice A209 y203.agents.length c210]) rfl (by kernel_rfl) (cells1 (fun w' hS => (blkCell hS.2.2 (i := 0) rfl)))) ?_
                refine RG.y rfl rfl (Y.loadN (cs := [.slice A1 d0.agents.length c1]) rfl (by kernel_rfl) (cells1 (fun w' hS => (blkCell hS.2.1 (i := 0) rfl)))) ?_
                refine RG.act rfl ?_
                obtain ⟨y332, e333, hm⟩ := bnd hm
                refine RL.call rfl (am1 rfl) (by kernel_rfl) ((c_toNetM d0 _ e333 _ _ (stArg (R := netRd) ⟨_, _, _, rfl, ⟨SlAt.now agentRd_ok h1 (Nat.le_refl _) T, r1⟩⟩)).mono ?_)
                rintro _ w343 ⟨⟨A338, c339, rfl, h340, r341⟩, hb344⟩
                refine ⟨_, rfl, ?_⟩
                have szw343 := hb344.size
                have B3 := blkT B3 hb344
                have B221 := blkT B221 hb344
                try have U27 := Tt U27 hb344
                try have U213 := Tt U213 hb344
                have T := Tt T hb344
                have U342 := Below.refl w343.heap.size w343
                refine RL.nil ⟨⟨T, B3, B221⟩, ?_⟩
                refine RG.act rfl ?_
                obtain ⟨y345, e346, hm⟩ := bnd hm
                refine RL.call rfl (am2 rfl rfl) (by kernel_rfl) ((c_eqNetM y203 y332 _ e346 _ _ _ (stArg (R := netRd) ⟨_, _, _, rfl, ⟨SlAt.now agentRd_ok h211 (Nat.le_refl _) U213, r212⟩⟩) (stArg (R := netRd) ⟨_, _, _, rfl, ⟨SlAt.now agentRd_ok h340 (Nat.le_refl _) U342, r341⟩⟩)).mono ?_)
                rintro _ w347 ⟨rfl, hb348⟩
                refine ⟨_, rfl, ?_⟩
                have szw347 := hb348.size
                have B3 := blkT B3 hb348
                have B221 := blkT B221 hb348
                try have U27 := Tt U27 hb348
                try have U213 := Tt U213 hb348
                try have U342 := Tt U342 hb348
                have T := Tt T hb348
                refine RL.nil ⟨⟨T, B3, B221⟩, ?_⟩
                refine RG.y rfl rfl (Y.not (b' := (!y345)) rfl rfl) ?_
                refine RG.nil ?_
                refine then_n ?_
                rcases bcases y345 with c349 | c349
                · replace hm := cF c349 hm
                  refine cond_t rfl (vbn rfl c349 rfl) ?_
                  refine wp_seq ?_
                  refine wp_rs rfl ?_
                  refine RQ.y rfl (Y.assign (v := .bool false) rfl) ?_
                  refine RQ.nil ?_
                  refine then_n ?_
                  refine wp_ret ?_
                  obtain rfl := Option.some.inj hm
                  exact (then_r (ret1 rfl rfl rfl ⟨rfl, T⟩))
                · replace hm := cT c349 hm
                  refine cond_f rfl (vbn rfl c349 rfl) ?_
                  refine wp_skip ?_
                  refine then_n ?_
                  refine wp_seq ?_
                  refine wp_rs rfl ?_
                  refine RQ.y rfl (Y.assign (v := .bool true) rfl) ?_
                  refine RQ.nil ?_
                  refine then_n ?_
                  refine wp_ret ?_
                  obtain rfl := Option.some.inj hm
                  exact (ret1 rfl rfl rfl ⟨rfl, T⟩)
              · replace hm := cT c329 hm
                refine cond_t rfl (vb rfl c329) ?_
                refine wp_seq ?_
                refine wp_rs rfl ?_
                refine RQ.y rfl (Y.assign (v := .bool false) rfl) ?_
                refine RQ.nil ?_
                refine then_n ?_
                refine wp_ret ?_
                obtain rfl := Option.some.inj hm
                exact (then_r (ret1 rfl rfl rfl ⟨rfl, T⟩))
      · refine RL.alloc (z := .agg #[.int .i64 0, .int .i64 0]) rfl (by kernel_rfl) (fun w350 B351 hb352 szw350 => ?_)
        replace B351 : Blk w350 w28.heap.size 28 #[.int .i64 0, .int .i64 0] := B351
        have GB351 : w.heap.size ≤ w28.heap.size := T.size
        have Eob353_ob5 := Nat.ne_of_lt B3.lt
        have Eob353_ob9 := Nat.ne_of_lt B7.lt
        have B3 := blkT B3 hb352
        have B7 := blkT B7 hb352
        try have U27 := Tt U27 hb352
        have T := Tt T hb352
        refine RL.nil ⟨⟨T, B3, B7⟩, ?_⟩
        refine RT.act rfl ?_
        obtain ⟨y354, e355, hm⟩ := bnd hm
        refine RL.call rfl (am1 rfl) (by kernel_rfl) ((c_toPortM d1 _ e355  _ ).mono ?_)
        rintro _ w356 ⟨rfl, hb357⟩
        refine ⟨_, rfl, ?_⟩
        have szw356 := hb357.size
        have B3 := blkT B3 hb357
        have B7 := blkT B7 hb357
        have B351 := blkT B351 hb357
        try have U27 := Tt U27 hb357
        have T := Tt T hb357
        refine RL.nil ⟨⟨T, B3, B7⟩, ?_⟩
        refine RT.act rfl ?_
        obtain ⟨y358, e359, hm⟩ := bnd hm
        refine RL.call rfl (am2 rfl rfl) (by kernel_rfl) ((c_m_spec_PeerOf y17 y354 _ e359 _ _ (stArg (R := netRd) ⟨_, _, _, rfl, ⟨SlAt.now agentRd_ok h25 (Nat.le_refl _) U27, r26⟩⟩)).mono ?_)
        rintro _ w360 ⟨rfl, hb361⟩
        refine ⟨_, rfl, ?_⟩
        have szw360 := hb361.size
        have B3 := blkT B3 hb361
        have B7 := blkT B7 hb361
        have B351 := blkT B351 hb361
        try have U27 := Tt U27 hb361
        have T := Tt T hb361
        refine RL.nil ⟨⟨T, B3, B7⟩, ?_⟩
        refine RT.y rfl rfl (Y.move (v := .tuple #[.agg #[.int .i64 y358.1.agent, .int .i64 y358.1.slot], .int .i64 y358.2]) rfl) ?_
        refine RT.y rfl rfl (Y.extract (i := 0) rfl rfl) ?_
        refine RT.y rfl rfl (Y.extract (i := 1) rfl rfl) ?_
        refine RT.act rfl ?_
        refine RL.store (v := .agg #[.int .i64 y358.1.agent, .int .i64 y358.1.slot]) (cs' := #[.int .i64 y358.1.agent, .int .i64 y358.1.slot]) rfl rfl rfl B351 (by kernel_rfl) (by rfl) (by rfl) (by rfl) (fun w362 B363 ho364 => ?_)
        have szw362 := ho364.size
        have B3 := B3.only_ ho364 (by intro hin; simp at hin; exact Eob353_ob5 hin)
        have B7 := B7.only_ ho364 (by intro hin; simp at hin; exact Eob353_ob9 hin)
        try have U27 := U27.trans (ho364.below (by first | (simp; done) | (simp; omega)))
        have T := T.trans (ho364.below (by first | (simp; done) | (simp; omega)))
        refine RL.nil ⟨⟨T, B3, B7⟩, ?_⟩
        refine RT.y rfl rfl (Y.assign (v := .int .i64 y358.2) rfl) ?_
        refine RT.nil_ ?_
        refine then_n ?_
        refine wp_seq ?_
        refine wp_rl rfl ?_
        refine RL.y rfl (Y.loadN (cs := [.slice A1 d0.agents.length c1]) rfl (by kernel_rfl) (cells1 (eqC (blkCell B3 (i := 0) rfl)))) ?_
        obtain ⟨y365, e366, hm⟩ := bnd hm
        refine RL.call rfl (am1 rfl) (by kernel_rfl) ((c_toNetM d0 _ e366 _ _ (stArg (R := netRd) ⟨_, _, _, rfl, ⟨SlAt.now agentRd_ok h1 (Nat.le_refl _) T, r1⟩⟩)).mono ?_)
        rintro _ w376 ⟨⟨A371, c372, rfl, h373, r374⟩, hb377⟩
        refine ⟨_, rfl, ?_⟩
        have szw376 := hb377.size
        have B3 := blkT B3 hb377
        have B7 := blkT B7 hb377
        have B363 := blkT B363 hb377
        try have U27 := Tt U27 hb377
        have T := Tt T hb377
        have U375 := Below.refl w376.heap.size w376
        refine RL.alloc (z := .agg #[.slice none 0 0]) rfl (by kernel_rfl) (fun w378 B379 hb380 szw378 => ?_)
        replace B379 : Blk w378 w376.heap.size 33 #[.slice none 0 0] := B379
        have GB379 : w.heap.size ≤ w376.heap.size := T.size
        have Eob381_ob5 := Nat.ne_of_lt B3.lt
        have Eob381_ob9 := Nat.ne_of_lt B7.lt
        have Eob381_ob353 := Nat.ne_of_lt B363.lt
        have B3 := blkT B3 hb380
        have B7 := blkT B7 hb380
        have B363 := blkT B363 hb380
        try have U27 := Tt U27 hb380
        try have U375 := Tt U375 hb380
        have T := Tt T hb380
        refine RL.store (v := .agg #[.slice A371 y365.agents.length c372]) (cs' := #[.slice A371 y365.agents.length c372]) rfl rfl rfl B379 (by kernel_rfl) (by rfl) (by rfl) (by rfl) (fun w382 B383 ho384 => ?_)
        have szw382 := ho384.size
        have B3 := B3.only_ ho384 (by intro hin; simp at hin; exact Eob381_ob5 hin)
        have B7 := B7.only_ ho384 (by intro hin; simp at hin; exact Eob381_ob9 hin)
        have B363 := B363.only_ ho384 (by intro hin; simp at hin; exact Eob381_ob353 hin)
        try have U27 := U27.trans (ho384.below (by first | (simp; done) | (simp; omega)))
        try have U375 := U375.trans (ho384.below (by first | (simp; done) | (simp; omega)))
        have T := T.trans (ho384.below (by first | (simp; done) | (simp; omega)))
        refine RL.nil ?_
        refine then_n ?_
        refine wp_seq ?_
        refine wp_rgt (fun w' => Below w.heap.size w w' ∧ Blk w' w2.heap.size 26 #[.int .i64 d1.agent, .int .i64 d1.slot] ∧ Blk w' w376.heap.size 33 #[.slice A371 y365.agents.length c372]) (.q 0 (.q 1 (.two 2 (.two 3 (.q 4 (.q 5 (.q 6 (.a 7 (.a 8 (.q 9 .nil)))))) 7 (.a 3 (.q 4 (.q 5 (.q 6 (.a 8 (.q 9 .nil))))))) 7 (.a 2 (.a 3 (.q 4 (.q 5 (.q 6 (.a 8 (.q 9 .nil)))))))))) (by kernel_rfl) (by kernel_rfl) (fun w385 hb386 szw385 => ?_)
        have B3 := blkT B3 hb386
        have B7 := blkT B7 hb386
        have B363 := blkT B363 hb386
        have B383 := blkT B383 hb386
        try have U27 := Tt U27 hb386
        try have U375 := Tt U375 hb386
        have T := Tt T hb386
        refine ⟨⟨T, B7, B383⟩, ?_⟩
        refine RT.y rfl rfl (Y.loadN (cs := [.slice A371 y365.agents.length c372]) rfl (by kernel_rfl) (cells1 (fun w' hS => (blkCell hS.2.2 (i := 0) rfl)))) ?_
        refine RT.y rfl rfl (Y.loadN (cs := [.int .i64 d1.agent, .int .i64 d1.slot]) rfl (by kernel_rfl) (cells2 (fun w' hS => (blkCell hS.2.1 (i := 0) rfl)) (fun w' hS => (blkCell hS.2.1 (i := 1) rfl)))) ?_
        refine RT.both rfl rfl ?_ ?_
        · obtain ⟨y387, e388, hm⟩ := bnd hm
          refine RL.call rfl (am1 rfl) (by kernel_rfl) ((c_toPortM d1 _ e388  _ ).mono ?_)
          rintro _ w389 ⟨rfl, hb390⟩
          refine ⟨_, rfl, ?_⟩
          have szw389 := hb390.size
          have B3 := blkT B3 hb390
          have B7 := blkT B7 hb390
          have B363 := blkT B363 hb390
          have B383 := blkT B383 hb390
          try have U27 := Tt U27 hb390
          try have U375 := Tt U375 hb390
          have T := Tt T hb390
          refine RL.nil ⟨⟨T, B7, B383⟩, ?_⟩
          refine RT.both rfl rfl ?_ ?_
          · obtain ⟨y391, e392, hm⟩ := bnd hm
            refine RL.call rfl (am2 rfl rfl) (by kernel_rfl) ((c_m_impl_PeerOf y365 y387 _ e392 _ _ (stArg (R := netRd) ⟨_, _, _, rfl, ⟨SlAt.now agentRd_ok h373 (Nat.le_refl _) U375, r374⟩⟩)).mono ?_)
            rintro _ w393 ⟨rfl, hb394⟩
            refine ⟨_, rfl, ?_⟩
            have szw393 := hb394.size
            have B3 := blkT B3 hb394
            have B7 := blkT B7 hb394
            have B363 := blkT B363 hb394
            have B383 := blkT B383 hb394
            try have U27 := Tt U27 hb394
            try have U375 := Tt U375 hb394
            have T := Tt T hb394
            refine RL.nil ⟨⟨T, B7, B383⟩, ?_⟩
            refine RT.y rfl rfl (Y.move (v := .tuple #[.agg #[.int .i64 y391.1.agent, .int .i64 y391.1.slot], .int .i64 y391.2]) rfl) ?_
            refine RT.y rfl rfl (Y.extract (i := 0) rfl rfl) ?_
            refine RT.y rfl rfl (Y.extract (i := 1) rfl rfl) ?_
            refine RT.act rfl ?_
            refine RL.alloc (z := .agg #[.int .i64 0, .int .i64 0]) rfl (by kernel_rfl) (fun w395 B396 hb397 szw395 => ?_)
            replace B396 : Blk w395 w393.heap.size 28 #[.int .i64 0, .int .i64 0] := B396
            have GB396 : w.heap.size ≤ w393.heap.size := T.size
            have Eob398_ob5 := Nat.ne_of_lt B3.lt
            have Eob398_ob9 := Nat.ne_of_lt B7.lt
            have Eob398_ob353 := Nat.ne_of_lt B363.lt
            have Eob398_ob381 := Nat.ne_of_lt B383.lt
            have B3 := blkT B3 hb397
            have B7 := blkT B7 hb397
            have B363 := blkT B363 hb397
            have B383 := blkT B383 hb397
            try have U27 := Tt U27 hb397
            try have U375 := Tt U375 hb397
            have T := Tt T hb397
            refine RL.nil ⟨⟨T, B7, B383⟩, ?_⟩
            refine RT.act rfl ?_
            refine RL.store (v := .agg #[.int .i64 y391.1.agent, .int .i64 y391.1.slot]) (cs' := #[.int .i64 y391.1.agent, .int .i64 y391.1.slot]) rfl rfl rfl B396 (by kernel_rfl) (by rfl) (by rfl) (by rfl) (fun w399 B400 ho401 => ?_)
            have szw399 := ho401.size
            have B3 := B3.only_ ho401 (by intro hin; simp at hin; exact Eob398_ob5 hin)
            have B7 := B7.only_ ho401 (by intro hin; simp at hin; exact Eob398_ob9 hin)
            have B363 := B363.only_ ho401 (by intro hin; simp at hin; exact Eob398_ob353 hin)
            have B383 := B383.only_ ho401 (by intro hin; simp at hin; exact Eob398_ob381 hin)
            try have U27 := U27.trans (ho401.below (by first | (simp; done) | (simp; omega)))
            try have U375 := U375.trans (ho401.below (by first | (simp; done) | (simp; omega)))
            have T := T.trans (ho401.below (by first | (simp; done) | (simp; omega)))
            refine RL.nil ⟨⟨T, B7, B383⟩, ?_⟩
            refine RT.y rfl rfl (Y.assign (v := .int .i64 y391.2) rfl) ?_
            refine RT.nil_ ?_
            refine then_n ?_
            refine wp_seq ?_
            refine wp_seq ?_
            refine wp_rb rfl ?_
            refine RQ.y rfl (Y.loadN (cs := [.int .i64 y391.1.agent, .int .i64 y391.1.slot]) rfl (by kernel_rfl) (cells2 (beC (blkCell B400 (i := 0) rfl)) (beC (blkCell B400 (i := 1) rfl)))) ?_
            refine RQ.y rfl (Y.loadN (cs := [.int .i64 y358.1.agent, .int .i64 y358.1.slot]) rfl (by kernel_rfl) (cells2 (beC (blkCell B363 (i := 0) rfl)) (beC (blkCell B363 (i := 1) rfl)))) ?_
            obtain ⟨y402, e403, hm⟩ := bnd hm
            refine RQ.call rfl (am2 rfl rfl) (by kernel_rfl) (v := .bool y402) (bel (K := fun _ => True) fun w' hb' => (c_eqPortM y391.1 y358.1 _ e403  w' )) ?_
            refine RQ.y rfl (Y.not (b' := (!y402)) rfl rfl) ?_
            refine RQ.y rfl (Y.move (v := .bool (!y402)) rfl) ?_
            rcases bcases y402 with c404 | c404
            · replace hm := cF c404 hm
              refine RQ.skip (wantN (dj := 37) rfl (vbn rfl c404 rfl) rfl) ?_
              refine RQ.skip (wantN (dj := 37) rfl (vbn rfl c404 rfl) rfl) ?_
              refine RQ.skip (wantN (dj := 37) rfl (vbn rfl c404 rfl) rfl) ?_
              refine RQ.y rfl (Y.pick (b := true) (v := .bool true) (vbn rfl c404 rfl) rfl) ?_
              refine RQ.nil ?_
              intro w405 hb406
              have szw405 := hb406.size
              have B3 := blkT B3 hb406
              have B383 := blkT B383 hb406
              try have U27 := Tt U27 hb406
              try have U375 := Tt U375 hb406
              have T := Tt T hb406
              refine then_n ?_
              refine cond_t rfl rfl ?_
              refine wp_seq ?_
              refine wp_rs rfl ?_
              refine RQ.y rfl (Y.assign (v := .bool false) rfl) ?_
              refine RQ.nil ?_
              refine then_n ?_
              refine wp_ret ?_
              obtain rfl := Option.some.inj hm
              exact (then_r (ret1 rfl rfl rfl ⟨rfl, T⟩))
            · replace hm := cT c404 hm
              refine RQ.y (wantT (dj := 37) rfl (vbn rfl c404 rfl)) (Y.move (v := .int .i64 y391.2) rfl) ?_
              refine RQ.y (wantT (dj := 37) rfl (vbn rfl c404 rfl)) (Y.move (v := .int .i64 y358.2) rfl) ?_
              refine RQ.y (wantT (dj := 37) rfl (vbn rfl c404 rfl)) (Y.binI (v := .bool (y391.2 != y358.2)) rfl rfl rfl) ?_
              refine RQ.y rfl (Y.pick (b := false) (v := .bool (y391.2 != y358.2)) (vbn rfl c404 rfl) rfl) ?_
              refine RQ.nil ?_
              intro w407 hb408
              have szw407 := hb408.size
              have B3 := blkT B3 hb408
              have B383 := blkT B383 hb408
              try have U27 := Tt U27 hb408
              try have U375 := Tt U375 hb408
              have T := Tt T hb408
              refine then_n ?_
              rcases bcases (y391.2 != y358.2) with c409 | c409
              · replace hm := cF c409 hm
                refine cond_f rfl (vb rfl c409) ?_
                refine wp_skip ?_
                refine then_n ?_
                refine wp_seq ?_
                refine wp_seq ?_
                refine wp_rg (fun w' => Below w.heap.size w w' ∧ Blk w' w.heap.size 24 #[.slice A1 d0.agents.length c1] ∧ Blk w' w376.heap.size 33 #[.slice A371 y365.agents.length c372]) [(0, true), (1, true), (2, false), (3, false), (4, true)] (by kernel_rfl) (by kernel_rfl) (fun w410 hb411 szw410 => ?_)
                have B3 := blkT B3 hb411
                have B383 := blkT B383 hb411
                try have U27 := Tt U27 hb411
                try have U375 := Tt U375 hb411
                have T := Tt T hb411
                refine ⟨⟨T, B3, B383⟩, ?_⟩
                refine RG.y rfl rfl (Y.loadN (cs := [.slice A371 y365.agents.length c372]) rfl (by kernel_rfl) (cells1 (fun w' hS => (blkCell hS.2.2 (i := 0) rfl)))) ?_
                refine RG.y rfl rfl (Y.loadN (cs := [.slice A1 d0.agents.length c1]) rfl (by kernel_rfl) (cells1 (fun w' hS => (blkCell hS.2.1 (i := 0) rfl)))) ?_
                refine RG.act rfl ?_
                obtain ⟨y412, e413, hm⟩ := bnd hm
                refine RL.call rfl (am1 rfl) (by kernel_rfl) ((c_toNetM d0 _ e413 _ _ (stArg (R := netRd) ⟨_, _, _, rfl, ⟨SlAt.now agentRd_ok h1 (Nat.le_refl _) T, r1⟩⟩)).mono ?_)
                rintro _ w423 ⟨⟨A418, c419, rfl, h420, r421⟩, hb424⟩
                refine ⟨_, rfl, ?_⟩
                have szw423 := hb424.size
                have B3 := blkT B3 hb424
                have B383 := blkT B383 hb424
                try have U27 := Tt U27 hb424
                try have U375 := Tt U375 hb424
                have T := Tt T hb424
                have U422 := Below.refl w423.heap.size w423
                refine RL.nil ⟨⟨T, B3, B383⟩, ?_⟩
                refine RG.act rfl ?_
                obtain ⟨y425, e426, hm⟩ := bnd hm
                refine RL.call rfl (am2 rfl rfl) (by kernel_rfl) ((c_eqNetM y365 y412 _ e426 _ _ _ (stArg (R := netRd) ⟨_, _, _, rfl, ⟨SlAt.now agentRd_ok h373 (Nat.le_refl _) U375, r374⟩⟩) (stArg (R := netRd) ⟨_, _, _, rfl, ⟨SlAt.now agentRd_ok h420 (Nat.le_refl _) U422, r421⟩⟩)).mono ?_)
                rintro _ w427 ⟨rfl, hb428⟩
                refine ⟨_, rfl, ?_⟩
                have szw427 := hb428.size
                have B3 := blkT B3 hb428
                have B383 := blkT B383 hb428
                try have U27 := Tt U27 hb428
                try have U375 := Tt U375 hb428
                try have U422 := Tt U422 hb428
                have T := Tt T hb428
                refine RL.nil ⟨⟨T, B3, B383⟩, ?_⟩
                refine RG.y rfl rfl (Y.not (b' := (!y425)) rfl rfl) ?_
                refine RG.nil ?_
                refine then_n ?_
                rcases bcases y425 with c429 | c429
                · replace hm := cF c429 hm
                  refine cond_t rfl (vbn rfl c429 rfl) ?_
                  refine wp_seq ?_
                  refine wp_rs rfl ?_
                  refine RQ.y rfl (Y.assign (v := .bool false) rfl) ?_
                  refine RQ.nil ?_
                  refine then_n ?_
                  refine wp_ret ?_
                  obtain rfl := Option.some.inj hm
                  exact (then_r (ret1 rfl rfl rfl ⟨rfl, T⟩))
                · replace hm := cT c429 hm
                  refine cond_f rfl (vbn rfl c429 rfl) ?_
                  refine wp_skip ?_
                  refine then_n ?_
                  refine wp_seq ?_
                  refine wp_rs rfl ?_
                  refine RQ.y rfl (Y.assign (v := .bool true) rfl) ?_
                  refine RQ.nil ?_
                  refine then_n ?_
                  refine wp_ret ?_
                  obtain rfl := Option.some.inj hm
                  exact (ret1 rfl rfl rfl ⟨rfl, T⟩)
              · replace hm := cT c409 hm
                refine cond_t rfl (vb rfl c409) ?_
                refine wp_seq ?_
                refine wp_rs rfl ?_
                refine RQ.y rfl (Y.assign (v := .bool false) rfl) ?_
                refine RQ.nil ?_
                refine then_n ?_
                refine wp_ret ?_
                obtain rfl := Option.some.inj hm
                exact (then_r (ret1 rfl rfl rfl ⟨rfl, T⟩))
          · refine RL.alloc (z := .agg #[.int .i64 0, .int .i64 0]) rfl (by kernel_rfl) (fun w430 B431 hb432 szw430 => ?_)
            replace B431 : Blk w430 w389.heap.size 28 #[.int .i64 0, .int .i64 0] := B431
            have GB431 : w.heap.size ≤ w389.heap.size := T.size
            have Eob433_ob5 := Nat.ne_of_lt B3.lt
            have Eob433_ob9 := Nat.ne_of_lt B7.lt
            have Eob433_ob353 := Nat.ne_of_lt B363.lt
            have Eob433_ob381 := Nat.ne_of_lt B383.lt
            have B3 := blkT B3 hb432
            have B7 := blkT B7 hb432
            have B363 := blkT B363 hb432
            have B383 := blkT B383 hb432
            try have U27 := Tt U27 hb432
            try have U375 := Tt U375 hb432
            have T := Tt T hb432
            refine RL.nil ⟨⟨T, B7, B383⟩, ?_⟩
            refine RT.act rfl ?_
            obtain ⟨y434, e435, hm⟩ := bnd hm
            refine RL.call rfl (am2 rfl rfl) (by kernel_rfl) ((c_m_impl_PeerOf y365 y387 _ e435 _ _ (stArg (R := netRd) ⟨_, _, _, rfl, ⟨SlAt.now agentRd_ok h373 (Nat.le_refl _) U375, r374⟩⟩)).mono ?_)
            rintro _ w436 ⟨rfl, hb437⟩
            refine ⟨_, rfl, ?_⟩
            have szw436 := hb437.size
            have B3 := blkT B3 hb437
            have B7 := blkT B7 hb437
            have B363 := blkT B363 hb437
            have B383 := blkT B383 hb437
            have B431 := blkT B431 hb437
            try have U27 := Tt U27 hb437
            try have U375 := Tt U375 hb437
            have T := Tt T hb437
            refine RL.nil ⟨⟨T, B7, B383⟩, ?_⟩
            refine RT.y rfl rfl (Y.move (v := .tuple #[.agg #[.int .i64 y434.1.agent, .int .i64 y434.1.slot], .int .i64 y434.2]) rfl) ?_
            refine RT.y rfl rfl (Y.extract (i := 0) rfl rfl) ?_
            refine RT.y rfl rfl (Y.extract (i := 1) rfl rfl) ?_
            refine RT.act rfl ?_
            refine RL.store (v := .agg #[.int .i64 y434.1.agent, .int .i64 y434.1.slot]) (cs' := #[.int .i64 y434.1.agent, .int .i64 y434.1.slot]) rfl rfl rfl B431 (by kernel_rfl) (by rfl) (by rfl) (by rfl) (fun w438 B439 ho440 => ?_)
            have szw438 := ho440.size
            have B3 := B3.only_ ho440 (by intro hin; simp at hin; exact Eob433_ob5 hin)
            have B7 := B7.only_ ho440 (by intro hin; simp at hin; exact Eob433_ob9 hin)
            have B363 := B363.only_ ho440 (by intro hin; simp at hin; exact Eob433_ob353 hin)
            have B383 := B383.only_ ho440 (by intro hin; simp at hin; exact Eob433_ob381 hin)
            try have U27 := U27.trans (ho440.below (by first | (simp; done) | (simp; omega)))
            try have U375 := U375.trans (ho440.below (by first | (simp; done) | (simp; omega)))
            have T := T.trans (ho440.below (by first | (simp; done) | (simp; omega)))
            refine RL.nil ⟨⟨T, B7, B383⟩, ?_⟩
            refine RT.y rfl rfl (Y.assign (v := .int .i64 y434.2) rfl) ?_
            refine RT.nil_ ?_
            refine then_n ?_
            refine wp_seq ?_
            refine wp_seq ?_
            refine wp_rb rfl ?_
            refine RQ.y rfl (Y.loadN (cs := [.int .i64 y434.1.agent, .int .i64 y434.1.slot]) rfl (by kernel_rfl) (cells2 (beC (blkCell B439 (i := 0) rfl)) (beC (blkCell B439 (i := 1) rfl)))) ?_
            refine RQ.y rfl (Y.loadN (cs := [.int .i64 y358.1.agent, .int .i64 y358.1.slot]) rfl (by kernel_rfl) (cells2 (beC (blkCell B363 (i := 0) rfl)) (beC (blkCell B363 (i := 1) rfl)))) ?_
            obtain ⟨y441, e442, hm⟩ := bnd hm
            refine RQ.call rfl (am2 rfl rfl) (by kernel_rfl) (v := .bool y441) (bel (K := fun _ => True) fun w' hb' => (c_eqPortM y434.1 y358.1 _ e442  w' )) ?_
            refine RQ.y rfl (Y.not (b' := (!y441)) rfl rfl) ?_
            refine RQ.y rfl (Y.move (v := .bool (!y441)) rfl) ?_
            rcases bcases y441 with c443 | c443
            · replace hm := cF c443 hm
              refine RQ.skip (wantN (dj := 37) rfl (vbn rfl c443 rfl) rfl) ?_
              refine RQ.skip (wantN (dj := 37) rfl (vbn rfl c443 rfl) rfl) ?_
              refine RQ.skip (wantN (dj := 37) rfl (vbn rfl c443 rfl) rfl) ?_
              refine RQ.y rfl (Y.pick (b := true) (v := .bool true) (vbn rfl c443 rfl) rfl) ?_
              refine RQ.nil ?_
              intro w444 hb445
              have szw444 := hb445.size
              have B3 := blkT B3 hb445
              have B383 := blkT B383 hb445
              try have U27 := Tt U27 hb445
              try have U375 := Tt U375 hb445
              have T := Tt T hb445
              refine then_n ?_
              refine cond_t rfl rfl ?_
              refine wp_seq ?_
              refine wp_rs rfl ?_
              refine RQ.y rfl (Y.assign (v := .bool false) rfl) ?_
              refine RQ.nil ?_
              refine then_n ?_
              refine wp_ret ?_
              obtain rfl := Option.some.inj hm
              exact (then_r (ret1 rfl rfl rfl ⟨rfl, T⟩))
            · replace hm := cT c443 hm
              refine RQ.y (wantT (dj := 37) rfl (vbn rfl c443 rfl)) (Y.move (v := .int .i64 y434.2) rfl) ?_
              refine RQ.y (wantT (dj := 37) rfl (vbn rfl c443 rfl)) (Y.move (v := .int .i64 y358.2) rfl) ?_
              refine RQ.y (wantT (dj := 37) rfl (vbn rfl c443 rfl)) (Y.binI (v := .bool (y434.2 != y358.2)) rfl rfl rfl) ?_
              refine RQ.y rfl (Y.pick (b := false) (v := .bool (y434.2 != y358.2)) (vbn rfl c443 rfl) rfl) ?_
              refine RQ.nil ?_
              intro w446 hb447
              have szw446 := hb447.size
              have B3 := blkT B3 hb447
              have B383 := blkT B383 hb447
              try have U27 := Tt U27 hb447
              try have U375 := Tt U375 hb447
              have T := Tt T hb447
              refine then_n ?_
              rcases bcases (y434.2 != y358.2) with c448 | c448
              · replace hm := cF c448 hm
                refine cond_f rfl (vb rfl c448) ?_
                refine wp_skip ?_
                refine then_n ?_
                refine wp_seq ?_
                refine wp_seq ?_
                refine wp_rg (fun w' => Below w.heap.size w w' ∧ Blk w' w.heap.size 24 #[.slice A1 d0.agents.length c1] ∧ Blk w' w376.heap.size 33 #[.slice A371 y365.agents.length c372]) [(0, true), (1, true), (2, false), (3, false), (4, true)] (by kernel_rfl) (by kernel_rfl) (fun w449 hb450 szw449 => ?_)
                have B3 := blkT B3 hb450
                have B383 := blkT B383 hb450
                try have U27 := Tt U27 hb450
                try have U375 := Tt U375 hb450
                have T := Tt T hb450
                refine ⟨⟨T, B3, B383⟩, ?_⟩
                refine RG.y rfl rfl (Y.loadN (cs := [.slice A371 y365.agents.length c372]) rfl (by kernel_rfl) (cells1 (fun w' hS => (blkCell hS.2.2 (i := 0) rfl)))) ?_
                refine RG.y rfl rfl (Y.loadN (cs := [.slice A1 d0.agents.length c1]) rfl (by kernel_rfl) (cells1 (fun w' hS => (blkCell hS.2.1 (i := 0) rfl)))) ?_
                refine RG.act rfl ?_
                obtain ⟨y451, e452, hm⟩ := bnd hm
                refine RL.call rfl (am1 rfl) (by kernel_rfl) ((c_toNetM d0 _ e452 _ _ (stArg (R := netRd) ⟨_, _, _, rfl, ⟨SlAt.now agentRd_ok h1 (Nat.le_refl _) T, r1⟩⟩)).mono ?_)
                rintro _ w462 ⟨⟨A457, c458, rfl, h459, r460⟩, hb463⟩
                refine ⟨_, rfl, ?_⟩
                have szw462 := hb463.size
                have B3 := blkT B3 hb463
                have B383 := blkT B383 hb463
                try have U27 := Tt U27 hb463
                try have U375 := Tt U375 hb463
                have T := Tt T hb463
                have U461 := Below.refl w462.heap.size w462
                refine RL.nil ⟨⟨T, B3, B383⟩, ?_⟩
                refine RG.act rfl ?_
                obtain ⟨y464, e465, hm⟩ := bnd hm
                refine RL.call rfl (am2 rfl rfl) (by kernel_rfl) ((c_eqNetM y365 y451 _ e465 _ _ _ (stArg (R := netRd) ⟨_, _, _, rfl, ⟨SlAt.now agentRd_ok h373 (Nat.le_refl _) U375, r374⟩⟩) (stArg (R := netRd) ⟨_, _, _, rfl, ⟨SlAt.now agentRd_ok h459 (Nat.le_refl _) U461, r460⟩⟩)).mono ?_)
                rintro _ w466 ⟨rfl, hb467⟩
                refine ⟨_, rfl, ?_⟩
                have szw466 := hb467.size
                have B3 := blkT B3 hb467
                have B383 := blkT B383 hb467
                try have U27 := Tt U27 hb467
                try have U375 := Tt U375 hb467
                try have U461 := Tt U461 hb467
                have T := Tt T hb467
                refine RL.nil ⟨⟨T, B3, B383⟩, ?_⟩
                refine RG.y rfl rfl (Y.not (b' := (!y464)) rfl rfl) ?_
                refine RG.nil ?_
                refine then_n ?_
                rcases bcases y464 with c468 | c468
                · replace hm := cF c468 hm
                  refine cond_t rfl (vbn rfl c468 rfl) ?_
                  refine wp_seq ?_
                  refine wp_rs rfl ?_
                  refine RQ.y rfl (Y.assign (v := .bool false) rfl) ?_
                  refine RQ.nil ?_
                  refine then_n ?_
                  refine wp_ret ?_
                  obtain rfl := Option.some.inj hm
                  exact (then_r (ret1 rfl rfl rfl ⟨rfl, T⟩))
                · replace hm := cT c468 hm
                  refine cond_f rfl (vbn rfl c468 rfl) ?_
                  refine wp_skip ?_
                  refine then_n ?_
                  refine wp_seq ?_
                  refine wp_rs rfl ?_
                  refine RQ.y rfl (Y.assign (v := .bool true) rfl) ?_
                  refine RQ.nil ?_
                  refine then_n ?_
                  refine wp_ret ?_
                  obtain rfl := Option.some.inj hm
                  exact (ret1 rfl rfl rfl ⟨rfl, T⟩)
              · replace hm := cT c448 hm
                refine cond_t rfl (vb rfl c448) ?_
                refine wp_seq ?_
                refine wp_rs rfl ?_
                refine RQ.y rfl (Y.assign (v := .bool false) rfl) ?_
                refine RQ.nil ?_
                refine then_n ?_
                refine wp_ret ?_
                obtain rfl := Option.some.inj hm
                exact (then_r (ret1 rfl rfl rfl ⟨rfl, T⟩))
        · refine RL.alloc (z := .agg #[.int .i64 0, .int .i64 0]) rfl (by kernel_rfl) (fun w469 B470 hb471 szw469 => ?_)
          replace B470 : Blk w469 w385.heap.size 28 #[.int .i64 0, .int .i64 0] := B470
          have GB470 : w.heap.size ≤ w385.heap.size := T.size
          have Eob472_ob5 := Nat.ne_of_lt B3.lt
          have Eob472_ob9 := Nat.ne_of_lt B7.lt
          have Eob472_ob353 := Nat.ne_of_lt B363.lt
          have Eob472_ob381 := Nat.ne_of_lt B383.lt
          have B3 := blkT B3 hb471
          have B7 := blkT B7 hb471
          have B363 := blkT B363 hb471
          have B383 := blkT B383 hb471
          try have U27 := Tt U27 hb471
          try have U375 := Tt U375 hb471
          have T := Tt T hb471
          refine RL.nil ⟨⟨T, B7, B383⟩, ?_⟩
          refine RT.act rfl ?_
          obtain ⟨y473, e474, hm⟩ := bnd hm
          refine RL.call rfl (am1 rfl) (by kernel_rfl) ((c_toPortM d1 _ e474  _ ).mono ?_)
          rintro _ w475 ⟨rfl, hb476⟩
          refine ⟨_, rfl, ?_⟩
          have szw475 := hb476.size
          have B3 := blkT B3 hb476
          have B7 := blkT B7 hb476
          have B363 := blkT B363 hb476
          have B383 := blkT B383 hb476
          have B470 := blkT B470 hb476
          try have U27 := Tt U27 hb476
          try have U375 := Tt U375 hb476
          have T := Tt T hb476
          refine RL.nil ⟨⟨T, B7, B383⟩, ?_⟩
          refine RT.act rfl ?_
          obtain ⟨y477, e478, hm⟩ := bnd hm
          refine RL.call rfl (am2 rfl rfl) (by kernel_rfl) ((c_m_impl_PeerOf y365 y473 _ e478 _ _ (stArg (R := netRd) ⟨_, _, _, rfl, ⟨SlAt.now agentRd_ok h373 (Nat.le_refl _) U375, r374⟩⟩)).mono ?_)
          rintro _ w479 ⟨rfl, hb480⟩
          refine ⟨_, rfl, ?_⟩
          have szw479 := hb480.size
          have B3 := blkT B3 hb480
          have B7 := blkT B7 hb480
          have B363 := blkT B363 hb480
          have B383 := blkT B383 hb480
          have B470 := blkT B470 hb480
          try have U27 := Tt U27 hb480
          try have U375 := Tt U375 hb480
          have T := Tt T hb480
          refine RL.nil ⟨⟨T, B7, B383⟩, ?_⟩
          refine RT.y rfl rfl (Y.move (v := .tuple #[.agg #[.int .i64 y477.1.agent, .int .i64 y477.1.slot], .int .i64 y477.2]) rfl) ?_
          refine RT.y rfl rfl (Y.extract (i := 0) rfl rfl) ?_
          refine RT.y rfl rfl (Y.extract (i := 1) rfl rfl) ?_
          refine RT.act rfl ?_
          refine RL.store (v := .agg #[.int .i64 y477.1.agent, .int .i64 y477.1.slot]) (cs' := #[.int .i64 y477.1.agent, .int .i64 y477.1.slot]) rfl rfl rfl B470 (by kernel_rfl) (by rfl) (by rfl) (by rfl) (fun w481 B482 ho483 => ?_)
          have szw481 := ho483.size
          have B3 := B3.only_ ho483 (by intro hin; simp at hin; exact Eob472_ob5 hin)
          have B7 := B7.only_ ho483 (by intro hin; simp at hin; exact Eob472_ob9 hin)
          have B363 := B363.only_ ho483 (by intro hin; simp at hin; exact Eob472_ob353 hin)
          have B383 := B383.only_ ho483 (by intro hin; simp at hin; exact Eob472_ob381 hin)
          try have U27 := U27.trans (ho483.below (by first | (simp; done) | (simp; omega)))
          try have U375 := U375.trans (ho483.below (by first | (simp; done) | (simp; omega)))
          have T := T.trans (ho483.below (by first | (simp; done) | (simp; omega)))
          refine RL.nil ⟨⟨T, B7, B383⟩, ?_⟩
          refine RT.y rfl rfl (Y.assign (v := .int .i64 y477.2) rfl) ?_
          refine RT.nil_ ?_
          refine then_n ?_
          refine wp_seq ?_
          refine wp_seq ?_
          refine wp_rb rfl ?_
          refine RQ.y rfl (Y.loadN (cs := [.int .i64 y477.1.agent, .int .i64 y477.1.slot]) rfl (by kernel_rfl) (cells2 (beC (blkCell B482 (i := 0) rfl)) (beC (blkCell B482 (i := 1) rfl)))) ?_
          refine RQ.y rfl (Y.loadN (cs := [.int .i64 y358.1.agent, .int .i64 y358.1.slot]) rfl (by kernel_rfl) (cells2 (beC (blkCell B363 (i := 0) rfl)) (beC (blkCell B363 (i := 1) rfl)))) ?_
          obtain ⟨y484, e485, hm⟩ := bnd hm
          refine RQ.call rfl (am2 rfl rfl) (by kernel_rfl) (v := .bool y484) (bel (K := fun _ => True) fun w' hb' => (c_eqPortM y477.1 y358.1 _ e485  w' )) ?_
          refine RQ.y rfl (Y.not (b' := (!y484)) rfl rfl) ?_
          refine RQ.y rfl (Y.move (v := .bool (!y484)) rfl) ?_
          rcases bcases y484 with c486 | c486
          · replace hm := cF c486 hm
            refine RQ.skip (wantN (dj := 37) rfl (vbn rfl c486 rfl) rfl) ?_
            refine RQ.skip (wantN (dj := 37) rfl (vbn rfl c486 rfl) rfl) ?_
            refine RQ.skip (wantN (dj := 37) rfl (vbn rfl c486 rfl) rfl) ?_
            refine RQ.y rfl (Y.pick (b := true) (v := .bool true) (vbn rfl c486 rfl) rfl) ?_
            refine RQ.nil ?_
            intro w487 hb488
            have szw487 := hb488.size
            have B3 := blkT B3 hb488
            have B383 := blkT B383 hb488
            try have U27 := Tt U27 hb488
            try have U375 := Tt U375 hb488
            have T := Tt T hb488
            refine then_n ?_
            refine cond_t rfl rfl ?_
            refine wp_seq ?_
            refine wp_rs rfl ?_
            refine RQ.y rfl (Y.assign (v := .bool false) rfl) ?_
            refine RQ.nil ?_
            refine then_n ?_
            refine wp_ret ?_
            obtain rfl := Option.some.inj hm
            exact (then_r (ret1 rfl rfl rfl ⟨rfl, T⟩))
          · replace hm := cT c486 hm
            refine RQ.y (wantT (dj := 37) rfl (vbn rfl c486 rfl)) (Y.move (v := .int .i64 y477.2) rfl) ?_
            refine RQ.y (wantT (dj := 37) rfl (vbn rfl c486 rfl)) (Y.move (v := .int .i64 y358.2) rfl) ?_
            refine RQ.y (wantT (dj := 37) rfl (vbn rfl c486 rfl)) (Y.binI (v := .bool (y477.2 != y358.2)) rfl rfl rfl) ?_
            refine RQ.y rfl (Y.pick (b := false) (v := .bool (y477.2 != y358.2)) (vbn rfl c486 rfl) rfl) ?_
            refine RQ.nil ?_
            intro w489 hb490
            have szw489 := hb490.size
            have B3 := blkT B3 hb490
            have B383 := blkT B383 hb490
            try have U27 := Tt U27 hb490
            try have U375 := Tt U375 hb490
            have T := Tt T hb490
            refine then_n ?_
            rcases bcases (y477.2 != y358.2) with c491 | c491
            · replace hm := cF c491 hm
              refine cond_f rfl (vb rfl c491) ?_
              refine wp_skip ?_
              refine then_n ?_
              refine wp_seq ?_
              refine wp_seq ?_
              refine wp_rg (fun w' => Below w.heap.size w w' ∧ Blk w' w.heap.size 24 #[.slice A1 d0.agents.length c1] ∧ Blk w' w376.heap.size 33 #[.slice A371 y365.agents.length c372]) [(0, true), (1, true), (2, false), (3, false), (4, true)] (by kernel_rfl) (by kernel_rfl) (fun w492 hb493 szw492 => ?_)
              have B3 := blkT B3 hb493
              have B383 := blkT B383 hb493
              try have U27 := Tt U27 hb493
              try have U375 := Tt U375 hb493
              have T := Tt T hb493
              refine ⟨⟨T, B3, B383⟩, ?_⟩
              refine RG.y rfl rfl (Y.loadN (cs := [.slice A371 y365.agents.length c372]) rfl (by kernel_rfl) (cells1 (fun w' hS => (blkCell hS.2.2 (i := 0) rfl)))) ?_
              refine RG.y rfl rfl (Y.loadN (cs := [.slice A1 d0.agents.length c1]) rfl (by kernel_rfl) (cells1 (fun w' hS => (blkCell hS.2.1 (i := 0) rfl)))) ?_
              refine RG.act rfl ?_
              obtain ⟨y494, e495, hm⟩ := bnd hm
              refine RL.call rfl (am1 rfl) (by kernel_rfl) ((c_toNetM d0 _ e495 _ _ (stArg (R := netRd) ⟨_, _, _, rfl, ⟨SlAt.now agentRd_ok h1 (Nat.le_refl _) T, r1⟩⟩)).mono ?_)
              rintro _ w505 ⟨⟨A500, c501, rfl, h502, r503⟩, hb506⟩
              refine ⟨_, rfl, ?_⟩
              have szw505 := hb506.size
              have B3 := blkT B3 hb506
              have B383 := blkT B383 hb506
              try have U27 := Tt U27 hb506
              try have U375 := Tt U375 hb506
              have T := Tt T hb506
              have U504 := Below.refl w505.heap.size w505
              refine RL.nil ⟨⟨T, B3, B383⟩, ?_⟩
              refine RG.act rfl ?_
              obtain ⟨y507, e508, hm⟩ := bnd hm
              refine RL.call rfl (am2 rfl rfl) (by kernel_rfl) ((c_eqNetM y365 y494 _ e508 _ _ _ (stArg (R := netRd) ⟨_, _, _, rfl, ⟨SlAt.now agentRd_ok h373 (Nat.le_refl _) U375, r374⟩⟩) (stArg (R := netRd) ⟨_, _, _, rfl, ⟨SlAt.now agentRd_ok h502 (Nat.le_refl _) U504, r503⟩⟩)).mono ?_)
              rintro _ w509 ⟨rfl, hb510⟩
              refine ⟨_, rfl, ?_⟩
              have szw509 := hb510.size
              have B3 := blkT B3 hb510
              have B383 := blkT B383 hb510
              try have U27 := Tt U27 hb510
              try have U375 := Tt U375 hb510
              try have U504 := Tt U504 hb510
              have T := Tt T hb510
              refine RL.nil ⟨⟨T, B3, B383⟩, ?_⟩
              refine RG.y rfl rfl (Y.not (b' := (!y507)) rfl rfl) ?_
              refine RG.nil ?_
              refine then_n ?_
              rcases bcases y507 with c511 | c511
              · replace hm := cF c511 hm
                refine cond_t rfl (vbn rfl c511 rfl) ?_
                refine wp_seq ?_
                refine wp_rs rfl ?_
                refine RQ.y rfl (Y.assign (v := .bool false) rfl) ?_
                refine RQ.nil ?_
                refine then_n ?_
                refine wp_ret ?_
                obtain rfl := Option.some.inj hm
                exact (then_r (ret1 rfl rfl rfl ⟨rfl, T⟩))
              · replace hm := cT c511 hm
                refine cond_f rfl (vbn rfl c511 rfl) ?_
                refine wp_skip ?_
                refine then_n ?_
                refine wp_seq ?_
                refine wp_rs rfl ?_
                refine RQ.y rfl (Y.assign (v := .bool true) rfl) ?_
                refine RQ.nil ?_
                refine then_n ?_
                refine wp_ret ?_
                obtain rfl := Option.some.inj hm
                exact (ret1 rfl rfl rfl ⟨rfl, T⟩)
            · replace hm := cT c491 hm
              refine cond_t rfl (vb rfl c491) ?_
              refine wp_seq ?_
              refine wp_rs rfl ?_
              refine RQ.y rfl (Y.assign (v := .bool false) rfl) ?_
              refine RQ.nil ?_
              refine then_n ?_
              refine wp_ret ?_
              obtain rfl := Option.some.inj hm
              exact (then_r (ret1 rfl rfl rfl ⟨rfl, T⟩))
    · refine RL.alloc (z := .agg #[.int .i64 0, .int .i64 0]) rfl (by kernel_rfl) (fun w512 B513 hb514 szw512 => ?_)
      replace B513 : Blk w512 w15.heap.size 28 #[.int .i64 0, .int .i64 0] := B513
      have GB513 : w.heap.size ≤ w15.heap.size := T.size
      have Eob515_ob5 := Nat.ne_of_lt B3.lt
      have Eob515_ob9 := Nat.ne_of_lt B7.lt
      have B3 := blkT B3 hb514
      have B7 := blkT B7 hb514
      have T := Tt T hb514
      refine RL.nil ⟨⟨T, B3, B7⟩, ?_⟩
      refine RT.act rfl ?_
      obtain ⟨y516, e517, hm⟩ := bnd hm
      refine RL.call rfl (am1 rfl) (by kernel_rfl) ((c_toNetM d0 _ e517 _ _ (stArg (R := netRd) ⟨_, _, _, rfl, ⟨SlAt.now agentRd_ok h1 (Nat.le_refl _) T, r1⟩⟩)).mono ?_)
      rintro _ w527 ⟨⟨A522, c523, rfl, h524, r525⟩, hb528⟩
      refine ⟨_, rfl, ?_⟩
      have szw527 := hb528.size
      have B3 := blkT B3 hb528
      have B7 := blkT B7 hb528
      have B513 := blkT B513 hb528
      have T := Tt T hb528
      have U526 := Below.refl w527.heap.size w527
      refine RL.nil ⟨⟨T, B3, B7⟩, ?_⟩
      refine RT.act rfl ?_
      obtain ⟨y529, e530, hm⟩ := bnd hm
      refine RL.call rfl (am1 rfl) (by kernel_rfl) ((c_toPortM d1 _ e530  _ ).mono ?_)
      rintro _ w531 ⟨rfl, hb532⟩
      refine ⟨_, rfl, ?_⟩
      have szw531 := hb532.size
      have B3 := blkT B3 hb532
      have B7 := blkT B7 hb532
      have B513 := blkT B513 hb532
      try have U526 := Tt U526 hb532
      have T := Tt T hb532
      refine RL.nil ⟨⟨T, B3, B7⟩, ?_⟩
      refine RT.act rfl ?_
      obtain ⟨y533, e534, hm⟩ := bnd hm
      refine RL.call rfl (am2 rfl rfl) (by kernel_rfl) ((c_m_spec_PeerOf y516 y529 _ e534 _ _ (stArg (R := netRd) ⟨_, _, _, rfl, ⟨SlAt.now agentRd_ok h524 (Nat.le_refl _) U526, r525⟩⟩)).mono ?_)
      rintro _ w535 ⟨rfl, hb536⟩
      refine ⟨_, rfl, ?_⟩
      have szw535 := hb536.size
      have B3 := blkT B3 hb536
      have B7 := blkT B7 hb536
      have B513 := blkT B513 hb536
      try have U526 := Tt U526 hb536
      have T := Tt T hb536
      refine RL.nil ⟨⟨T, B3, B7⟩, ?_⟩
      refine RT.y rfl rfl (Y.move (v := .tuple #[.agg #[.int .i64 y533.1.agent, .int .i64 y533.1.slot], .int .i64 y533.2]) rfl) ?_
      refine RT.y rfl rfl (Y.extract (i := 0) rfl rfl) ?_
      refine RT.y rfl rfl (Y.extract (i := 1) rfl rfl) ?_
      refine RT.act rfl ?_
      refine RL.store (v := .agg #[.int .i64 y533.1.agent, .int .i64 y533.1.slot]) (cs' := #[.int .i64 y533.1.agent, .int .i64 y533.1.slot]) rfl rfl rfl B513 (by kernel_rfl) (by rfl) (by rfl) (by rfl) (fun w537 B538 ho539 => ?_)
      have szw537 := ho539.size
      have B3 := B3.only_ ho539 (by intro hin; simp at hin; exact Eob515_ob5 hin)
      have B7 := B7.only_ ho539 (by intro hin; simp at hin; exact Eob515_ob9 hin)
      try have U526 := U526.trans (ho539.below (by first | (simp; done) | (simp; omega)))
      have T := T.trans (ho539.below (by first | (simp; done) | (simp; omega)))
      refine RL.nil ⟨⟨T, B3, B7⟩, ?_⟩
      refine RT.y rfl rfl (Y.assign (v := .int .i64 y533.2) rfl) ?_
      refine RT.nil_ ?_
      refine then_n ?_
      refine wp_seq ?_
      refine wp_rl rfl ?_
      refine RL.y rfl (Y.loadN (cs := [.slice A1 d0.agents.length c1]) rfl (by kernel_rfl) (cells1 (eqC (blkCell B3 (i := 0) rfl)))) ?_
      obtain ⟨y540, e541, hm⟩ := bnd hm
      refine RL.call rfl (am1 rfl) (by kernel_rfl) ((c_toNetM d0 _ e541 _ _ (stArg (R := netRd) ⟨_, _, _, rfl, ⟨SlAt.now agentRd_ok h1 (Nat.le_refl _) T, r1⟩⟩)).mono ?_)
      rintro _ w551 ⟨⟨A546, c547, rfl, h548, r549⟩, hb552⟩
      refine ⟨_, rfl, ?_⟩
      have szw551 := hb552.size
      have B3 := blkT B3 hb552
      have B7 := blkT B7 hb552
      have B538 := blkT B538 hb552
      try have U526 := Tt U526 hb552
      have T := Tt T hb552
      have U550 := Below.refl w551.heap.size w551
      refine RL.alloc (z := .agg #[.slice none 0 0]) rfl (by kernel_rfl) (fun w553 B554 hb555 szw553 => ?_)
      replace B554 : Blk w553 w551.heap.size 33 #[.slice none 0 0] := B554
      have GB554 : w.heap.size ≤ w551.heap.size := T.size
      have Eob556_ob5 := Nat.ne_of_lt B3.lt
      have Eob556_ob9 := Nat.ne_of_lt B7.lt
      have Eob556_ob515 := Nat.ne_of_lt B538.lt
      have B3 := blkT B3 hb555
      have B7 := blkT B7 hb555
      have B538 := blkT B538 hb555
      try have U526 := Tt U526 hb555
      try have U550 := Tt U550 hb555
      have T := Tt T hb555
      refine RL.store (v := .agg #[.slice A546 y540.agents.length c547]) (cs' := #[.slice A546 y540.agents.length c547]) rfl rfl rfl B554 (by kernel_rfl) (by rfl) (by rfl) (by rfl) (fun w557 B558 ho559 => ?_)
      have szw557 := ho559.size
      have B3 := B3.only_ ho559 (by intro hin; simp at hin; exact Eob556_ob5 hin)
      have B7 := B7.only_ ho559 (by intro hin; simp at hin; exact Eob556_ob9 hin)
      have B538 := B538.only_ ho559 (by intro hin; simp at hin; exact Eob556_ob515 hin)
      try have U526 := U526.trans (ho559.below (by first | (simp; done) | (simp; omega)))
      try have U550 := U550.trans (ho559.below (by first | (simp; done) | (simp; omega)))
      have T := T.trans (ho559.below (by first | (simp; done) | (simp; omega)))
      refine RL.nil ?_
      refine then_n ?_
      refine wp_seq ?_
      refine wp_rgt (fun w' => Below w.heap.size w w' ∧ Blk w' w2.heap.size 26 #[.int .i64 d1.agent, .int .i64 d1.slot] ∧ Blk w' w551.heap.size 33 #[.slice A546 y540.agents.length c547]) (.q 0 (.q 1 (.two 2 (.two 3 (.q 4 (.q 5 (.q 6 (.a 7 (.a 8 (.q 9 .nil)))))) 7 (.a 3 (.q 4 (.q 5 (.q 6 (.a 8 (.q 9 .nil))))))) 7 (.a 2 (.a 3 (.q 4 (.q 5 (.q 6 (.a 8 (.q 9 .nil)))))))))) (by kernel_rfl) (by kernel_rfl) (fun w560 hb561 szw560 => ?_)
      have B3 := blkT B3 hb561
      have B7 := blkT B7 hb561
      have B538 := blkT B538 hb561
      have B558 := blkT B558 hb561
      try have U526 := Tt U526 hb561
      try have U550 := Tt U550 hb561
      have T := Tt T hb561
      refine ⟨⟨T, B7, B558⟩, ?_⟩
      refine RT.y rfl rfl (Y.loadN (cs := [.slice A546 y540.agents.length c547]) rfl (by kernel_rfl) (cells1 (fun w' hS => (blkCell hS.2.2 (i := 0) rfl)))) ?_
      refine RT.y rfl rfl (Y.loadN (cs := [.int .i64 d1.agent, .int .i64 d1.slot]) rfl (by kernel_rfl) (cells2 (fun w' hS => (blkCell hS.2.1 (i := 0) rfl)) (fun w' hS => (blkCell hS.2.1 (i := 1) rfl)))) ?_
      refine RT.both rfl rfl ?_ ?_
      · obtain ⟨y562, e563, hm⟩ := bnd hm
        refine RL.call rfl (am1 rfl) (by kernel_rfl) ((c_toPortM d1 _ e563  _ ).mono ?_)
        rintro _ w564 ⟨rfl, hb565⟩
        refine ⟨_, rfl, ?_⟩
        have szw564 := hb565.size
        have B3 := blkT B3 hb565
        have B7 := blkT B7 hb565
        have B538 := blkT B538 hb565
        have B558 := blkT B558 hb565
        try have U526 := Tt U526 hb565
        try have U550 := Tt U550 hb565
        have T := Tt T hb565
        refine RL.nil ⟨⟨T, B7, B558⟩, ?_⟩
        refine RT.both rfl rfl ?_ ?_
        · obtain ⟨y566, e567, hm⟩ := bnd hm
          refine RL.call rfl (am2 rfl rfl) (by kernel_rfl) ((c_m_impl_PeerOf y540 y562 _ e567 _ _ (stArg (R := netRd) ⟨_, _, _, rfl, ⟨SlAt.now agentRd_ok h548 (Nat.le_refl _) U550, r549⟩⟩)).mono ?_)
          rintro _ w568 ⟨rfl, hb569⟩
          refine ⟨_, rfl, ?_⟩
          have szw568 := hb569.size
          have B3 := blkT B3 hb569
          have B7 := blkT B7 hb569
          have B538 := blkT B538 hb569
          have B558 := blkT B558 hb569
          try have U526 := Tt U526 hb569
          try have U550 := Tt U550 hb569
          have T := Tt T hb569
          refine RL.nil ⟨⟨T, B7, B558⟩, ?_⟩
          refine RT.y rfl rfl (Y.move (v := .tuple #[.agg #[.int .i64 y566.1.agent, .int .i64 y566.1.slot], .int .i64 y566.2]) rfl) ?_
          refine RT.y rfl rfl (Y.extract (i := 0) rfl rfl) ?_
          refine RT.y rfl rfl (Y.extract (i := 1) rfl rfl) ?_
          refine RT.act rfl ?_
          refine RL.alloc (z := .agg #[.int .i64 0, .int .i64 0]) rfl (by kernel_rfl) (fun w570 B571 hb572 szw570 => ?_)
          replace B571 : Blk w570 w568.heap.size 28 #[.int .i64 0, .int .i64 0] := B571
          have GB571 : w.heap.size ≤ w568.heap.size := T.size
          have Eob573_ob5 := Nat.ne_of_lt B3.lt
          have Eob573_ob9 := Nat.ne_of_lt B7.lt
          have Eob573_ob515 := Nat.ne_of_lt B538.lt
          have Eob573_ob556 := Nat.ne_of_lt B558.lt
          have B3 := blkT B3 hb572
          have B7 := blkT B7 hb572
          have B538 := blkT B538 hb572
          have B558 := blkT B558 hb572
          try have U526 := Tt U526 hb572
          try have U550 := Tt U550 hb572
          have T := Tt T hb572
          refine RL.nil ⟨⟨T, B7, B558⟩, ?_⟩
          refine RT.act rfl ?_
          refine RL.store (v := .agg #[.int .i64 y566.1.agent, .int .i64 y566.1.slot]) (cs' := #[.int .i64 y566.1.agent, .int .i64 y566.1.slot]) rfl rfl rfl B571 (by kernel_rfl) (by rfl) (by rfl) (by rfl) (fun w574 B575 ho576 => ?_)
          have szw574 := ho576.size
          have B3 := B3.only_ ho576 (by intro hin; simp at hin; exact Eob573_ob5 hin)
          have B7 := B7.only_ ho576 (by intro hin; simp at hin; exact Eob573_ob9 hin)
          have B538 := B538.only_ ho576 (by intro hin; simp at hin; exact Eob573_ob515 hin)
          have B558 := B558.only_ ho576 (by intro hin; simp at hin; exact Eob573_ob556 hin)
          try have U526 := U526.trans (ho576.below (by first | (simp; done) | (simp; omega)))
          try have U550 := U550.trans (ho576.below (by first | (simp; done) | (simp; omega)))
          have T := T.trans (ho576.below (by first | (simp; done) | (simp; omega)))
          refine RL.nil ⟨⟨T, B7, B558⟩, ?_⟩
          refine RT.y rfl rfl (Y.assign (v := .int .i64 y566.2) rfl) ?_
          refine RT.nil_ ?_
          refine then_n ?_
          refine wp_seq ?_
          refine wp_seq ?_
          refine wp_rb rfl ?_
          refine RQ.y rfl (Y.loadN (cs := [.int .i64 y566.1.agent, .int .i64 y566.1.slot]) rfl (by kernel_rfl) (cells2 (beC (blkCell B575 (i := 0) rfl)) (beC (blkCell B575 (i := 1) rfl)))) ?_
          refine RQ.y rfl (Y.loadN (cs := [.int .i64 y533.1.agent, .int .i64 y533.1.slot]) rfl (by kernel_rfl) (cells2 (beC (blkCell B538 (i := 0) rfl)) (beC (blkCell B538 (i := 1) rfl)))) ?_
          obtain ⟨y577, e578, hm⟩ := bnd hm
          refine RQ.call rfl (am2 rfl rfl) (by kernel_rfl) (v := .bool y577) (bel (K := fun _ => True) fun w' hb' => (c_eqPortM y566.1 y533.1 _ e578  w' )) ?_
          refine RQ.y rfl (Y.not (b' := (!y577)) rfl rfl) ?_
          refine RQ.y rfl (Y.move (v := .bool (!y577)) rfl) ?_
          rcases bcases y577 with c579 | c579
          · replace hm := cF c579 hm
            refine RQ.skip (wantN (dj := 37) rfl (vbn rfl c579 rfl) rfl) ?_
            refine RQ.skip (wantN (dj := 37) rfl (vbn rfl c579 rfl) rfl) ?_
            refine RQ.skip (wantN (dj := 37) rfl (vbn rfl c579 rfl) rfl) ?_
            refine RQ.y rfl (Y.pick (b := true) (v := .bool true) (vbn rfl c579 rfl) rfl) ?_
            refine RQ.nil ?_
            intro w580 hb581
            have szw580 := hb581.size
            have B3 := blkT B3 hb581
            have B558 := blkT B558 hb581
            try have U526 := Tt U526 hb581
            try have U550 := Tt U550 hb581
            have T := Tt T hb581
            refine then_n ?_
            refine cond_t rfl rfl ?_
            refine wp_seq ?_
            refine wp_rs rfl ?_
            refine RQ.y rfl (Y.assign (v := .bool false) rfl) ?_
            refine RQ.nil ?_
            refine then_n ?_
            refine wp_ret ?_
            obtain rfl := Option.some.inj hm
            exact (then_r (ret1 rfl rfl rfl ⟨rfl, T⟩))
          · replace hm := cT c579 hm
            refine RQ.y (wantT (dj := 37) rfl (vbn rfl c579 rfl)) (Y.move (v := .int .i64 y566.2) rfl) ?_
            refine RQ.y (wantT (dj := 37) rfl (vbn rfl c579 rfl)) (Y.move (v := .int .i64 y533.2) rfl) ?_
            refine RQ.y (wantT (dj := 37) rfl (vbn rfl c579 rfl)) (Y.binI (v := .bool (y566.2 != y533.2)) rfl rfl rfl) ?_
            refine RQ.y rfl (Y.pick (b := false) (v := .bool (y566.2 != y533.2)) (vbn rfl c579 rfl) rfl) ?_
            refine RQ.nil ?_
            intro w582 hb583
            have szw582 := hb583.size
            have B3 := blkT B3 hb583
            have B558 := blkT B558 hb583
            try have U526 := Tt U526 hb583
            try have U550 := Tt U550 hb583
            have T := Tt T hb583
            refine then_n ?_
            rcases bcases (y566.2 != y533.2) with c584 | c584
            · replace hm := cF c584 hm
              refine cond_f rfl (vb rfl c584) ?_
              refine wp_skip ?_
              refine then_n ?_
              refine wp_seq ?_
              refine wp_seq ?_
              refine wp_rg (fun w' => Below w.heap.size w w' ∧ Blk w' w.heap.size 24 #[.slice A1 d0.agents.length c1] ∧ Blk w' w551.heap.size 33 #[.slice A546 y540.agents.length c547]) [(0, true), (1, true), (2, false), (3, false), (4, true)] (by kernel_rfl) (by kernel_rfl) (fun w585 hb586 szw585 => ?_)
              have B3 := blkT B3 hb586
              have B558 := blkT B558 hb586
              try have U526 := Tt U526 hb586
              try have U550 := Tt U550 hb586
              have T := Tt T hb586
              refine ⟨⟨T, B3, B558⟩, ?_⟩
              refine RG.y rfl rfl (Y.loadN (cs := [.slice A546 y540.agents.length c547]) rfl (by kernel_rfl) (cells1 (fun w' hS => (blkCell hS.2.2 (i := 0) rfl)))) ?_
              refine RG.y rfl rfl (Y.loadN (cs := [.slice A1 d0.agents.length c1]) rfl (by kernel_rfl) (cells1 (fun w' hS => (blkCell hS.2.1 (i := 0) rfl)))) ?_
              refine RG.act rfl ?_
              obtain ⟨y587, e588, hm⟩ := bnd hm
              refine RL.call rfl (am1 rfl) (by kernel_rfl) ((c_toNetM d0 _ e588 _ _ (stArg (R := netRd) ⟨_, _, _, rfl, ⟨SlAt.now agentRd_ok h1 (Nat.le_refl _) T, r1⟩⟩)).mono ?_)
              rintro _ w598 ⟨⟨A593, c594, rfl, h595, r596⟩, hb599⟩
              refine ⟨_, rfl, ?_⟩
              have szw598 := hb599.size
              have B3 := blkT B3 hb599
              have B558 := blkT B558 hb599
              try have U526 := Tt U526 hb599
              try have U550 := Tt U550 hb599
              have T := Tt T hb599
              have U597 := Below.refl w598.heap.size w598
              refine RL.nil ⟨⟨T, B3, B558⟩, ?_⟩
              refine RG.act rfl ?_
              obtain ⟨y600, e601, hm⟩ := bnd hm
              refine RL.call rfl (am2 rfl rfl) (by kernel_rfl) ((c_eqNetM y540 y587 _ e601 _ _ _ (stArg (R := netRd) ⟨_, _, _, rfl, ⟨SlAt.now agentRd_ok h548 (Nat.le_refl _) U550, r549⟩⟩) (stArg (R := netRd) ⟨_, _, _, rfl, ⟨SlAt.now agentRd_ok h595 (Nat.le_refl _) U597, r596⟩⟩)).mono ?_)
              rintro _ w602 ⟨rfl, hb603⟩
              refine ⟨_, rfl, ?_⟩
              have szw602 := hb603.size
              have B3 := blkT B3 hb603
              have B558 := blkT B558 hb603
              try have U526 := Tt U526 hb603
              try have U550 := Tt U550 hb603
              try have U597 := Tt U597 hb603
              have T := Tt T hb603
              refine RL.nil ⟨⟨T, B3, B558⟩, ?_⟩
              refine RG.y rfl rfl (Y.not (b' := (!y600)) rfl rfl) ?_
              refine RG.nil ?_
              refine then_n ?_
              rcases bcases y600 with c604 | c604
              · replace hm := cF c604 hm
                refine cond_t rfl (vbn rfl c604 rfl) ?_
                refine wp_seq ?_
                refine wp_rs rfl ?_
                refine RQ.y rfl (Y.assign (v := .bool false) rfl) ?_
                refine RQ.nil ?_
                refine then_n ?_
                refine wp_ret ?_
                obtain rfl := Option.some.inj hm
                exact (then_r (ret1 rfl rfl rfl ⟨rfl, T⟩))
              · replace hm := cT c604 hm
                refine cond_f rfl (vbn rfl c604 rfl) ?_
                refine wp_skip ?_
                refine then_n ?_
                refine wp_seq ?_
                refine wp_rs rfl ?_
                refine RQ.y rfl (Y.assign (v := .bool true) rfl) ?_
                refine RQ.nil ?_
                refine then_n ?_
                refine wp_ret ?_
                obtain rfl := Option.some.inj hm
                exact (ret1 rfl rfl rfl ⟨rfl, T⟩)
            · replace hm := cT c584 hm
              refine cond_t rfl (vb rfl c584) ?_
              refine wp_seq ?_
              refine wp_rs rfl ?_
              refine RQ.y rfl (Y.assign (v := .bool false) rfl) ?_
              refine RQ.nil ?_
              refine then_n ?_
              refine wp_ret ?_
              obtain rfl := Option.some.inj hm
              exact (then_r (ret1 rfl rfl rfl ⟨rfl, T⟩))
        · refine RL.alloc (z := .agg #[.int .i64 0, .int .i64 0]) rfl (by kernel_rfl) (fun w605 B606 hb607 szw605 => ?_)
          replace B606 : Blk w605 w564.heap.size 28 #[.int .i64 0, .int .i64 0] := B606
          have GB606 : w.heap.size ≤ w564.heap.size := T.size
          have Eob608_ob5 := Nat.ne_of_lt B3.lt
          have Eob608_ob9 := Nat.ne_of_lt B7.lt
          have Eob608_ob515 := Nat.ne_of_lt B538.lt
          have Eob608_ob556 := Nat.ne_of_lt B558.lt
          have B3 := blkT B3 hb607
          have B7 := blkT B7 hb607
          have B538 := blkT B538 hb607
          have B558 := blkT B558 hb607
          try have U526 := Tt U526 hb607
          try have U550 := Tt U550 hb607
          have T := Tt T hb607
          refine RL.nil ⟨⟨T, B7, B558⟩, ?_⟩
          refine RT.act rfl ?_
          obtain ⟨y609, e610, hm⟩ := bnd hm
          refine RL.call rfl (am2 rfl rfl) (by kernel_rfl) ((c_m_impl_PeerOf y540 y562 _ e610 _ _ (stArg (R := netRd) ⟨_, _, _, rfl, ⟨SlAt.now agentRd_ok h548 (Nat.le_refl _) U550, r549⟩⟩)).mono ?_)
          rintro _ w611 ⟨rfl, hb612⟩
          refine ⟨_, rfl, ?_⟩
          have szw611 := hb612.size
          have B3 := blkT B3 hb612
          have B7 := blkT B7 hb612
          have B538 := blkT B538 hb612
          have B558 := blkT B558 hb612
          have B606 := blkT B606 hb612
          try have U526 := Tt U526 hb612
          try have U550 := Tt U550 hb612
          have T := Tt T hb612
          refine RL.nil ⟨⟨T, B7, B558⟩, ?_⟩
          refine RT.y rfl rfl (Y.move (v := .tuple #[.agg #[.int .i64 y609.1.agent, .int .i64 y609.1.slot], .int .i64 y609.2]) rfl) ?_
          refine RT.y rfl rfl (Y.extract (i := 0) rfl rfl) ?_
          refine RT.y rfl rfl (Y.extract (i := 1) rfl rfl) ?_
          refine RT.act rfl ?_
          refine RL.store (v := .agg #[.int .i64 y609.1.agent, .int .i64 y609.1.slot]) (cs' := #[.int .i64 y609.1.agent, .int .i64 y609.1.slot]) rfl rfl rfl B606 (by kernel_rfl) (by rfl) (by rfl) (by rfl) (fun w613 B614 ho615 => ?_)
          have szw613 := ho615.size
          have B3 := B3.only_ ho615 (by intro hin; simp at hin; exact Eob608_ob5 hin)
          have B7 := B7.only_ ho615 (by intro hin; simp at hin; exact Eob608_ob9 hin)
          have B538 := B538.only_ ho615 (by intro hin; simp at hin; exact Eob608_ob515 hin)
          have B558 := B558.only_ ho615 (by intro hin; simp at hin; exact Eob608_ob556 hin)
          try have U526 := U526.trans (ho615.below (by first | (simp; done) | (simp; omega)))
          try have U550 := U550.trans (ho615.below (by first | (simp; done) | (simp; omega)))
          have T := T.trans (ho615.below (by first | (simp; done) | (simp; omega)))
          refine RL.nil ⟨⟨T, B7, B558⟩, ?_⟩
          refine RT.y rfl rfl (Y.assign (v := .int .i64 y609.2) rfl) ?_
          refine RT.nil_ ?_
          refine then_n ?_
          refine wp_seq ?_
          refine wp_seq ?_
          refine wp_rb rfl ?_
          refine RQ.y rfl (Y.loadN (cs := [.int .i64 y609.1.agent, .int .i64 y609.1.slot]) rfl (by kernel_rfl) (cells2 (beC (blkCell B614 (i := 0) rfl)) (beC (blkCell B614 (i := 1) rfl)))) ?_
          refine RQ.y rfl (Y.loadN (cs := [.int .i64 y533.1.agent, .int .i64 y533.1.slot]) rfl (by kernel_rfl) (cells2 (beC (blkCell B538 (i := 0) rfl)) (beC (blkCell B538 (i := 1) rfl)))) ?_
          obtain ⟨y616, e617, hm⟩ := bnd hm
          refine RQ.call rfl (am2 rfl rfl) (by kernel_rfl) (v := .bool y616) (bel (K := fun _ => True) fun w' hb' => (c_eqPortM y609.1 y533.1 _ e617  w' )) ?_
          refine RQ.y rfl (Y.not (b' := (!y616)) rfl rfl) ?_
          refine RQ.y rfl (Y.move (v := .bool (!y616)) rfl) ?_
          rcases bcases y616 with c618 | c618
          · replace hm := cF c618 hm
            refine RQ.skip (wantN (dj := 37) rfl (vbn rfl c618 rfl) rfl) ?_
            refine RQ.skip (wantN (dj := 37) rfl (vbn rfl c618 rfl) rfl) ?_
            refine RQ.skip (wantN (dj := 37) rfl (vbn rfl c618 rfl) rfl) ?_
            refine RQ.y rfl (Y.pick (b := true) (v := .bool true) (vbn rfl c618 rfl) rfl) ?_
            refine RQ.nil ?_
            intro w619 hb620
            have szw619 := hb620.size
            have B3 := blkT B3 hb620
            have B558 := blkT B558 hb620
            try have U526 := Tt U526 hb620
            try have U550 := Tt U550 hb620
            have T := Tt T hb620
            refine then_n ?_
            refine cond_t rfl rfl ?_
            refine wp_seq ?_
            refine wp_rs rfl ?_
            refine RQ.y rfl (Y.assign (v := .bool false) rfl) ?_
            refine RQ.nil ?_
            refine then_n ?_
            refine wp_ret ?_
            obtain rfl := Option.some.inj hm
            exact (then_r (ret1 rfl rfl rfl ⟨rfl, T⟩))
          · replace hm := cT c618 hm
            refine RQ.y (wantT (dj := 37) rfl (vbn rfl c618 rfl)) (Y.move (v := .int .i64 y609.2) rfl) ?_
            refine RQ.y (wantT (dj := 37) rfl (vbn rfl c618 rfl)) (Y.move (v := .int .i64 y533.2) rfl) ?_
            refine RQ.y (wantT (dj := 37) rfl (vbn rfl c618 rfl)) (Y.binI (v := .bool (y609.2 != y533.2)) rfl rfl rfl) ?_
            refine RQ.y rfl (Y.pick (b := false) (v := .bool (y609.2 != y533.2)) (vbn rfl c618 rfl) rfl) ?_
            refine RQ.nil ?_
            intro w621 hb622
            have szw621 := hb622.size
            have B3 := blkT B3 hb622
            have B558 := blkT B558 hb622
            try have U526 := Tt U526 hb622
            try have U550 := Tt U550 hb622
            have T := Tt T hb622
            refine then_n ?_
            rcases bcases (y609.2 != y533.2) with c623 | c623
            · replace hm := cF c623 hm
              refine cond_f rfl (vb rfl c623) ?_
              refine wp_skip ?_
              refine then_n ?_
              refine wp_seq ?_
              refine wp_seq ?_
              refine wp_rg (fun w' => Below w.heap.size w w' ∧ Blk w' w.heap.size 24 #[.slice A1 d0.agents.length c1] ∧ Blk w' w551.heap.size 33 #[.slice A546 y540.agents.length c547]) [(0, true), (1, true), (2, false), (3, false), (4, true)] (by kernel_rfl) (by kernel_rfl) (fun w624 hb625 szw624 => ?_)
              have B3 := blkT B3 hb625
              have B558 := blkT B558 hb625
              try have U526 := Tt U526 hb625
              try have U550 := Tt U550 hb625
              have T := Tt T hb625
              refine ⟨⟨T, B3, B558⟩, ?_⟩
              refine RG.y rfl rfl (Y.loadN (cs := [.slice A546 y540.agents.length c547]) rfl (by kernel_rfl) (cells1 (fun w' hS => (blkCell hS.2.2 (i := 0) rfl)))) ?_
              refine RG.y rfl rfl (Y.loadN (cs := [.slice A1 d0.agents.length c1]) rfl (by kernel_rfl) (cells1 (fun w' hS => (blkCell hS.2.1 (i := 0) rfl)))) ?_
              refine RG.act rfl ?_
              obtain ⟨y626, e627, hm⟩ := bnd hm
              refine RL.call rfl (am1 rfl) (by kernel_rfl) ((c_toNetM d0 _ e627 _ _ (stArg (R := netRd) ⟨_, _, _, rfl, ⟨SlAt.now agentRd_ok h1 (Nat.le_refl _) T, r1⟩⟩)).mono ?_)
              rintro _ w637 ⟨⟨A632, c633, rfl, h634, r635⟩, hb638⟩
              refine ⟨_, rfl, ?_⟩
              have szw637 := hb638.size
              have B3 := blkT B3 hb638
              have B558 := blkT B558 hb638
              try have U526 := Tt U526 hb638
              try have U550 := Tt U550 hb638
              have T := Tt T hb638
              have U636 := Below.refl w637.heap.size w637
              refine RL.nil ⟨⟨T, B3, B558⟩, ?_⟩
              refine RG.act rfl ?_
              obtain ⟨y639, e640, hm⟩ := bnd hm
              refine RL.call rfl (am2 rfl rfl) (by kernel_rfl) ((c_eqNetM y540 y626 _ e640 _ _ _ (stArg (R := netRd) ⟨_, _, _, rfl, ⟨SlAt.now agentRd_ok h548 (Nat.le_refl _) U550, r549⟩⟩) (stArg (R := netRd) ⟨_, _, _, rfl, ⟨SlAt.now agentRd_ok h634 (Nat.le_refl _) U636, r635⟩⟩)).mono ?_)
              rintro _ w641 ⟨rfl, hb642⟩
              refine ⟨_, rfl, ?_⟩
              have szw641 := hb642.size
              have B3 := blkT B3 hb642
              have B558 := blkT B558 hb642
              try have U526 := Tt U526 hb642
              try have U550 := Tt U550 hb642
              try have U636 := Tt U636 hb642
              have T := Tt T hb642
              refine RL.nil ⟨⟨T, B3, B558⟩, ?_⟩
              refine RG.y rfl rfl (Y.not (b' := (!y639)) rfl rfl) ?_
              refine RG.nil ?_
              refine then_n ?_
              rcases bcases y639 with c643 | c643
              · replace hm := cF c643 hm
                refine cond_t rfl (vbn rfl c643 rfl) ?_
                refine wp_seq ?_
                refine wp_rs rfl ?_
                refine RQ.y rfl (Y.assign (v := .bool false) rfl) ?_
                refine RQ.nil ?_
                refine then_n ?_
                refine wp_ret ?_
                obtain rfl := Option.some.inj hm
                exact (then_r (ret1 rfl rfl rfl ⟨rfl, T⟩))
              · replace hm := cT c643 hm
                refine cond_f rfl (vbn rfl c643 rfl) ?_
                refine wp_skip ?_
                refine then_n ?_
                refine wp_seq ?_
                refine wp_rs rfl ?_
                refine RQ.y rfl (Y.assign (v := .bool true) rfl) ?_
                refine RQ.nil ?_
                refine then_n ?_
                refine wp_ret ?_
                obtain rfl := Option.some.inj hm
                exact (ret1 rfl rfl rfl ⟨rfl, T⟩)
            · replace hm := cT c623 hm
              refine cond_t rfl (vb rfl c623) ?_
              refine wp_seq ?_
              refine wp_rs rfl ?_
              refine RQ.y rfl (Y.assign (v := .bool false) rfl) ?_
              refine RQ.nil ?_
              refine then_n ?_
              refine wp_ret ?_
              obtain rfl := Option.some.inj hm
              exact (then_r (ret1 rfl rfl rfl ⟨rfl, T⟩))
      · refine RL.alloc (z := .agg #[.int .i64 0, .int .i64 0]) rfl (by kernel_rfl) (fun w644 B645 hb646 szw644 => ?_)
        replace B645 : Blk w644 w560.heap.size 28 #[.int .i64 0, .int .i64 0] := B645
        have GB645 : w.heap.size ≤ w560.heap.size := T.size
        have Eob647_ob5 := Nat.ne_of_lt B3.lt
        have Eob647_ob9 := Nat.ne_of_lt B7.lt
        have Eob647_ob515 := Nat.ne_of_lt B538.lt
        have Eob647_ob556 := Nat.ne_of_lt B558.lt
        have B3 := blkT B3 hb646
        have B7 := blkT B7 hb646
        have B538 := blkT B538 hb646
        have B558 := blkT B558 hb646
        try have U526 := Tt U526 hb646
        try have U550 := Tt U550 hb646
        have T := Tt T hb646
        refine RL.nil ⟨⟨T, B7, B558⟩, ?_⟩
        refine RT.act rfl ?_
        obtain ⟨y648, e649, hm⟩ := bnd hm
        refine RL.call rfl (am1 rfl) (by kernel_rfl) ((c_toPortM d1 _ e649  _ ).mono ?_)
        rintro _ w650 ⟨rfl, hb651⟩
        refine ⟨_, rfl, ?_⟩
        have szw650 := hb651.size
        have B3 := blkT B3 hb651
        have B7 := blkT B7 hb651
        have B538 := blkT B538 hb651
        have B558 := blkT B558 hb651
        have B645 := blkT B645 hb651
        try have U526 := Tt U526 hb651
        try have U550 := Tt U550 hb651
        have T := Tt T hb651
        refine RL.nil ⟨⟨T, B7, B558⟩, ?_⟩
        refine RT.act rfl ?_
        obtain ⟨y652, e653, hm⟩ := bnd hm
        refine RL.call rfl (am2 rfl rfl) (by kernel_rfl) ((c_m_impl_PeerOf y540 y648 _ e653 _ _ (stArg (R := netRd) ⟨_, _, _, rfl, ⟨SlAt.now agentRd_ok h548 (Nat.le_refl _) U550, r549⟩⟩)).mono ?_)
        rintro _ w654 ⟨rfl, hb655⟩
        refine ⟨_, rfl, ?_⟩
        have szw654 := hb655.size
        have B3 := blkT B3 hb655
        have B7 := blkT B7 hb655
        have B538 := blkT B538 hb655
        have B558 := blkT B558 hb655
        have B645 := blkT B645 hb655
        try have U526 := Tt U526 hb655
        try have U550 := Tt U550 hb655
        have T := Tt T hb655
        refine RL.nil ⟨⟨T, B7, B558⟩, ?_⟩
        refine RT.y rfl rfl (Y.move (v := .tuple #[.agg #[.int .i64 y652.1.agent, .int .i64 y652.1.slot], .int .i64 y652.2]) rfl) ?_
        refine RT.y rfl rfl (Y.extract (i := 0) rfl rfl) ?_
        refine RT.y rfl rfl (Y.extract (i := 1) rfl rfl) ?_
        refine RT.act rfl ?_
        refine RL.store (v := .agg #[.int .i64 y652.1.agent, .int .i64 y652.1.slot]) (cs' := #[.int .i64 y652.1.agent, .int .i64 y652.1.slot]) rfl rfl rfl B645 (by kernel_rfl) (by rfl) (by rfl) (by rfl) (fun w656 B657 ho658 => ?_)
        have szw656 := ho658.size
        have B3 := B3.only_ ho658 (by intro hin; simp at hin; exact Eob647_ob5 hin)
        have B7 := B7.only_ ho658 (by intro hin; simp at hin; exact Eob647_ob9 hin)
        have B538 := B538.only_ ho658 (by intro hin; simp at hin; exact Eob647_ob515 hin)
        have B558 := B558.only_ ho658 (by intro hin; simp at hin; exact Eob647_ob556 hin)
        try have U526 := U526.trans (ho658.below (by first | (simp; done) | (simp; omega)))
        try have U550 := U550.trans (ho658.below (by first | (simp; done) | (simp; omega)))
        have T := T.trans (ho658.below (by first | (simp; done) | (simp; omega)))
        refine RL.nil ⟨⟨T, B7, B558⟩, ?_⟩
        refine RT.y rfl rfl (Y.assign (v := .int .i64 y652.2) rfl) ?_
        refine RT.nil_ ?_
        refine then_n ?_
        refine wp_seq ?_
        refine wp_seq ?_
        refine wp_rb rfl ?_
        refine RQ.y rfl (Y.loadN (cs := [.int .i64 y652.1.agent, .int .i64 y652.1.slot]) rfl (by kernel_rfl) (cells2 (beC (blkCell B657 (i := 0) rfl)) (beC (blkCell B657 (i := 1) rfl)))) ?_
        refine RQ.y rfl (Y.loadN (cs := [.int .i64 y533.1.agent, .int .i64 y533.1.slot]) rfl (by kernel_rfl) (cells2 (beC (blkCell B538 (i := 0) rfl)) (beC (blkCell B538 (i := 1) rfl)))) ?_
        obtain ⟨y659, e660, hm⟩ := bnd hm
        refine RQ.call rfl (am2 rfl rfl) (by kernel_rfl) (v := .bool y659) (bel (K := fun _ => True) fun w' hb' => (c_eqPortM y652.1 y533.1 _ e660  w' )) ?_
        refine RQ.y rfl (Y.not (b' := (!y659)) rfl rfl) ?_
        refine RQ.y rfl (Y.move (v := .bool (!y659)) rfl) ?_
        rcases bcases y659 with c661 | c661
        · replace hm := cF c661 hm
          refine RQ.skip (wantN (dj := 37) rfl (vbn rfl c661 rfl) rfl) ?_
          refine RQ.skip (wantN (dj := 37) rfl (vbn rfl c661 rfl) rfl) ?_
          refine RQ.skip (wantN (dj := 37) rfl (vbn rfl c661 rfl) rfl) ?_
          refine RQ.y rfl (Y.pick (b := true) (v := .bool true) (vbn rfl c661 rfl) rfl) ?_
          refine RQ.nil ?_
          intro w662 hb663
          have szw662 := hb663.size
          have B3 := blkT B3 hb663
          have B558 := blkT B558 hb663
          try have U526 := Tt U526 hb663
          try have U550 := Tt U550 hb663
          have T := Tt T hb663
          refine then_n ?_
          refine cond_t rfl rfl ?_
          refine wp_seq ?_
          refine wp_rs rfl ?_
          refine RQ.y rfl (Y.assign (v := .bool false) rfl) ?_
          refine RQ.nil ?_
          refine then_n ?_
          refine wp_ret ?_
          obtain rfl := Option.some.inj hm
          exact (then_r (ret1 rfl rfl rfl ⟨rfl, T⟩))
        · replace hm := cT c661 hm
          refine RQ.y (wantT (dj := 37) rfl (vbn rfl c661 rfl)) (Y.move (v := .int .i64 y652.2) rfl) ?_
          refine RQ.y (wantT (dj := 37) rfl (vbn rfl c661 rfl)) (Y.move (v := .int .i64 y533.2) rfl) ?_
          refine RQ.y (wantT (dj := 37) rfl (vbn rfl c661 rfl)) (Y.binI (v := .bool (y652.2 != y533.2)) rfl rfl rfl) ?_
          refine RQ.y rfl (Y.pick (b := false) (v := .bool (y652.2 != y533.2)) (vbn rfl c661 rfl) rfl) ?_
          refine RQ.nil ?_
          intro w664 hb665
          have szw664 := hb665.size
          have B3 := blkT B3 hb665
          have B558 := blkT B558 hb665
          try have U526 := Tt U526 hb665
          try have U550 := Tt U550 hb665
          have T := Tt T hb665
          refine then_n ?_
          rcases bcases (y652.2 != y533.2) with c666 | c666
          · replace hm := cF c666 hm
            refine cond_f rfl (vb rfl c666) ?_
            refine wp_skip ?_
            refine then_n ?_
            refine wp_seq ?_
            refine wp_seq ?_
            refine wp_rg (fun w' => Below w.heap.size w w' ∧ Blk w' w.heap.size 24 #[.slice A1 d0.agents.length c1] ∧ Blk w' w551.heap.size 33 #[.slice A546 y540.agents.length c547]) [(0, true), (1, true), (2, false), (3, false), (4, true)] (by kernel_rfl) (by kernel_rfl) (fun w667 hb668 szw667 => ?_)
            have B3 := blkT B3 hb668
            have B558 := blkT B558 hb668
            try have U526 := Tt U526 hb668
            try have U550 := Tt U550 hb668
            have T := Tt T hb668
            refine ⟨⟨T, B3, B558⟩, ?_⟩
            refine RG.y rfl rfl (Y.loadN (cs := [.slice A546 y540.agents.length c547]) rfl (by kernel_rfl) (cells1 (fun w' hS => (blkCell hS.2.2 (i := 0) rfl)))) ?_
            refine RG.y rfl rfl (Y.loadN (cs := [.slice A1 d0.agents.length c1]) rfl (by kernel_rfl) (cells1 (fun w' hS => (blkCell hS.2.1 (i := 0) rfl)))) ?_
            refine RG.act rfl ?_
            obtain ⟨y669, e670, hm⟩ := bnd hm
            refine RL.call rfl (am1 rfl) (by kernel_rfl) ((c_toNetM d0 _ e670 _ _ (stArg (R := netRd) ⟨_, _, _, rfl, ⟨SlAt.now agentRd_ok h1 (Nat.le_refl _) T, r1⟩⟩)).mono ?_)
            rintro _ w680 ⟨⟨A675, c676, rfl, h677, r678⟩, hb681⟩
            refine ⟨_, rfl, ?_⟩
            have szw680 := hb681.size
            have B3 := blkT B3 hb681
            have B558 := blkT B558 hb681
            try have U526 := Tt U526 hb681
            try have U550 := Tt U550 hb681
            have T := Tt T hb681
            have U679 := Below.refl w680.heap.size w680
            refine RL.nil ⟨⟨T, B3, B558⟩, ?_⟩
            refine RG.act rfl ?_
            obtain ⟨y682, e683, hm⟩ := bnd hm
            refine RL.call rfl (am2 rfl rfl) (by kernel_rfl) ((c_eqNetM y540 y669 _ e683 _ _ _ (stArg (R := netRd) ⟨_, _, _, rfl, ⟨SlAt.now agentRd_ok h548 (Nat.le_refl _) U550, r549⟩⟩) (stArg (R := netRd) ⟨_, _, _, rfl, ⟨SlAt.now agentRd_ok h677 (Nat.le_refl _) U679, r678⟩⟩)).mono ?_)
            rintro _ w684 ⟨rfl, hb685⟩
            refine ⟨_, rfl, ?_⟩
            have szw684 := hb685.size
            have B3 := blkT B3 hb685
            have B558 := blkT B558 hb685
            try have U526 := Tt U526 hb685
            try have U550 := Tt U550 hb685
            try have U679 := Tt U679 hb685
            have T := Tt T hb685
            refine RL.nil ⟨⟨T, B3, B558⟩, ?_⟩
            refine RG.y rfl rfl (Y.not (b' := (!y682)) rfl rfl) ?_
            refine RG.nil ?_
            refine then_n ?_
            rcases bcases y682 with c686 | c686
            · replace hm := cF c686 hm
              refine cond_t rfl (vbn rfl c686 rfl) ?_
              refine wp_seq ?_
              refine wp_rs rfl ?_
              refine RQ.y rfl (Y.assign (v := .bool false) rfl) ?_
              refine RQ.nil ?_
              refine then_n ?_
              refine wp_ret ?_
              obtain rfl := Option.some.inj hm
              exact (then_r (ret1 rfl rfl rfl ⟨rfl, T⟩))
            · replace hm := cT c686 hm
              refine cond_f rfl (vbn rfl c686 rfl) ?_
              refine wp_skip ?_
              refine then_n ?_
              refine wp_seq ?_
              refine wp_rs rfl ?_
              refine RQ.y rfl (Y.assign (v := .bool true) rfl) ?_
              refine RQ.nil ?_
              refine then_n ?_
              refine wp_ret ?_
              obtain rfl := Option.some.inj hm
              exact (ret1 rfl rfl rfl ⟨rfl, T⟩)
          · replace hm := cT c666 hm
            refine cond_t rfl (vb rfl c666) ?_
            refine wp_seq ?_
            refine wp_rs rfl ?_
            refine RQ.y rfl (Y.assign (v := .bool false) rfl) ?_
            refine RQ.nil ?_
            refine then_n ?_
            refine wp_ret ?_
            obtain rfl := Option.some.inj hm
            exact (then_r (ret1 rfl rfl rfl ⟨rfl, T⟩))
  · replace hm := cT c14 hm
    have pc14 := of_decide_eq_true c14
    refine cond_t rfl (vb rfl c14) ?_
    refine wp_seq ?_
    refine wp_rs rfl ?_
    refine RQ.y rfl (Y.assign (v := .bool true) rfl) ?_
    refine RQ.nil ?_
    refine then_n ?_
    refine wp_ret ?_
    obtain rfl := Option.some.inj hm
    exact (then_r (ret1 rfl rfl rfl ⟨rfl, T⟩))
end
section
open Go.RowKit
set_option linter.unusedVariables false
/-- A loop that goes through the states st 0, st 1, .. and ends at st n. -/
theorem traj {σ ρ : Type} {L : Nat → σ → Option ρ} {st : Nat → σ} {n : Nat} {r : Option ρ} (h : ∀ g k, k < n → L (g + 1) (st k) = L g (st (k + 1))) (he : ∀ g, L (g + 1) (st n) = r) : ∀ g, n < g → L g (st 0) = r := by
  have key : ∀ d k g, k + d = n → d < g → L g (st k) = r := by
    intro d
    induction d with
    | zero =>
      intro k g hk hg
      obtain ⟨g, rfl⟩ : ∃ g', g = g' + 1 := ⟨g - 1, by omega⟩
      obtain rfl : k = n := by omega
      exact he g
    | succ d ih =>
      intro k g hk hg
      obtain ⟨g, rfl⟩ : ∃ g', g = g' + 1 := ⟨g - 1, by omega⟩
      rw [h g k (by omega)]
      exact ih (k + 1) g (by omega) (by omega)
  intro g hg
  exact key n 0 g (by omega) hg
/-- A loop over an index. -/
theorem trajI {ρ : Type} {L : Nat → Int → Option ρ} {n : Nat} {r : Option ρ} (h : ∀ g (k : Nat), k < n → L (g + 1) (k : Int) = L g ((k : Int) + 1)) (he : ∀ g, L (g + 1) (n : Int) = r) (g : Nat) (hg : n < g) : L g 0 = r :=
  traj (L := fun g (k : Nat) => L g (k : Int)) (st := fun k => k) (fun g k hk => by simpa using h g k hk) he g hg
open Classical in
/-- A loop that asks p of each index. -/
theorem allI {ρ : Type} {L : Nat → Int → Option ρ} {n : Nat} {p : Nat → Prop} {no K : Option ρ} (h1 : ∀ g (k : Nat), k < n → p k → L (g + 1) (k : Int) = L g ((k : Int) + 1)) (h2 : ∀ g (k : Nat), k < n → ¬ p k → L (g + 1) (k : Int) = no) (h3 : ∀ g, L (g + 1) (n : Int) = K) (g : Nat) (hg : n < g) :
    L g 0 = if ∀ k, k < n → p k then K else no := by
  by_cases ha : ∀ k, k < n → p k
  · rw [if_pos ha]
    exact trajI (fun g k hk => h1 g k hk (ha k hk)) h3 g hg
  · rw [if_neg ha]
    have hex : ∃ k, k < n ∧ ¬ p k := by
      apply Classical.byContradiction
      intro hn
      exact ha fun k hk => Classical.byContradiction fun hp => hn ⟨k, hk, hp⟩
    obtain ⟨m, ⟨hm, hpm⟩, hleast⟩ : ∃ m, (m < n ∧ ¬ p m) ∧ ∀ k, k < m → k < n → p k := by
      obtain ⟨k0, hk0⟩ := hex
      induction k0 using Nat.strongRecOn with
      | _ k0 ih =>
        by_cases h : ∃ k, k < k0 ∧ k < n ∧ ¬ p k
        · obtain ⟨k, hk, hk1⟩ := h
          exact ih k hk hk1
        · exact ⟨k0, hk0, fun k hk hkn => Classical.byContradiction fun hp => h ⟨k, hk, hkn, hp⟩⟩
    exact trajI (n := m) (fun g k hk => h1 g k (by omega) (hleast k hk (by omega))) (fun g => h2 g m hm hpm) g (by omega)
theorem allO {ρ : Type} {L : Nat → Int → Option ρ} {n : Nat} {p : Nat → Prop} {no K : Option ρ} (h1 : ∀ g (k : Nat), k < n → p k → L (g + 1) (k : Int) = L g ((k : Int) + 1)) (h2 : ∀ g (k : Nat), k < n → ¬ p k → L (g + 1) (k : Int) = no) (h3 : ∀ g, L (g + 1) (n : Int) = K) (g : Nat) (hg : n < g) :
    ((∀ k, k < n → p k) ∧ L g 0 = K) ∨ ((¬ ∀ k, k < n → p k) ∧ L g 0 = no) := by
  have h := allI h1 h2 h3 g hg
  by_cases ha : ∀ k, k < n → p k
  · rw [if_pos ha] at h; exact .inl ⟨ha, h⟩
  · rw [if_neg ha] at h; exact .inr ⟨ha, h⟩
theorem getI_lt {α : Type} {xs : List α} {k : Nat} (h : k < xs.length) : getI xs (k : Int) = some xs[k] := by simp [getI, h]
theorem dlt {k n : Nat} (h : k < n) : decide ((k : Int) < (n : Int)) = true := by simp; omega
theorem dge {n : Nat} : decide ((n : Int) < (n : Int)) = false := by simp
end
section
open Go.RowKit
set_option linter.unusedVariables false
def fieldsN (k : Int) (p : Nat) : Int := if k = 9 then (p : Int) - 1 else 0
def defIx (n : Int) : Bool := decide (0 ≤ n) && decide (n ≤ 23)
def int32B (n : Int) : Bool := decide (-2147483648 ≤ n) && decide (n ≤ 2147483647)
def operB (n : Int) : Bool := decide (1 ≤ n) && decide (n ≤ 6)
def content (k v : Int) (d : List Int) : Bool :=
  if k = 6 then decide (d.length = 0) && int32B v
  else if k = 7 then decide (d.length = 0) && operB v
  else if k = 8 then decide (d.length = 1) && operB v && int32B (d.getD 0 0)
  else if k = 9 then decide (d.length = 0) && (decide (0 ≤ v) && decide (v ≤ 3))
  else if k = 12 then decide (d.length = 0) && defIx v
  else if k = 10 then decide (v = 0) && (decide (1 ≤ d.length) && decide (d.length ≤ 4)) && d.all defIx
  else if k = 11 then decide (v = 0) && decide (d.length = 2) && d.all defIx
  else decide (v = 0) && decide (d.length = 0)
def agentOk (x : DAgent) : Bool := decide (0 < portsOf x.kind (fieldsN x.kind x.ports.length)) && decide ((x.ports.length : Int) = portsOf x.kind (fieldsN x.kind x.ports.length)) && allowed x.kind x.level && content x.kind x.value x.data
def AgentsOk (xs : List DAgent) : Prop := 1 ≤ xs.length ∧ xs.length ≤ 600 ∧ ∀ (i : Nat) (x : DAgent), xs[i]? = some x → agentOk x = true ∧ decide (x.kind = 1) = decide (i = 0)
open Classical in
noncomputable def agentsOk (xs : List DAgent) : Bool := decide (AgentsOk xs)
def agentAt (xs : List DAgent) (i : Int) : DAgent := xs.getD i.toNat default
def hasPort (xs : List DAgent) (p : DPort) : Bool := decide (0 ≤ p.agent) && decide (p.agent < xs.length) && decide (0 ≤ p.slot) && decide (p.slot < (agentAt xs p.agent).ports.length)
def peer (xs : List DAgent) (p : DPort) : DPort := (agentAt xs p.agent).ports.getD p.slot.toNat default
def badPort (xs : List DAgent) (p : DPort) : Bool := decide (peer xs p = p) || !hasPort xs (peer xs p) || !decide (peer xs (peer xs p) = p)
def PortsOk (xs : List DAgent) : Prop := ∀ (i : Nat) (x : DAgent), xs[i]? = some x → ∀ k : Nat, k < x.ports.length → badPort xs ⟨i, k⟩ = false
open Classical in
noncomputable def validNet (x : DNet) : Bool := decide (AgentsOk x.agents ∧ PortsOk x.agents)
/-- All ports in order. -/
def agentPorts (i : Nat) (x : DAgent) : List DPort := (List.range x.ports.length).map fun (k : Nat) => ⟨i, k⟩
def portsFrom : Nat → List DAgent → List DPort
  | _, [] => []
  | i, x :: xs => agentPorts i x ++ portsFrom (i + 1) xs
def allPorts (xs : List DAgent) : List DPort := portsFrom 0 xs
theorem portsFrom_append : ∀ (i : Nat) (xs ys : List DAgent), portsFrom i (xs ++ ys) = portsFrom i xs ++ portsFrom (i + xs.length) ys
  | i, [], ys => by simp [portsFrom]
  | i, x :: xs, ys => by simp [portsFrom, portsFrom_append (i + 1) xs ys, Nat.add_assoc, Nat.add_comm 1]
theorem allPorts_take {xs : List DAgent} {i : Nat} {x : DAgent} (h : xs[i]? = some x) : allPorts (xs.take (i + 1)) = allPorts (xs.take i) ++ agentPorts i x := by
  rw [take_succ_some h, allPorts, portsFrom_append]
  have hl : (xs.take i).length = i := by have := lt_of_some h; simp; omega
  simp [allPorts, portsFrom, hl]
theorem mem_portsFrom : ∀ {i : Nat} {xs : List DAgent} {p : DPort}, p ∈ portsFrom i xs ↔ ∃ (j : Nat) (x : DAgent) (k : Nat), xs[j]? = some x ∧ k < x.ports.length ∧ p = ⟨((i + j : Nat) : Int), (k : Nat)⟩
  | i, [], p => by simp [portsFrom]
  | i, y :: ys, p => by
    rw [portsFrom, List.mem_append, mem_portsFrom]
    constructor
    · rintro (h | ⟨j, x, k, h1, h2, h3⟩)
      · simp only [agentPorts, List.mem_map, List.mem_range] at h
        obtain ⟨k, hk, rfl⟩ := h
        exact ⟨0, y, k, rfl, hk, rfl⟩
      · exact ⟨j + 1, x, k, by simpa using h1, h2, by rw [h3]; congr 2; omega⟩
    · rintro ⟨j, x, k, h1, h2, h3⟩
      cases j with
      | zero =>
        have : y = x := by simpa using h1
        subst this
        exact .inl (by simp only [agentPorts, List.mem_map, List.mem_range]; exact ⟨k, h2, h3.symm⟩)
      | succ j => exact .inr ⟨j, x, k, by simpa using h1, h2, by rw [h3]; congr 2; omega⟩
theorem any_allPorts (xs : List DAgent) : (allPorts xs).any (badPort xs) = false ↔ PortsOk xs := by
  rw [List.any_eq_false]
  constructor
  · intro h i x hx k hk
    have := h ⟨i, k⟩ (mem_portsFrom.2 ⟨i, x, k, hx, hk, by simp⟩)
    simpa using this
  · intro h p hp
    obtain ⟨j, x, k, h1, h2, rfl⟩ := mem_portsFrom.1 hp
    have := h j x h1 k h2
    simpa using this
theorem hasPort_at {xs : List DAgent} {p : DPort} (h : hasPort xs p = true) : ∃ (i k : Nat) (x : DAgent), p = ⟨(i : Nat), (k : Nat)⟩ ∧ xs[i]? = some x ∧ k < x.ports.length ∧ agentAt xs p.agent = x := by
  obtain ⟨a, s⟩ := p
  simp only [hasPort, Bool.and_eq_true, decide_eq_true_eq] at h
  obtain ⟨⟨⟨h1, h2⟩, h3⟩, h4⟩ := h
  obtain ⟨i, rfl⟩ := Int.eq_ofNat_of_zero_le h1
  obtain ⟨k, rfl⟩ := Int.eq_ofNat_of_zero_le h3
  have hi : i < xs.length := by omega
  refine ⟨i, k, xs[i], rfl, by simp [hi], ?_, by simp [agentAt, List.getD, hi]⟩
  have : agentAt xs (i : Int) = xs[i] := by simp [agentAt, List.getD, hi]
  rw [this] at h4
  omega
theorem hasPort_of {xs : List DAgent} {i k : Nat} {x : DAgent} (h : xs[i]? = some x) (hk : k < x.ports.length) : hasPort xs ⟨i, k⟩ = true := by
  have hi := lt_of_some h
  have : agentAt xs (i : Int) = x := by simp [agentAt, List.getD, h]
  simp [hasPort, this]
  omega
theorem peer_of {xs : List DAgent} {i k : Nat} {x : DAgent} {q : DPort} (h : xs[i]? = some x) (hk : x.ports[k]? = some q) : peer xs ⟨i, k⟩ = q := by
  have : agentAt xs (i : Int) = x := by simp [agentAt, List.getD, h]
  simp [peer, this, List.getD, hk]
end
section
open Go.RowKit
set_option linter.unusedVariables false
set_option linter.unusedSimpArgs false
theorem allDef {xs : List Int} : (∀ k, k < xs.length → ∃ x, xs[k]? = some x ∧ defIx x = true) ↔ xs.all defIx = true := by
  rw [List.all_eq_true]
  constructor
  · intro h x hx
    obtain ⟨k, hk, rfl⟩ := List.getElem_of_mem hx
    obtain ⟨y, hy, hd⟩ := h k hk
    rw [List.getElem?_eq_getElem hk] at hy
    injection hy with hy
    rw [hy]; exact hd
  · intro h k hk
    exact ⟨xs[k], List.getElem?_eq_getElem hk, h _ (List.getElem_mem _)⟩
theorem inR_def (x : Int) : inR x 0 23 = defIx x := rfl
theorem content_L1 (x : DAgent) (g : Nat) (hg : x.data.length < g) : m_spec_l11Content_L1 x m_spec_l11Content_A1 g 0 = some (x.data.all defIx) := by
  have h := allI (L := m_spec_l11Content_L1 x m_spec_l11Content_A1) (n := x.data.length) (p := fun k => ∃ y, x.data[k]? = some y ∧ defIx y = true) (no := some false) (K := some true)
    (fun g k hk ⟨y, hy, hd⟩ => by simp [m_spec_l11Content_L1, m_spec_l11Content_B1, hk, getI_nat hy, m_spec_l11Def, inR_def, hd])
    (fun g k hk hn => by
      have hd : defIx x.data[k] = false := by
        cases h : defIx x.data[k] with
        | false => rfl
        | true => exact absurd ⟨_, List.getElem?_eq_getElem hk, h⟩ hn
      simp [m_spec_l11Content_L1, m_spec_l11Content_B1, hk, getI_lt hk, m_spec_l11Def, inR_def, hd])
    (fun g => by simp [m_spec_l11Content_L1, m_spec_l11Content_B1, m_spec_l11Content_A1]) g hg
  rw [h]
  by_cases ha : x.data.all defIx = true
  · rw [if_pos (allDef.2 ha), ha]
  · rw [if_neg (fun hh => ha (allDef.1 hh))]; simp at ha ⊢; exact ha
theorem content_L2 (x : DAgent) (g : Nat) (hg : x.data.length < g) : m_spec_l11Content_L2 x m_spec_l11Content_A2 g 0 = some (x.data.all defIx) := by
  have h := allI (L := m_spec_l11Content_L2 x m_spec_l11Content_A2) (n := x.data.length) (p := fun k => ∃ y, x.data[k]? = some y ∧ defIx y = true) (no := some false) (K := some true)
    (fun g k hk ⟨y, hy, hd⟩ => by simp [m_spec_l11Content_L2, m_spec_l11Content_B2, hk, getI_nat hy, m_spec_l11Def, inR_def, hd])
    (fun g k hk hn => by
      have hd : defIx x.data[k] = false := by
        cases h : defIx x.data[k] with
        | false => rfl
        | true => exact absurd ⟨_, List.getElem?_eq_getElem hk, h⟩ hn
      simp [m_spec_l11Content_L2, m_spec_l11Content_B2, hk, getI_lt hk, m_spec_l11Def, inR_def, hd])
    (fun g => by simp [m_spec_l11Content_L2, m_spec_l11Content_B2, m_spec_l11Content_A2]) g hg
  rw [h]
  by_cases ha : x.data.all defIx = true
  · rw [if_pos (allDef.2 ha), ha]
  · rw [if_neg (fun hh => ha (allDef.1 hh))]; simp at ha ⊢; exact ha
theorem p_content (x : DAgent) : m_spec_l11Content x = some (content x.kind x.value x.data) := by
  have l1 := content_L1 x (x.data.length + 1) (by omega)
  have l2 := content_L2 x (x.data.length + 1) (by omega)
  have i2 : ((x.data.length : Int) = 2) ↔ x.data.length = 2 := by omega
  have i1 : ((x.data.length : Int) = 1) ↔ x.data.length = 1 := by omega
  have i14 : inR (x.data.length : Int) 1 4 = (decide (1 ≤ x.data.length) && decide (x.data.length ≤ 4)) := by
    rw [Bool.eq_iff_iff]; simp [inR]; omega
  have hI : ∀ y, inR y (-2147483648) 2147483647 = int32B y := fun _ => rfl
  have hO : inR x.value 1 6 = operB x.value := rfl
  unfold m_spec_l11Content content
  simp only [hI, hO, l1, l2, m_spec_l11Def, inR_def, Bool.cond_eq_ite, beq_iff_eq, bne_iff_ne, ne_eq, i14, i1, i2]
  by_cases h8 : x.kind = 8
  · by_cases h0 : x.data.length = 1
    · obtain ⟨y, hy⟩ : ∃ y, x.data = [y] := List.length_eq_one_iff.1 h0
      simp only [h8, hy]
      cases ho : operB x.value <;> simp [getI]
    · simp [h8, h0]
  by_cases h6 : x.kind = 6
  · by_cases h0 : x.data.length = 0 <;> simp [h6, h0]
  by_cases h7 : x.kind = 7
  · by_cases h0 : x.data.length = 0 <;> simp [h7, h0]
  by_cases h9 : x.kind = 9
  · by_cases h0 : x.data.length = 0 <;> simp [h9, h0, inR]
  by_cases h12 : x.kind = 12
  · by_cases h0 : x.data.length = 0 <;> simp [h12, h0]
  by_cases h10 : x.kind = 10
  · by_cases hv : x.value = 0 <;> by_cases n1 : 1 ≤ x.data.length <;> by_cases n4 : x.data.length ≤ 4 <;> simp [h10, hv, n1, n4]
  by_cases h11 : x.kind = 11
  · by_cases hv : x.value = 0 <;> by_cases hn : x.data.length = 2 <;> simp [h11, hv, hn]
  by_cases hv : x.value = 0 <;> by_cases h0 : x.data.length = 0 <;> simp [h6, h7, h8, h9, h10, h11, h12, hv, h0]
theorem p_fields (x : DAgent) (hp : x.ports.length ≤ 9223372036854775807) : m_spec_l11Fields x = some (fieldsN x.kind x.ports.length) := by
  unfold m_spec_l11Fields fieldsN
  simp only [Bool.cond_eq_ite, beq_iff_eq]
  by_cases h : x.kind = 9
  · simp [h, ck_ok (n := (x.ports.length : Int) - 1) (by omega)]
  · simp [h]
theorem p_agent (x : DAgent) (hp : x.ports.length ≤ 9223372036854775807) : m_spec_l11Agent x = some (agentOk x) := by
  unfold m_spec_l11Agent agentOk
  simp only [p_fields x hp, Option.bind_some, p_content, Bool.cond_eq_ite, beq_iff_eq, decide_eq_true_eq]
  generalize portsOf x.kind (fieldsN x.kind x.ports.length) = p
  by_cases h1 : p > 0
  · have h1' : 0 < p := h1
    by_cases h2 : (x.ports.length : Int) = p
    · cases h3 : allowed x.kind x.level <;> simp [h1, h1', h2]
    · simp [h1, h1', h2]
  · have h1' : ¬ 0 < p := h1
    simp [h1, h1']
theorem p_ifields (k : Int) (n : Nat) (hn : n ≤ 9223372036854775807) : m_impl_fieldsOf k (n : Int) = some (fieldsN k n) := by
  unfold m_impl_fieldsOf fieldsN
  simp only [Bool.cond_eq_ite, beq_iff_eq]
  by_cases h : k = 9
  · simp [h, ck_ok (n := (n : Int) - 1) (by omega)]
  · simp [h]
theorem p_isDef (n : Int) : m_impl_isDefIndex n = some (defIx n) := by
  unfold m_impl_isDefIndex defIx
  simp only [Bool.cond_eq_ite, decide_eq_true_eq]
  by_cases h : 0 ≤ n <;> simp [h] <;> omega
theorem p_isInt (n : Int) : m_impl_isInt n = some (int32B n) := by
  unfold m_impl_isInt int32B
  simp only [Bool.cond_eq_ite, decide_eq_true_eq]
  by_cases h : -2147483648 ≤ n <;> simp [h]
theorem p_isOper (n : Int) : m_impl_isOperator n = some (operB n) := by
  unfold m_impl_isOperator operB
  simp only [Bool.cond_eq_ite, decide_eq_true_eq]
  by_cases h : 1 ≤ n <;> simp [h]
theorem p_index_int (d : List Int) (p : Int → Option Bool) (q : Int → Bool) (h : ∀ x ∈ d, p x = some (q x)) : ∃ i, m_slices_IndexFunc_int64_int64 d p = some i ∧ decide (i ≥ 0) = d.any q := by
  unfold m_slices_IndexFunc_int64_int64
  by_cases ha : ∃ k, k < d.length ∧ ∃ x, d[k]? = some x ∧ q x = true
  · obtain ⟨m, ⟨hm, x, hx, hq⟩, hl⟩ : ∃ m, (m < d.length ∧ ∃ x, d[m]? = some x ∧ q x = true) ∧ ∀ k, k < m → ∀ y, d[k]? = some y → q y = false := by
      obtain ⟨k0, hk0⟩ := ha
      induction k0 using Nat.strongRecOn with
      | _ k0 ih =>
        by_cases hh : ∃ k, k < k0 ∧ k < d.length ∧ ∃ x, d[k]? = some x ∧ q x = true
        · obtain ⟨k, hk, hk1⟩ := hh; exact ih k hk hk1
        · exact ⟨k0, hk0, fun k hk y hy => by
            cases hq : q y with
            | false => rfl
            | true => exact absurd ⟨k, hk, lt_of_some hy, y, hy, hq⟩ hh⟩
    refine ⟨m, ?_, ?_⟩
    · refine trajI (n := m) (fun g k hk => ?_) (fun g => ?_) _ (by omega)
      · have hkl : k < d.length := by omega
        have hy := List.getElem?_eq_getElem hkl
        simp [m_slices_IndexFunc_int64_int64_L1, m_slices_IndexFunc_int64_int64_B1, hkl, getI_lt hkl, h _ (List.getElem_mem hkl), hl k hk _ hy]
      · have hmem := List.mem_of_getElem? hx
        simp [m_slices_IndexFunc_int64_int64_L1, m_slices_IndexFunc_int64_int64_B1, hm, getI_nat hx, h _ hmem, hq]
    · have : d.any q = true := List.any_eq_true.2 ⟨x, List.mem_of_getElem? hx, hq⟩
      rw [this]; simp
  · refine ⟨-1, ?_, ?_⟩
    · refine trajI (n := d.length) (fun g k hk => ?_) (fun g => ?_) _ (by omega)
      · have hq : q d[k] = false := by
          cases hq : q d[k] with
          | false => rfl
          | true => exact absurd ⟨k, hk, _, List.getElem?_eq_getElem hk, hq⟩ ha
        simp [m_slices_IndexFunc_int64_int64_L1, m_slices_IndexFunc_int64_int64_B1, hk, getI_lt hk, h _ (List.getElem_mem hk), hq]
      · simp [m_slices_IndexFunc_int64_int64_L1, m_slices_IndexFunc_int64_int64_B1, m_slices_IndexFunc_int64_int64_A1]
    · have : d.any q = false := List.any_eq_false.2 fun x hx hq => by
        obtain ⟨k, hk, rfl⟩ := List.getElem_of_mem hx
        exact ha ⟨k, hk, _, List.getElem?_eq_getElem hk, hq⟩
      rw [this]; simp
theorem p_contains_int (d : List Int) (p : Int → Option Bool) (q : Int → Bool) (h : ∀ x ∈ d, p x = some (q x)) : m_slices_ContainsFunc_int64_int64 d p = some (d.any q) := by
  obtain ⟨i, h1, h2⟩ := p_index_int d p q h
  simp -implicitDefEqProofs only [m_slices_ContainsFunc_int64_int64, h1, Option.bind_some, h2]
theorem p_wellFormed (x : DAgent) (hp : x.ports.length ≤ 9223372036854775807) : m_impl_wellFormed x = some (agentOk x) := by
  have hc := p_contains_int x.data (fun x0 => m_impl_wellFormed_1 x0) (fun x0 => !defIx x0) (fun y _ => by simp [m_impl_wellFormed_1, p_isDef])
  have hall : x.data.all defIx = !(x.data.any fun x0 => !defIx x0) := by rw [List.not_any_eq_all_not]; simp
  have e0 : ((x.data.length : Int) == 0) = decide (x.data.length = 0) := by rw [Bool.eq_iff_iff]; simp
  have i2 : ((x.data.length : Int) = 2) ↔ x.data.length = 2 := by omega
  have i1 : ((x.data.length : Int) = 1) ↔ x.data.length = 1 := by omega
  have g1 : ((x.data.length : Int) ≥ 1) ↔ 1 ≤ x.data.length := by omega
  have g4 : ((x.data.length : Int) ≤ 4) ↔ x.data.length ≤ 4 := by omega
  have ip : ((x.ports.length : Int) = 0) ↔ x.ports.length = 0 := by omega
  unfold m_impl_wellFormed agentOk
  simp only [p_ifields _ _ hp, Option.bind_some, hc, p_isInt, p_isOper, p_isDef, content, hall, e0, Bool.cond_eq_ite, beq_iff_eq, bne_iff_ne, ne_eq, decide_eq_true_eq, i1, i2, ip, g1, g4, ge_iff_le]
  generalize hp0 : portsOf x.kind (fieldsN x.kind x.ports.length) = p
  by_cases h0 : x.ports.length = 0
  · by_cases h1 : 0 < p
    · have : ¬ (x.ports.length : Int) = p := by omega
      simp [h0]; intro h2; omega
    · simp [h0, h1]
  by_cases h2 : p = (x.ports.length : Int)
  case neg =>
    have h2' : ¬ (x.ports.length : Int) = p := fun e => h2 e.symm
    simp [h0, h2, h2']
  have hpos : 0 < x.ports.length := by omega
  have v4 : x.value < 4 ↔ x.value ≤ 3 := by omega
  subst h2
  generalize hany : (x.data.any fun x0 => !defIx x0) = anyb
  cases h3 : allowed x.kind x.level
  · simp [h0]
  by_cases k6 : x.kind = 6
  · cases hi : int32B x.value <;> simp [h0, hpos, k6]
  by_cases k7 : x.kind = 7
  · cases hi : operB x.value <;> simp [h0, hpos, k7]
  by_cases k8 : x.kind = 8
  · by_cases hd : x.data.length = 1
    · obtain ⟨y, hy⟩ : ∃ y, x.data = [y] := List.length_eq_one_iff.1 hd
      cases hi : operB x.value <;> simp [h0, hpos, k8, hy, getI]
    · cases hi : operB x.value <;> simp [h0, hpos, k8, hd]
  by_cases k9 : x.kind = 9
  · by_cases v0 : 0 ≤ x.value <;> by_cases v3 : x.value ≤ 3
    all_goals simp [h0, hpos, k9, v0, v3, v4]
  by_cases k10 : x.kind = 10
  · by_cases v0 : x.value = 0 <;> by_cases n1 : 1 ≤ x.data.length <;> by_cases n4 : x.data.length ≤ 4 <;> simp [h0, hpos, k10, v0, n1, n4]
  by_cases k11 : x.kind = 11
  · by_cases v0 : x.value = 0 <;> by_cases n2 : x.data.length = 2 <;> simp [h0, hpos, k11, v0, n2]
  by_cases k12 : x.kind = 12
  · cases hi : defIx x.value <;> simp [h0, hpos, k12]
  by_cases v0 : x.value = 0 <;> simp [h0, hpos, k6, k7, k8, k9, k10, k11, k12, v0]
theorem agentsOk_iff {xs : List DAgent} : agentsOk xs = true ↔ AgentsOk xs := by unfold agentsOk; simp
theorem agents_p {xs : List DAgent} : (∀ k, k < xs.length → ∃ x, xs[k]? = some x ∧ agentOk x = true ∧ decide (x.kind = 1) = decide (k = 0)) ↔ ∀ (i : Nat) (x : DAgent), xs[i]? = some x → agentOk x = true ∧ decide (x.kind = 1) = decide (i = 0) := by
  constructor
  · intro h i x hx
    obtain ⟨y, hy, h1⟩ := h i (lt_of_some hx)
    rw [hx] at hy; injection hy with hy; subst hy; exact h1
  · intro h k hk
    exact ⟨xs[k], List.getElem?_eq_getElem hk, h k _ (List.getElem?_eq_getElem hk)⟩
theorem kind_ne (k : Int) (i : Nat) : ((k == 1) != ((i : Int) == 0)) = !(decide (decide (k = 1) = decide (i = 0))) := by
  have e1 : (k == 1) = decide (k = 1) := by rw [Bool.eq_iff_iff]; simp
  have e2 : ((i : Int) == 0) = decide (i = 0) := by rw [Bool.eq_iff_iff]; simp
  rw [e1, e2]
  cases decide (k = 1) <;> cases decide (i = 0) <;> rfl
open Classical in
theorem p_agents (xs : List DAgent) (hb : ∀ x ∈ xs, x.ports.length ≤ 9223372036854775807) : m_spec_l11Agents xs = some (agentsOk xs) := by
  unfold m_spec_l11Agents
  by_cases hl : 1 ≤ xs.length ∧ xs.length ≤ 600
  · have h0 : inR (xs.length : Int) 1 600 = true := by simp [inR]; omega
    rw [h0, cond_true]
    have h := allI (L := m_spec_l11Agents_L1 xs m_spec_l11Agents_A1) (n := xs.length) (p := fun k => ∃ x, xs[k]? = some x ∧ agentOk x = true ∧ decide (x.kind = 1) = decide (k = 0)) (no := some false) (K := some true)
      (fun g k hk ⟨x, hx, h1, h2⟩ => by
        have hm := hb x (List.mem_of_getElem? hx)
        simp [m_spec_l11Agents_L1, m_spec_l11Agents_B1, hk, getI_nat hx, p_agent x hm, h1, kind_ne, h2])
      (fun g k hk hn => by
        have hx := List.getElem?_eq_getElem hk
        have hm := hb _ (List.getElem_mem hk)
        cases h1 : agentOk xs[k] with
        | false => simp [m_spec_l11Agents_L1, m_spec_l11Agents_B1, hk, getI_lt hk, p_agent _ hm, h1]
        | true =>
          have h2 : ¬ decide (xs[k].kind = 1) = decide (k = 0) := fun h2 => hn ⟨_, hx, h1, h2⟩
          simp -implicitDefEqProofs only [m_spec_l11Agents_L1, m_spec_l11Agents_B1, dlt hk, cond_true, getI_lt hk, Option.bind_some, p_agent _ hm, h1, kind_ne, decide_eq_false h2, Bool.not_false, Bool.not_true, Bool.or_true, Bool.false_or, cond_false])
      (fun g => by simp [m_spec_l11Agents_L1, m_spec_l11Agents_B1, m_spec_l11Agents_A1]) (xs.length + 1) (by omega)
    rw [h]
    by_cases ha : ∀ k, k < xs.length → ∃ x, xs[k]? = some x ∧ agentOk x = true ∧ decide (x.kind = 1) = decide (k = 0)
    · rw [if_pos ha, agentsOk_iff.2 ⟨hl.1, hl.2, agents_p.1 ha⟩]
    · rw [if_neg ha]
      cases hc : agentsOk xs with
      | false => rfl
      | true => exact absurd (agents_p.2 (agentsOk_iff.1 hc).2.2) ha
  · have h0 : inR (xs.length : Int) 1 600 = false := by simp [inR]; omega
    rw [h0, cond_false]
    cases hc : agentsOk xs with
    | false => rfl
    | true => exact absurd ⟨(agentsOk_iff.1 hc).1, (agentsOk_iff.1 hc).2.1⟩ hl
open Classical in
theorem p_areAgents (xs : List DAgent) (hb : ∀ x ∈ xs, x.ports.length ≤ 9223372036854775807) : m_impl_areAgents xs = some (agentsOk xs) := by
  unfold m_impl_areAgents
  by_cases hl : 1 ≤ xs.length ∧ xs.length ≤ 600
  · have h0 : decide ((xs.length : Int) < 1) = false := by simp; omega
    have h0' : decide ((xs.length : Int) > 600) = false := by simp; omega
    rw [h0, h0', cond_false, cond_false]
    have h := allI (L := m_impl_areAgents_L1 xs m_impl_areAgents_A1) (n := xs.length) (p := fun k => ∃ x, xs[k]? = some x ∧ agentOk x = true ∧ decide (x.kind = 1) = decide (k = 0)) (no := some false) (K := some true)
      (fun g k hk ⟨x, hx, h1, h2⟩ => by
        have hm := hb x (List.mem_of_getElem? hx)
        simp [m_impl_areAgents_L1, m_impl_areAgents_B1, hk, getI_nat hx, p_wellFormed x hm, h1, kind_ne, h2])
      (fun g k hk hn => by
        have hx := List.getElem?_eq_getElem hk
        have hm := hb _ (List.getElem_mem hk)
        cases h1 : agentOk xs[k] with
        | false => simp [m_impl_areAgents_L1, m_impl_areAgents_B1, hk, getI_lt hk, p_wellFormed _ hm, h1]
        | true =>
          have h2 : ¬ decide (xs[k].kind = 1) = decide (k = 0) := fun h2 => hn ⟨_, hx, h1, h2⟩
          simp -implicitDefEqProofs only [m_impl_areAgents_L1, m_impl_areAgents_B1, dlt hk, cond_true, getI_lt hk, Option.bind_some, p_wellFormed _ hm, h1, kind_ne, decide_eq_false h2, Bool.not_false, Bool.not_true, Bool.or_true, Bool.false_or, cond_false])
      (fun g => by simp [m_impl_areAgents_L1, m_impl_areAgents_B1, m_impl_areAgents_A1]) (xs.length + 1) (by omega)
    rw [h]
    by_cases ha : ∀ k, k < xs.length → ∃ x, xs[k]? = some x ∧ agentOk x = true ∧ decide (x.kind = 1) = decide (k = 0)
    · rw [if_pos ha, agentsOk_iff.2 ⟨hl.1, hl.2, agents_p.1 ha⟩]
    · rw [if_neg ha]
      cases hc : agentsOk xs with
      | false => rfl
      | true => exact absurd (agents_p.2 (agentsOk_iff.1 hc).2.2) ha
  · have hc : agentsOk xs = false := by
      cases hc : agentsOk xs with
      | false => rfl
      | true => exact absurd ⟨(agentsOk_iff.1 hc).1, (agentsOk_iff.1 hc).2.1⟩ hl
    by_cases h1 : xs.length < 1
    · have h0 : decide ((xs.length : Int) < 1) = true := by simp; omega
      rw [h0, cond_true, hc]
    · have h0 : decide ((xs.length : Int) < 1) = false := by simp; omega
      have h0' : decide ((xs.length : Int) > 600) = true := by simp; omega
      rw [h0, h0', cond_false, cond_true, hc]
/-- No list is longer than what a net of the laws may hold. -/
def Small (xs : List DAgent) : Prop := szAgentS xs ≤ 1048576
theorem Small.len {xs : List DAgent} (h : Small xs) : xs.length ≤ 1048576 := by unfold Small szAgentS at h; omega
theorem sum_mem {α : Type} {f : α → Nat} {xs : List α} {x : α} (h : x ∈ xs) : f x ≤ (xs.map f).sum := by
  induction xs with
  | nil => cases h
  | cons y ys ih =>
    rcases List.mem_cons.1 h with rfl | h
    · simp
    · have := ih h; simp; omega
theorem Small.ports {xs : List DAgent} (h : Small xs) {x : DAgent} (hx : x ∈ xs) : x.ports.length ≤ 1048576 := by
  have := sum_mem (f := szAgent) hx
  have e : szAgent x = x.data.length + x.ports.length := rfl
  unfold Small szAgentS at h; omega
theorem Small.ports' {xs : List DAgent} (h : Small xs) : ∀ x ∈ xs, x.ports.length ≤ 9223372036854775807 := fun x hx => by have := h.ports hx; omega
theorem portsFrom_len : ∀ (i : Nat) (xs : List DAgent), (portsFrom i xs).length ≤ (xs.map szAgent).sum
  | _, [] => by simp [portsFrom]
  | i, x :: xs => by have := portsFrom_len (i + 1) xs; simp [portsFrom, agentPorts, szAgent]; omega
theorem Small.all {xs : List DAgent} (h : Small xs) : (allPorts xs).length ≤ 1048576 := by
  have := portsFrom_len 0 xs
  unfold Small szAgentS at h; unfold allPorts; omega
theorem agentAt_nat {xs : List DAgent} {k : Nat} {x : DAgent} (h : xs[k]? = some x) : agentAt xs (k : Int) = x := by simp [agentAt, List.getD, h]
theorem p_port (xs : List DAgent) (p : DPort) (h : Small xs) : m_spec_l11Port xs p = some (hasPort xs p) := by
  unfold m_spec_l11Port
  have hl := h.len
  rw [ck_ok (by omega), Option.bind_some]
  by_cases ha : 0 ≤ p.agent ∧ p.agent < xs.length
  · obtain ⟨k, hk⟩ := Int.eq_ofNat_of_zero_le ha.1
    have hkl : k < xs.length := by omega
    have h0 : inR p.agent 0 ((xs.length : Int) - 1) = true := by simp [inR]; omega
    have hx := List.getElem?_eq_getElem hkl
    have hp := h.ports (List.getElem_mem hkl)
    rw [h0, cond_true, hk, getI_nat hx, Option.bind_some, ck_ok (by omega), Option.bind_some]
    congr 1
    rw [Bool.eq_iff_iff]
    simp [inR, hasPort, hk, agentAt_nat hx]
    omega
  · have h0 : inR p.agent 0 ((xs.length : Int) - 1) = false := by simp [inR]; omega
    rw [h0, cond_false]
    congr 1
    simp [hasPort]
    omega
theorem p_hasPort (xs : List DAgent) (p : DPort) : m_impl_hasPort xs p = some (hasPort xs p) := by
  unfold m_impl_hasPort
  by_cases h1 : 0 ≤ p.agent
  · by_cases h2 : p.agent < xs.length
    · by_cases h3 : 0 ≤ p.slot
      · obtain ⟨k, hk⟩ := Int.eq_ofNat_of_zero_le h1
        have hkl : k < xs.length := by omega
        have hx := List.getElem?_eq_getElem hkl
        simp [h3, hk, hkl, hasPort, getI_nat hx, agentAt_nat hx]
      · simp [h1, h2, h3, hasPort]
    · simp [h1, h2, hasPort]
  · simp [h1, hasPort]
theorem p_peer {xs : List DAgent} {p : DPort} (h : hasPort xs p = true) : m_impl_Net_peer ⟨xs⟩ p = some (peer xs p) := by
  obtain ⟨i, k, x, rfl, hx, hk, ha⟩ := hasPort_at h
  have hy := List.getElem?_eq_getElem hk
  simp [m_impl_Net_peer, getI_nat hx, getI_nat hy, peer_of hx hy]
theorem p_speer {xs : List DAgent} {p : DPort} (h : hasPort xs p = true) : m_spec_l11Peer ⟨xs⟩ p = some (peer xs p) := p_peer h
theorem port_eq (q p : DPort) : (q.agent == p.agent && q.slot == p.slot) = decide (q = p) := by
  rw [Bool.eq_iff_iff]
  cases q; cases p; simp
theorem badPort_at {xs : List DAgent} {i k : Nat} {x : DAgent} {q : DPort} (hx : xs[i]? = some x) (hq : x.ports[k]? = some q) : badPort xs ⟨i, k⟩ = (decide (q = ⟨i, k⟩) || !hasPort xs q || !decide (peer xs q = ⟨i, k⟩)) := by
  unfold badPort; rw [peer_of hx hq]
open Classical in
theorem p_ok_inner {xs : List DAgent} (hs : Small xs) {i : Nat} {x : DAgent} (hx : xs[i]? = some x) (rec : Int → Option Bool) (g : Nat) (hg : x.ports.length < g) :
    ((∀ k, k < x.ports.length → badPort xs ⟨i, k⟩ = false) ∧ m_spec_l11Ok_L2 ⟨xs⟩ (i : Int) x (m_spec_l11Ok_A2 rec (i : Int)) g 0 = rec ((i : Int) + 1)) ∨ ((¬ ∀ k, k < x.ports.length → badPort xs ⟨i, k⟩ = false) ∧ m_spec_l11Ok_L2 ⟨xs⟩ (i : Int) x (m_spec_l11Ok_A2 rec (i : Int)) g 0 = some false) := by
  have hi := lt_of_some hx
  have hl := hs.len
  refine (allO (L := m_spec_l11Ok_L2 ⟨xs⟩ (i : Int) x (m_spec_l11Ok_A2 rec (i : Int))) (n := x.ports.length) (p := fun k => badPort xs ⟨i, k⟩ = false) (no := some false) (K := rec ((i : Int) + 1)) ?_ ?_ ?_ g hg)
  · intro g k hk hb
    have hq := List.getElem?_eq_getElem hk
    rw [badPort_at hx hq] at hb
    simp only [Bool.or_eq_false_iff, Bool.not_eq_false', decide_eq_false_iff_not, decide_eq_true_eq] at hb
    obtain ⟨⟨h1, h2⟩, h3⟩ := hb
    obtain ⟨i2, k2, x2, he, hx2, hk2, _⟩ := hasPort_at h2
    have hq2 := List.getElem?_eq_getElem hk2
    have h1' : (x.ports[k].agent == (i : Int) && x.ports[k].slot == (k : Int)) = false := by
      have := port_eq x.ports[k] ⟨i, k⟩
      simp only at this
      rw [this]; simpa using h1
    have h3' : (x2.ports[k2].agent == (i : Int) && x2.ports[k2].slot == (k : Int)) = true := by
      have := port_eq x2.ports[k2] ⟨i, k⟩
      simp only at this
      rw [this]
      rw [he, peer_of hx2 hq2] at h3
      simpa using h3
    have ha : x.ports[k].agent = (i2 : Int) := by rw [he]
    have hsl : x.ports[k].slot = (k2 : Int) := by rw [he]
    have e1 : getI xs x.ports[k].agent = some x2 := by rw [ha]; exact getI_nat hx2
    have e2 : getI x2.ports x.ports[k].slot = some x2.ports[k2] := by rw [hsl]; exact getI_nat hq2
    simp -implicitDefEqProofs only [m_spec_l11Ok_L2, m_spec_l11Ok_B2, dlt hk, cond_true, getI_lt hk, Option.bind_some, h1', cond_false, p_port xs _ hs, h2, e1, e2, h3']
  · intro g k hk hb
    have hq := List.getElem?_eq_getElem hk
    have hb : badPort xs ⟨i, k⟩ = true := by simpa using hb
    rw [badPort_at hx hq] at hb
    have hE := port_eq x.ports[k] ⟨i, k⟩
    simp only at hE
    by_cases h1 : x.ports[k] = (⟨i, k⟩ : DPort)
    · have : (x.ports[k].agent == (i : Int) && x.ports[k].slot == (k : Int)) = true := by rw [hE]; simpa using h1
      simp -implicitDefEqProofs only [m_spec_l11Ok_L2, m_spec_l11Ok_B2, dlt hk, cond_true, getI_lt hk, Option.bind_some, this]
    · have h1' : (x.ports[k].agent == (i : Int) && x.ports[k].slot == (k : Int)) = false := by rw [hE]; simpa using h1
      cases h2 : hasPort xs x.ports[k] with
      | false => simp -implicitDefEqProofs only [m_spec_l11Ok_L2, m_spec_l11Ok_B2, dlt hk, cond_true, getI_lt hk, Option.bind_some, h1', cond_false, p_port xs _ hs, h2]
      | true =>
        have h3 : ¬ peer xs x.ports[k] = (⟨i, k⟩ : DPort) := by
          intro h3; rw [h2, h3] at hb; simp [h1] at hb
        obtain ⟨i2, k2, x2, he, hx2, hk2, _⟩ := hasPort_at h2
        have hq2 := List.getElem?_eq_getElem hk2
        have h3' : (x2.ports[k2].agent == (i : Int) && x2.ports[k2].slot == (k : Int)) = false := by
          have := port_eq x2.ports[k2] ⟨i, k⟩
          simp only at this
          rw [this]
          rw [he, peer_of hx2 hq2] at h3
          simpa using h3
        have ha : x.ports[k].agent = (i2 : Int) := by rw [he]
        have hsl : x.ports[k].slot = (k2 : Int) := by rw [he]
        have e1 : getI xs x.ports[k].agent = some x2 := by rw [ha]; exact getI_nat hx2
        have e2 : getI x2.ports x.ports[k].slot = some x2.ports[k2] := by rw [hsl]; exact getI_nat hq2
        simp -implicitDefEqProofs only [m_spec_l11Ok_L2, m_spec_l11Ok_B2, dlt hk, cond_true, getI_lt hk, Option.bind_some, h1', cond_false, p_port xs _ hs, h2, e1, e2, h3']
  · intro g
    simp -implicitDefEqProofs only [m_spec_l11Ok_L2, m_spec_l11Ok_B2, dge, cond_false, m_spec_l11Ok_A2]
    rw [ck_ok (by omega), Option.bind_some]
theorem portsOk_p {xs : List DAgent} : (∀ i, i < xs.length → ∃ x, xs[i]? = some x ∧ ∀ k, k < x.ports.length → badPort xs ⟨i, k⟩ = false) ↔ PortsOk xs := by
  constructor
  · intro h i x hx k hk
    obtain ⟨y, hy, h1⟩ := h i (lt_of_some hx)
    rw [hx] at hy; injection hy with hy; subst hy; exact h1 k hk
  · intro h i hi
    exact ⟨xs[i], List.getElem?_eq_getElem hi, fun k hk => h i _ (List.getElem?_eq_getElem hi) k hk⟩
theorem validNet_iff {x : DNet} : validNet x = true ↔ AgentsOk x.agents ∧ PortsOk x.agents := by unfold validNet; simp
open Classical in
theorem p_ok (d : DNet) (hs : Small d.agents) : m_spec_l11Ok d = some (validNet d) := by
  obtain ⟨xs⟩ := d
  have hs : Small xs := hs
  unfold m_spec_l11Ok
  rw [p_agents xs hs.ports', Option.bind_some]
  cases hag : agentsOk xs with
  | false =>
    rw [cond_false]
    cases hv : validNet ⟨xs⟩ with
    | false => rfl
    | true => rw [agentsOk_iff.2 (validNet_iff.1 hv).1] at hag; cases hag
  | true =>
    rw [cond_true]
    have h := allO (L := m_spec_l11Ok_L1 ⟨xs⟩ m_spec_l11Ok_A1) (n := xs.length) (p := fun i => ∃ x, xs[i]? = some x ∧ ∀ k, k < x.ports.length → badPort xs ⟨i, k⟩ = false) (no := some false) (K := some true)
      (fun g i hi ⟨x, hx, hp⟩ => by
        simp -implicitDefEqProofs only [m_spec_l11Ok_L1, m_spec_l11Ok_B1, dlt hi, cond_true, getI_nat hx, Option.bind_some]
        rcases p_ok_inner hs hx (m_spec_l11Ok_L1 ⟨xs⟩ m_spec_l11Ok_A1 g) _ (Nat.lt_succ_self _) with ⟨_, h⟩ | ⟨hn, _⟩
        · exact h
        · exact absurd hp hn)
      (fun g i hi hn => by
        have hx := List.getElem?_eq_getElem hi
        simp -implicitDefEqProofs only [m_spec_l11Ok_L1, m_spec_l11Ok_B1, dlt hi, cond_true, getI_lt hi, Option.bind_some]
        rcases p_ok_inner hs hx (m_spec_l11Ok_L1 ⟨xs⟩ m_spec_l11Ok_A1 g) _ (Nat.lt_succ_self _) with ⟨hp, _⟩ | ⟨_, h⟩
        · exact absurd ⟨_, hx, hp⟩ hn
        · exact h)
      (fun g => by simp -implicitDefEqProofs only [m_spec_l11Ok_L1, m_spec_l11Ok_B1, dge, cond_false, m_spec_l11Ok_A1]) (xs.length + 1) (Nat.lt_succ_self _)
    rcases h with ⟨ha, h⟩ | ⟨ha, h⟩
    · rw [validNet_iff.2 ⟨agentsOk_iff.1 hag, portsOk_p.1 ha⟩]; exact h
    · cases hv : validNet ⟨xs⟩ with
      | false => exact h
      | true => exact absurd (portsOk_p.2 (validNet_iff.1 hv).2) ha
theorem agentPorts_len (i : Nat) (x : DAgent) : (agentPorts i x).length = x.ports.length := by simp [agentPorts]
theorem p_ports_inner {i : Nat} {x : DAgent} (rec : List DPort → Int → Option (List DPort)) (acc : List DPort) (hb : acc.length + x.ports.length ≤ 4294967296) (hi : (i : Int) < 9223372036854775807) (g : Nat) (hg : x.ports.length < g) :
    m_impl_Net_ports_L2 (i : Int) x (m_impl_Net_ports_A2 rec (i : Int)) g acc 0 = rec (acc ++ agentPorts i x) ((i : Int) + 1) := by
  have h := traj (L := fun g (s : List DPort × Int) => m_impl_Net_ports_L2 (i : Int) x (m_impl_Net_ports_A2 rec (i : Int)) g s.1 s.2) (st := fun k => (acc ++ (List.range k).map (fun (j : Nat) => (⟨i, j⟩ : DPort)), (k : Int))) (n := x.ports.length) (r := rec (acc ++ agentPorts i x) ((i : Int) + 1))
    (fun g k hk => by
      simp -implicitDefEqProofs only [m_impl_Net_ports_L2, m_impl_Net_ports_B2, dlt hk, cond_true]
      rw [mustP_ok (by simp; omega), Option.bind_some]
      rw [List.range_succ, List.map_append, List.append_assoc]
      simp only [List.map_cons, List.map_nil, Int.natCast_add, Int.cast_ofNat_Int])
    (fun g => by
      simp -implicitDefEqProofs only [m_impl_Net_ports_L2, m_impl_Net_ports_B2, dge, cond_false, m_impl_Net_ports_A2]
      rw [ck_ok (by omega), Option.bind_some, agentPorts]) g hg
  simpa using h
theorem p_ports (d : DNet) (hs : Small d.agents) : m_impl_Net_ports d = some (allPorts d.agents) := by
  obtain ⟨xs⟩ := d
  have hs : Small xs := hs
  have hl := hs.len
  have ha := hs.all
  unfold m_impl_Net_ports
  have h := traj (L := fun g (s : List DPort × Int) => m_impl_Net_ports_L1 ⟨xs⟩ m_impl_Net_ports_A1 g s.1 s.2) (st := fun k => (allPorts (xs.take k), (k : Int))) (n := xs.length) (r := some (allPorts xs))
    (fun g k hk => by
      have hx := List.getElem?_eq_getElem hk
      have hlen : (allPorts (xs.take (k + 1))).length ≤ (allPorts xs).length := by
        have : allPorts xs = portsFrom 0 (xs.take (k + 1) ++ xs.drop (k + 1)) := by rw [List.take_append_drop]; rfl
        rw [this, portsFrom_append, List.length_append]
        exact Nat.le_add_right _ _
      rw [allPorts_take hx, List.length_append, agentPorts_len] at hlen
      simp -implicitDefEqProofs only [m_impl_Net_ports_L1, m_impl_Net_ports_B1, dlt hk, cond_true, getI_lt hk, Option.bind_some]
      rw [p_ports_inner (m_impl_Net_ports_L1 ⟨xs⟩ m_impl_Net_ports_A1 g) _ (by omega) (by omega) _ (Nat.lt_succ_self _), allPorts_take hx]
      simp only [Int.natCast_add, Int.cast_ofNat_Int])
    (fun g => by
      simp -implicitDefEqProofs only [m_impl_Net_ports_L1, m_impl_Net_ports_B1, dge, cond_false, m_impl_Net_ports_A1, List.take_length]) (xs.length + 1) (Nat.lt_succ_self _)
  exact h
theorem p_index_port (d : List DPort) (p : DPort → Option Bool) (q : DPort → Bool) (h : ∀ x ∈ d, p x = some (q x)) : ∃ i, m_slices_IndexFunc_impl_Port_impl_Port d p = some i ∧ decide (i ≥ 0) = d.any q := by
  unfold m_slices_IndexFunc_impl_Port_impl_Port
  by_cases ha : ∃ k, k < d.length ∧ ∃ x, d[k]? = some x ∧ q x = true
  · obtain ⟨m, ⟨hm, x, hx, hq⟩, hl⟩ : ∃ m, (m < d.length ∧ ∃ x, d[m]? = some x ∧ q x = true) ∧ ∀ k, k < m → ∀ y, d[k]? = some y → q y = false := by
      obtain ⟨k0, hk0⟩ := ha
      induction k0 using Nat.strongRecOn with
      | _ k0 ih =>
        by_cases hh : ∃ k, k < k0 ∧ k < d.length ∧ ∃ x, d[k]? = some x ∧ q x = true
        · obtain ⟨k, hk, hk1⟩ := hh; exact ih k hk hk1
        · exact ⟨k0, hk0, fun k hk y hy => by
            cases hq : q y with
            | false => rfl
            | true => exact absurd ⟨k, hk, lt_of_some hy, y, hy, hq⟩ hh⟩
    refine ⟨m, ?_, ?_⟩
    · refine trajI (n := m) (fun g k hk => ?_) (fun g => ?_) _ (by omega)
      · have hkl : k < d.length := by omega
        have hy := List.getElem?_eq_getElem hkl
        simp [m_slices_IndexFunc_impl_Port_impl_Port_L1, m_slices_IndexFunc_impl_Port_impl_Port_B1, hkl, getI_lt hkl, h _ (List.getElem_mem hkl), hl k hk _ hy]
      · have hmem := List.mem_of_getElem? hx
        simp [m_slices_IndexFunc_impl_Port_impl_Port_L1, m_slices_IndexFunc_impl_Port_impl_Port_B1, hm, getI_nat hx, h _ hmem, hq]
    · have : d.any q = true := List.any_eq_true.2 ⟨x, List.mem_of_getElem? hx, hq⟩
      rw [this]; simp
  · refine ⟨-1, ?_, ?_⟩
    · refine trajI (n := d.length) (fun g k hk => ?_) (fun g => ?_) _ (by omega)
      · have hq : q d[k] = false := by
          cases hq : q d[k] with
          | false => rfl
          | true => exact absurd ⟨k, hk, _, List.getElem?_eq_getElem hk, hq⟩ ha
        simp [m_slices_IndexFunc_impl_Port_impl_Port_L1, m_slices_IndexFunc_impl_Port_impl_Port_B1, hk, getI_lt hk, h _ (List.getElem_mem hk), hq]
      · simp [m_slices_IndexFunc_impl_Port_impl_Port_L1, m_slices_IndexFunc_impl_Port_impl_Port_B1, m_slices_IndexFunc_impl_Port_impl_Port_A1]
    · have : d.any q = false := List.any_eq_false.2 fun x hx hq => by
        obtain ⟨k, hk, rfl⟩ := List.getElem_of_mem hx
        exact ha ⟨k, hk, _, List.getElem?_eq_getElem hk, hq⟩
      rw [this]; simp
theorem p_contains_port (d : List DPort) (p : DPort → Option Bool) (q : DPort → Bool) (h : ∀ x ∈ d, p x = some (q x)) : m_slices_ContainsFunc_impl_Port_impl_Port d p = some (d.any q) := by
  obtain ⟨i, h1, h2⟩ := p_index_port d p q h
  simp -implicitDefEqProofs only [m_slices_ContainsFunc_impl_Port_impl_Port, h1, Option.bind_some, h2]
theorem p_valid1 {xs : List DAgent} {p : DPort} (h : hasPort xs p = true) : m_impl_ValidNet_1 p ⟨xs⟩ = some (badPort xs p) := by
  unfold m_impl_ValidNet_1 badPort
  rw [p_peer h, Option.bind_some, port_eq]
  by_cases h1 : peer xs p = p
  · simp [h1]
  · cases h2 : hasPort xs (peer xs p) with
    | false => simp [h1, p_hasPort, h2]
    | true => simp [h1, p_hasPort, h2, p_peer h2, port_eq]
theorem p_valid (d : DNet) (hs : Small d.agents) : m_impl_ValidNet d = some (validNet d) := by
  obtain ⟨xs⟩ := d
  have hs : Small xs := hs
  unfold m_impl_ValidNet
  rw [p_areAgents xs hs.ports', Option.bind_some]
  cases hag : agentsOk xs with
  | false =>
    rw [cond_false]
    cases hv : validNet ⟨xs⟩ with
    | false => rfl
    | true => rw [agentsOk_iff.2 (validNet_iff.1 hv).1] at hag; cases hag
  | true =>
    rw [cond_true, p_ports _ hs, Option.bind_some]
    have hc := p_contains_port (allPorts xs) (fun x0 => m_impl_ValidNet_1 x0 ⟨xs⟩) (badPort xs) (fun p hp => by
      obtain ⟨j, x, k, h1, h2, rfl⟩ := mem_portsFrom.1 hp
      have hh := hasPort_of h1 h2
      simp only [Nat.zero_add]
      exact p_valid1 hh)
    rw [hc, Option.bind_some]
    congr 1
    rw [Bool.eq_iff_iff, validNet_iff, Bool.not_eq_true', any_allPorts]
    exact ⟨fun h => ⟨agentsOk_iff.1 hag, h⟩, fun h => h.2⟩
end
section
open Go.RowKit
set_option linter.unusedVariables false
set_option linter.unusedSimpArgs false
noncomputable def peerOf (d : DNet) (p : DPort) : DPort × Int := bif validNet d then (bif hasPort d.agents p then (peer d.agents p, 0) else (⟨0, 0⟩, 2)) else (⟨0, 0⟩, 1)
theorem p_sPeerOf (d : DNet) (p : DPort) (hs : Small d.agents) : m_spec_PeerOf d p = some (peerOf d p) := by
  obtain ⟨xs⟩ := d
  have hs : Small xs := hs
  unfold m_spec_PeerOf peerOf
  rw [p_ok _ hs, Option.bind_some]
  cases validNet ⟨xs⟩ with
  | false => rfl
  | true =>
    rw [cond_true, cond_true, p_port xs p hs, Option.bind_some]
    cases h : hasPort xs p with
    | false => rfl
    | true => rw [cond_true, cond_true, p_speer h, Option.bind_some]
theorem p_iPeerOf (d : DNet) (p : DPort) (hs : Small d.agents) : m_impl_PeerOf d p = some (peerOf d p) := by
  obtain ⟨xs⟩ := d
  have hs : Small xs := hs
  unfold m_impl_PeerOf peerOf
  rw [p_valid _ hs, Option.bind_some]
  cases validNet ⟨xs⟩ with
  | false => rfl
  | true =>
    rw [cond_true, cond_true, p_hasPort xs p, Option.bind_some]
    cases h : hasPort xs p with
    | false => rfl
    | true => rw [cond_true, cond_true, p_peer h, Option.bind_some]
theorem portsOf_kind {k f : Int} (h : 0 < portsOf k f) : 1 ≤ k ∧ k ≤ 12 := by
  unfold portsOf at h
  split at h
  · omega
  · split at h
    · omega
    · split at h
      · omega
      · split at h
        · omega
        · split at h <;> omega
structure Good (xs : List DAgent) : Prop where
  one : 1 ≤ xs.length
  len : xs.length ≤ 600
  ok : ∀ (i : Nat) (x : DAgent), xs[i]? = some x → agentOk x = true
  root : ∀ (i : Nat) (x : DAgent), xs[i]? = some x → (x.kind = 1 ↔ i = 0)
  ports : PortsOk xs
theorem agentOk_pos {x : DAgent} (h : agentOk x = true) : 0 < x.ports.length ∧ 1 ≤ x.kind ∧ x.kind ≤ 12 := by
  unfold agentOk at h
  simp only [Bool.and_eq_true, decide_eq_true_eq] at h
  have := portsOf_kind h.1.1.1
  omega
theorem Good.pos {xs : List DAgent} (G : Good xs) {i : Nat} {x : DAgent} (hx : xs[i]? = some x) : 0 < x.ports.length := (agentOk_pos (G.ok i x hx)).1
def before (p q : DPort) : Bool := decide (p.agent < q.agent) || (p.agent == q.agent && decide (p.slot < q.slot))
end
section
open Go.RowKit
set_option linter.unusedVariables false
theorem p_PeerOf (x : DNet) (p : DPort) : m_laws_FnExactPeerOf x p = some true := by
  unfold m_laws_FnExactPeerOf szNetM
  rw [mustP_ok ⟨by decide, by decide⟩, Option.bind_some, Option.bind_some]
  by_cases h : (1048576 : Int) - (szNet x : Nat) < 0
  · rw [szL_neg h]
    rfl
  · have hs : szNet x ≤ 1048576 := by omega
    rw [szL_pos h, decide_eq_false h, cond_false]
    have ht : toNetM x = some x := by unfold toNetM; rw [mustP_ok hs, Option.bind_some]
    rw [ht, Option.bind_some]
    unfold toPortM
    rw [Option.bind_some, p_sPeerOf x p hs, Option.bind_some, Option.bind_some, Option.bind_some, p_iPeerOf x p hs, Option.bind_some]
    unfold eqPortM eqNetM
    rw [Option.bind_some, decide_eq_true rfl, cond_true, show ((peerOf x p).2 != (peerOf x p).2) = false by simp, cond_false, Option.bind_some, Option.bind_some, decide_eq_true rfl, cond_true]
theorem walk_PeerOf (w : World) (v0 : Value) (x : DNet) (R0 : RdT netRd w w.heap.size v0 x) (v1 : Value) (p : DPort) (R1 : RdT portRd w w.heap.size v1 p) :
    Calls Try.prog 3 #[v0, v1] w fun e w' => e = .returned (.bool true) ∧ Below w.heap.size w w' := by
  obtain ⟨cs, rfl, rfl⟩ := R1
  exact c_m_laws_FnExactPeerOf x p true (p_PeerOf x p) v0 w R0
end
section
open Go.RowKit Go.ChangeShapes Go.WideShapes Go.Deep Go.WideMaps
set_option linter.unusedVariables false
def Opens {α : Type} (P : Program) (t : TypeId) (R : Rd α) : Prop := ∀ (H : Type) (enc : TypeId × Value → H) (W : World) (fuel : Nat) (cs : List Value) (x : DataW H × List MemPlace),
  DataW.trod enc P W 0 (fun _ => true) true fuel t cs = some x → ∃ d, R W W.heap.size cs d
theorem opens_int {P : Program} {t : TypeId} (ht : P.underlying t = some (.int .i64)) : Opens P t intRd := fun H enc W fuel cs x h => by
  obtain ⟨n, hc, _, _⟩ := DataW.trod_int ht h
  exact ⟨n, hc⟩
theorem spot_none {w : World} {a : Addr} {v : Value} (h : w.cell? a = some v) : a.spot = none := by
  unfold World.cell? at h
  split at h
  · cases hs : a.spot with
    | none => rfl
    | some s => simp [hs] at h
  · simp at h
theorem opens_slice {α : Type} {P : Program} {t e : TypeId} {R : Rd α} {sz : Nat} (ht : P.underlying t = some (.slice e)) (hsz : P.cellsOf e = sz) (hpos : 0 < sz) (ok : RdOk R sz) (he : Opens P e R) : Opens P t (slRd R sz) := fun H enc W fuel cs x h => by
  rcases open_slice ht h with ⟨rfl, rfl⟩ | ⟨a, len, cap, m, n, D, Pl, rfl, hb, hl, hm, hmm, hx, hel⟩
  · exact ⟨[], none, 0, 0, rfl, SlAt.none_, Nat.le_refl _, Nat.zero_le _⟩
  · have hmc : len ≤ m := by rw [hmm]; simp; omega
    have hel' : ∀ i, i < len → ∃ p : List Value × α, R W W.heap.size p.1 p.2 ∧ ∀ j, j < sz → W.cell? (a.add (i * sz + j)) = p.1[j]? := fun i hi => by
      obtain ⟨cs', hc, htr⟩ := hel i (by omega)
      obtain ⟨d, hd⟩ := he H enc W n cs' (D i, Pl i) htr
      obtain ⟨_, hlen, hat⟩ := World.cells?_some hc
      exact ⟨(cs', d), hd, fun j hj => by
        have := hat j (by rw [hsz]; exact hj)
        rw [hsz, Go.Deep.add_add] at this
        exact this⟩
    rcases Nat.eq_zero_or_pos len with h0 | h0
    · subst h0
      exact ⟨[], some a, 0, cap, rfl, SlAt.none_, Nat.zero_le _, hm⟩
    · have hne : Nonempty (List Value × α) := let ⟨p, _⟩ := hel' 0 h0; ⟨p⟩
      have hf : ∃ f : Nat → List Value × α, ∀ i, i < len → R W W.heap.size (f i).1 (f i).2 ∧ ∀ j, j < sz → W.cell? (a.add (i * sz + j)) = (f i).1[j]? := by
        classical
        refine ⟨fun i => if hi : i < len then Classical.choose (hel' i hi) else Classical.choice hne, fun i hi => ?_⟩
        simp only [dif_pos hi]
        exact Classical.choose_spec (hel' i hi)
      obtain ⟨f, hf⟩ := hf
      have hc0 : ∃ v, W.cell? a = some v := by
        obtain ⟨hR, hc⟩ := hf 0 h0
        have hlR := ok.len hR
        have h1 := hc 0 hpos
        have h2 : a.add (0 * sz + 0) = a := by simp [Addr.add]
        rw [h2, List.getElem?_eq_getElem (by omega)] at h1
        exact ⟨_, h1⟩
      obtain ⟨v0, hv0⟩ := hc0
      have hsp := spot_none hv0
      have hbl := World.block_lt_of_cell? _ _ hv0
      have ea : a = ⟨a.block, a.off, none⟩ := by cases a; simp_all
      refine ⟨(List.range len).map fun i => (f i).2, some a, len, cap, rfl, ⟨by simp, fun _ => ⟨a.block, a.off, by rw [← ea], hbl, fun i x hx => ?_⟩⟩, hl, hm⟩
      have hi : i < len := by simpa using lt_of_some hx
      have hx' : (f i).2 = x := by simpa [hi] using hx
      subst hx'
      obtain ⟨hR, hc⟩ := hf i hi
      refine ⟨_, hR, fun j v hj => ?_⟩
      have hj' : j < sz := by have := lt_of_some hj; rw [ok.len hR] at this; exact this
      have h1 := hc j hj'
      rw [hj] at h1
      have e2 : a.add (i * sz + j) = ⟨a.block, a.off + i * sz + j, none⟩ := by
        rw [ea]; simp only [Addr.add_lit]; congr 1; omega
      rw [← e2]
      exact h1
/-- An argument's value as its cells. -/
theorem opens_arg {α : Type} {P : Program} {t : TypeId} {R : Rd α} (h : Opens P t R) {H : Type} {enc : TypeId × Value → H} {W : World} {v : Value} {d : DataW H} {ps : List MemPlace} (ht : DataW.Trod enc P W 0 (fun _ => true) true t v d ps) : ∃ x, R W W.heap.size v.cells.toList x := by
  obtain ⟨fuel, hf⟩ := ht
  exact h H enc W fuel _ _ hf
end
section
open Go.RowKit
theorem opens_ints : Opens Try.prog 41 (slRd intRd 1) := opens_slice Try.underlying41 (by kernel_rfl) (by decide) intRd_ok (opens_int Try.underlying2)
end
section
open Go.RowKit Go.ChangeShapes Go.WideShapes Go.Deep Go.WideMaps
set_option linter.unusedVariables false
set_option linter.unusedSimpArgs false
theorem trod_fields {P : Program} {t : TypeId} {fs : Array Field} {H : Type} {enc : TypeId × Value → H} {W : World} {fuel : Nat} {cs : List Value} {x : DataW H × List MemPlace} (ht : P.underlying t = some (.struct fs)) (h : DataW.trod enc P W 0 (fun _ => true) true fuel t cs = some x) :
    cs.length = P.cellsOf t ∧ ∃ n, ∀ (i : Nat) (f : Field), fs[i]? = some f → ∃ y, DataW.trod enc P W 0 (fun _ => true) true n f.type ((cs.drop f.offset).take (P.cellsOf f.type)) = some y := by
  obtain ⟨xs, n, _, _, hl, hlen, hf⟩ := DataW.trod_struct ht h
  refine ⟨hl, n, fun i f hi => ?_⟩
  have hlt : i < fs.size := (Array.getElem?_eq_some_iff.1 hi).1
  exact ⟨xs[i], by rw [hf i f hi]; exact List.getElem?_eq_getElem (by omega)⟩
/-- A struct argument. -/
theorem open_st {α : Type} {P : Program} {t : TypeId} {fs : Array Field} {R : Rd α} (h : Opens P t R) (ht : P.underlying t = some (.struct fs)) {r : Reach} {b0 : Nat} {H : Type} {enc : TypeId × Value → H} {W : World} {v : Value} {d : DataW H} {ps : List MemPlace}
    (hv : Value.okWide P W r b0 t v) (hd : DataW.Trod enc P W 0 (fun _ => true) true t v d ps) : ∃ x, RdT R W W.heap.size v x := by
  obtain ⟨cs, rfl, _⟩ := okWide_struct ht hv
  obtain ⟨x, hx⟩ := opens_arg h hd
  exact ⟨x, cs.toList, by simp, by simpa [Value.cells] using hx⟩
theorem len1 {α : Type} {l : List α} (h : l.length = 1) : ∃ a0, l = [a0] := by
  match l, h with
  | [a0], _ => exact ⟨a0, rfl⟩
theorem len2 {α : Type} {l : List α} (h : l.length = 2) : ∃ a0 a1, l = [a0, a1] := by
  match l, h with
  | [a0, a1], _ => exact ⟨a0, a1, rfl⟩
theorem len5 {α : Type} {l : List α} (h : l.length = 5) : ∃ a0 a1 a2 a3 a4, l = [a0, a1, a2, a3, a4] := by
  match l, h with
  | [a0, a1, a2, a3, a4], _ => exact ⟨a0, a1, a2, a3, a4, rfl⟩
theorem opens_Port : Opens Try.prog 26 portRd := fun H enc W fuel cs x h => by
  obtain ⟨hl, m, hf⟩ := trod_fields Try.underlying26 h
  replace hl : cs.length = 2 := hl.trans (by kernel_rfl)
  obtain ⟨a0, a1, rfl⟩ := len2 hl
  obtain ⟨y0, h0⟩ : ∃ y, DataW.trod enc Try.prog W 0 (fun _ => true) true m 2 (([a0, a1].drop 0).take (Try.prog.cellsOf 2)) = some y := hf 0 _ rfl
  have k0 : Try.prog.cellsOf 2 = 1 := by kernel_rfl
  rw [k0] at h0; simp only [List.drop_zero, List.drop_succ_cons, List.take_succ_cons, List.take_zero] at h0
  obtain ⟨d0, e0⟩ := opens_int Try.underlying2 H enc W _ _ _ h0
  unfold intRd at e0; simp only [List.cons.injEq, and_true] at e0
  obtain ⟨y1, h1⟩ : ∃ y, DataW.trod enc Try.prog W 0 (fun _ => true) true m 2 (([a0, a1].drop 1).take (Try.prog.cellsOf 2)) = some y := hf 1 _ rfl
  have k1 : Try.prog.cellsOf 2 = 1 := by kernel_rfl
  rw [k1] at h1; simp only [List.drop_zero, List.drop_succ_cons, List.take_succ_cons, List.take_zero] at h1
  obtain ⟨d1, e1⟩ := opens_int Try.underlying2 H enc W _ _ _ h1
  unfold intRd at e1; simp only [List.cons.injEq, and_true] at e1
  subst e0; subst e1
  exact ⟨⟨d0, d1⟩, rfl⟩
theorem opens_PortS : Opens Try.prog 88 (slRd portRd 2) := opens_slice Try.underlying88 (by kernel_rfl) (by decide) portRd_ok opens_Port
theorem opens_Agent : Opens Try.prog 90 agentRd := fun H enc W fuel cs x h => by
  obtain ⟨hl, m, hf⟩ := trod_fields Try.underlying90 h
  replace hl : cs.length = 5 := hl.trans (by kernel_rfl)
  obtain ⟨a0, a1, a2, a3, a4, rfl⟩ := len5 hl
  obtain ⟨y0, h0⟩ : ∃ y, DataW.trod enc Try.prog W 0 (fun _ => true) true m 2 (([a0, a1, a2, a3, a4].drop 0).take (Try.prog.cellsOf 2)) = some y := hf 0 _ rfl
  have k0 : Try.prog.cellsOf 2 = 1 := by kernel_rfl
  rw [k0] at h0; simp only [List.drop_zero, List.drop_succ_cons, List.take_succ_cons, List.take_zero] at h0
  obtain ⟨d0, e0⟩ := opens_int Try.underlying2 H enc W _ _ _ h0
  unfold intRd at e0; simp only [List.cons.injEq, and_true] at e0
  obtain ⟨y1, h1⟩ : ∃ y, DataW.trod enc Try.prog W 0 (fun _ => true) true m 2 (([a0, a1, a2, a3, a4].drop 1).take (Try.prog.cellsOf 2)) = some y := hf 1 _ rfl
  have k1 : Try.prog.cellsOf 2 = 1 := by kernel_rfl
  rw [k1] at h1; simp only [List.drop_zero, List.drop_succ_cons, List.take_succ_cons, List.take_zero] at h1
  obtain ⟨d1, e1⟩ := opens_int Try.underlying2 H enc W _ _ _ h1
  unfold intRd at e1; simp only [List.cons.injEq, and_true] at e1
  obtain ⟨y2, h2⟩ : ∃ y, DataW.trod enc Try.prog W 0 (fun _ => true) true m 2 (([a0, a1, a2, a3, a4].drop 2).take (Try.prog.cellsOf 2)) = some y := hf 2 _ rfl
  have k2 : Try.prog.cellsOf 2 = 1 := by kernel_rfl
  rw [k2] at h2; simp only [List.drop_zero, List.drop_succ_cons, List.take_succ_cons, List.take_zero] at h2
  obtain ⟨d2, e2⟩ := opens_int Try.underlying2 H enc W _ _ _ h2
  unfold intRd at e2; simp only [List.cons.injEq, and_true] at e2
  obtain ⟨y3, h3⟩ : ∃ y, DataW.trod enc Try.prog W 0 (fun _ => true) true m 41 (([a0, a1, a2, a3, a4].drop 3).take (Try.prog.cellsOf 41)) = some y := hf 3 _ rfl
  have k3 : Try.prog.cellsOf 41 = 1 := by kernel_rfl
  rw [k3] at h3; simp only [List.drop_zero, List.drop_succ_cons, List.take_succ_cons, List.take_zero] at h3
  obtain ⟨d3, A3, n3, c3, e3, g3, r3⟩ := opens_ints H enc W _ _ _ h3
  simp only [List.cons.injEq, and_true] at e3
  obtain ⟨y4, h4⟩ : ∃ y, DataW.trod enc Try.prog W 0 (fun _ => true) true m 88 (([a0, a1, a2, a3, a4].drop 4).take (Try.prog.cellsOf 88)) = some y := hf 4 _ rfl
  have k4 : Try.prog.cellsOf 88 = 1 := by kernel_rfl
  rw [k4] at h4; simp only [List.drop_zero, List.drop_succ_cons, List.take_succ_cons, List.take_zero] at h4
  obtain ⟨d4, A4, n4, c4, e4, g4, r4⟩ := opens_PortS H enc W _ _ _ h4
  simp only [List.cons.injEq, and_true] at e4
  subst e0; subst e1; subst e2; subst e3; subst e4
  exact ⟨⟨d0, d1, d2, d3, d4⟩, A3, n3, c3, A4, n4, c4, rfl, ⟨g3, r3⟩, ⟨g4, r4⟩⟩
theorem opens_AgentS : Opens Try.prog 22 (slRd agentRd 5) := opens_slice Try.underlying22 (by kernel_rfl) (by decide) agentRd_ok opens_Agent
theorem opens_Net : Opens Try.prog 24 netRd := fun H enc W fuel cs x h => by
  obtain ⟨hl, m, hf⟩ := trod_fields Try.underlying24 h
  replace hl : cs.length = 1 := hl.trans (by kernel_rfl)
  obtain ⟨a0, rfl⟩ := len1 hl
  obtain ⟨y0, h0⟩ : ∃ y, DataW.trod enc Try.prog W 0 (fun _ => true) true m 22 (([a0].drop 0).take (Try.prog.cellsOf 22)) = some y := hf 0 _ rfl
  have k0 : Try.prog.cellsOf 22 = 1 := by kernel_rfl
  rw [k0] at h0; simp only [List.drop_zero, List.drop_succ_cons, List.take_succ_cons, List.take_zero] at h0
  obtain ⟨d0, A0, n0, c0, e0, g0, r0⟩ := opens_AgentS H enc W _ _ _ h0
  simp only [List.cons.injEq, and_true] at e0
  subst e0
  exact ⟨⟨d0⟩, A0, n0, c0, rfl, ⟨g0, r0⟩⟩
end
section
open Go.ChangeShapes Go.WideShapes Go.ChangeAt Go.RowKit Go.WideElems
set_option linter.unusedVariables false
theorem own : ownKnob Try.prog.godebug = none := by kernel_rfl
theorem laid : laidOutB Try.prog = true := by kernel_rfl
section
variable {H : Type} {enc : TypeId × Value → H}
theorem trodAll_stays {W W' : World} {sp : Nat → Bool} (hb : Below W.heap.size W W') : ∀ (ts : List TypeId) (vs : List Value) (ds : List (DataW H)) (ps : List MemPlace),
    (∀ t ∈ ts, Try.prog.readableRec t = true ∧ t < Try.prog.types.size) → DataW.TrodAll enc Try.prog W 0 (fun _ => true) true ts vs ds ps →
    (∀ x ∈ ps, x.block < W.heap.size) → (∀ x ∈ ps, sp x.block = true) → DataW.TrodAll enc Try.prog W' 0 sp true ts vs ds ps
  | [], [], [], ps, _, h, _, _ => h
  | t :: ts, v :: vs, d :: ds, ps, hts, h, hlt, hsp => by
    obtain ⟨p, q, h1, h2, rfl⟩ := h
    have ht := hts t (by simp)
    exact ⟨p, q, Trod_stays laid ht.1 ht.2 h1 (fun x hx => hb.same (hlt x (by simp [hx]))) (fun x hx => hsp x (by simp [hx])),
      trodAll_stays hb ts vs ds q (fun t' h' => hts t' (by simp [h'])) h2 (fun x hx => hlt x (by simp [hx])) (fun x hx => hsp x (by simp [hx])), rfl⟩
  | [], _ :: _, _, _, _, h, _, _ => h.elim
  | [], [], _ :: _, _, _, h, _, _ => h.elim
  | _ :: _, [], _, _, _, h, _, _ => h.elim
  | _ :: _, _ :: _, [], _, _, h, _, _ => h.elim
theorem post_law {f : Func} {s : ChangeSpec} {W W' : World} {args : Array Value} {ds : List (DataW H)} {before : List MemPlace}
    (hv : s.vars = []) (hr1 : f.resultTypes = #[4])
    (hp0 : (f.params.toList.all fun t => Try.prog.readableRec t && decide (t < Try.prog.types.size)) = true)
    (hres : (s.fn H (ds ++ [])).results = [.lit (.bool true)]) (hargs : (s.fn H (ds ++ [])).args = ds) (hvars : (s.fn H (ds ++ [])).vars = [])
    (hW : DataW.Whole enc Try.prog f.params.toList s.vars false W args.toList ds [] before)
    (hb : Below W.heap.size W W') :
    s.post enc Try.prog f false true false false W args (.bool true) W' := by
  have hp : ∀ t ∈ f.params.toList, Try.prog.readableRec t = true ∧ t < Try.prog.types.size := fun t ht => by simpa using List.all_eq_true.1 hp0 t ht
  have hlt : ∀ p ∈ before, p.block < W.heap.size := fun p hp => hW.lt p hp
  have hold : ∀ p ∈ before, (fun b => decide (b < W.heap.size)) p.block = true := fun p hp => by simpa using hlt p hp
  have hWh := hW
  obtain ⟨p, q, hA, hV, rfl, hfz, _⟩ := hWh
  rw [hv] at hV
  obtain rfl : q = [] := hV
  rw [List.append_nil] at hlt hold
  have hA' : ∀ sp : Nat → Bool, (∀ x ∈ p, sp x.block = true) → DataW.TrodAll enc Try.prog W' 0 sp true f.params.toList args.toList ds p := fun sp hsp =>
    trodAll_stays hb _ _ _ _ hp hA hlt hsp
  rw [List.append_nil] at hW
  refine ⟨ds, [], p, [], p, [], hW, ?_, ?_, ?_, World.keptBut_mono (fun x hx => ⟨hx, ?_⟩) (hb.frame (· ∈ p)), fun h => by cases h⟩
  · rw [hres, hr1]
    exact trodAll_cons_mk (shut_bool Try.underlying4 _) trodAll_mk0
  · rw [hargs]
    exact hA' _ hold
  · rw [hvars, hv]
    rfl
  · simp [hx]
end
end
end Go.Proofs.Ytebioddcnldjkaa
