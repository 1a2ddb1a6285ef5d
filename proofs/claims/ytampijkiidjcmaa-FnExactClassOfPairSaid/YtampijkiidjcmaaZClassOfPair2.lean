/- Lemmas of the proof of ClassOfPair, part 2. No condition. -/
import Derived.Test.YtampijkiidjcmaaZClassOfPair1
namespace Go.Proofs.Ytampijkiidjcmaa
section
open Go.RowKit
set_option linter.unusedVariables false
set_option linter.unusedSimpArgs false
set_option maxRecDepth 100000
def m_spec_l11Fields (d0 : DAgent) : Option Int :=
  (bif (d0.kind == 9) then ((ck ((d0.ports.length : Int) - 1)).bind fun s4 => some s4) else some 0)
set_option maxHeartbeats 2000000 in
theorem c_m_spec_l11Fields (d0 : DAgent) (r : Int) (hm : m_spec_l11Fields d0 = some r) (v0 : Value) (w : World) (hv0 : Pt agentRd w v0 d0) :
    Calls Try.prog 154 #[v0] w fun e w' => e = .returned (.int .i64 r) ∧ Below w.heap.size w w' := by
  obtain ⟨ba0, oa0, csa0, rfl, hba0, hRa0, hca0⟩ := hv0
  have hSa0 := hRa0
  obtain ⟨A1, n1, c1, A2, n2, c2, rfl, ⟨h1, r1⟩, ⟨h2, r2⟩⟩ := hRa0
  have e1 := h1.len; subst e1
  have q1 := len_le r1
  have e2 := h2.len; subst e2
  have q2 := len_le r2
  have T := Below.refl w.heap.size w
  unfold m_spec_l11Fields at hm
  refine enter 14 Try.func154 rfl rfl rfl ?_
  intro f hf
  have s0 : f 0 = .pointer (some ⟨ba0, oa0, none⟩) := hf 0 _ rfl
  refine wp_seq ?_
  refine wp_rs rfl ?_
  refine RQ.y rfl (Y.assign (v := .int .i64 0) rfl) ?_
  refine RQ.nil ?_
  refine then_n ?_
  refine wp_seq ?_
  refine wp_seq ?_
  refine wp_rs rfl ?_
  refine RQ.y rfl (Y.move (v := .pointer (some ⟨ba0, oa0, none⟩)) s0) ?_
  refine RQ.y rfl (Y.nilCheck rfl) ?_
  refine RQ.y rfl (Y.fieldAddr (off := 0) rfl (by kernel_rfl)) ?_
  refine RQ.y rfl (Y.load (v := .int .i64 d0.kind) rfl (by kernel_rfl) (eqC (cellT T (hca0 0 _ rfl)))) ?_
  refine RQ.y rfl (Y.binI (v := .bool (d0.kind == 9)) rfl rfl rfl) ?_
  refine RQ.nil ?_
  refine then_n ?_
  rcases bcases (d0.kind == 9) with c3 | c3
  · replace hm := cF c3 hm
    refine cond_f rfl (vb rfl c3) ?_
    refine wp_skip ?_
    refine then_n ?_
    refine wp_seq ?_
    refine wp_rs rfl ?_
    refine RQ.y rfl (Y.assign (v := .int .i64 0) rfl) ?_
    refine RQ.nil ?_
    refine then_n ?_
    refine wp_ret ?_
    obtain rfl := Option.some.inj hm
    exact (ret1 rfl rfl rfl ⟨rfl, T⟩)
  · replace hm := cT c3 hm
    refine cond_t rfl (vb rfl c3) ?_
    refine wp_seq ?_
    refine wp_rs rfl ?_
    refine RQ.y rfl (Y.move (v := .pointer (some ⟨ba0, oa0, none⟩)) s0) ?_
    refine RQ.y rfl (Y.nilCheck rfl) ?_
    refine RQ.y rfl (Y.fieldAddr (off := 4) rfl (by kernel_rfl)) ?_
    refine RQ.y rfl (Y.load (v := .slice A2 d0.ports.length c2) rfl (by kernel_rfl) (eqC (cellT T (hca0 4 _ rfl)))) ?_
    refine RQ.y rfl (Y.len (by kernel_rfl) rfl) ?_
    obtain ⟨s4, ks4, hm⟩ := bnd hm
    replace ks4 := ck_some ks4
    refine RQ.y rfl (Y.binI (v := .int .i64 s4) rfl rfl (by rw [binI_sub ks4.2, ks4.1])) ?_
    refine RQ.y rfl (Y.assign (v := .int .i64 s4) rfl) ?_
    refine RQ.nil ?_
    refine then_n ?_
    refine wp_ret ?_
    obtain rfl := Option.some.inj hm
    exact (then_r (ret1 rfl rfl rfl ⟨rfl, T⟩))
def m_spec_l11Def (d0 : Int) : Option Bool :=
  some (inR d0 0 23)
set_option maxHeartbeats 2000000 in
theorem c_m_spec_l11Def (d0 : Int) (r : Bool) (hm : m_spec_l11Def d0 = some r)  (w : World)  :
    Calls Try.prog 194 #[.int .i64 d0] w fun e w' => e = .returned (.bool r) ∧ Below w.heap.size w w' := by
  have T := Below.refl w.heap.size w
  unfold m_spec_l11Def at hm
  refine enter 5 Try.func194 rfl rfl rfl ?_
  intro f hf
  have s0 : f 0 = .int .i64 d0 := hf 0 _ rfl
  refine wp_seq ?_
  refine wp_rs rfl ?_
  refine RQ.y rfl (Y.assign (v := .bool false) rfl) ?_
  refine RQ.nil ?_
  refine then_n ?_
  refine wp_seq ?_
  refine wp_rb rfl ?_
  refine RQ.y rfl (Y.move (v := .int .i64 d0) s0) ?_
  refine RQ.call rfl (am3 rfl rfl rfl) (by kernel_rfl) (v := .bool (inR d0 0 23)) (bel (K := fun _ => True) fun w' hb' => (callB (spec_l00In d0 0 23 w'))) ?_
  refine RQ.y rfl (Y.assign (v := .bool (inR d0 0 23)) rfl) ?_
  refine RQ.nil ?_
  intro w1 hb2
  have szw1 := hb2.size
  have T := Tt T hb2
  refine then_n ?_
  refine wp_ret ?_
  obtain rfl := Option.some.inj hm
  exact (ret1 rfl rfl rfl ⟨rfl, T⟩)
def m_spec_l11Content_A1 : Option Bool :=
  some true
def m_spec_l11Content_B1 (d0 : DAgent) (rec1 : Int → Option Bool) (K1 : Option Bool) (i16 : Int) : Option Bool :=
  (bif (decide (i16 < (d0.data.length : Int))) then ((getI d0.data i16).bind fun x19 => ((m_spec_l11Def x19).bind fun y28 => (bif y28 then (rec1 (i16 + 1)) else some false))) else (K1))
def m_spec_l11Content_L1 (d0 : DAgent) (K1 : Option Bool) : Nat → Int → Option Bool
  | 0, _ => none
  | g + 1, i16 => m_spec_l11Content_B1 d0 (m_spec_l11Content_L1 d0 K1 g) K1 i16
def m_spec_l11Content_A2 : Option Bool :=
  some true
def m_spec_l11Content_B2 (d0 : DAgent) (rec2 : Int → Option Bool) (K2 : Option Bool) (i44 : Int) : Option Bool :=
  (bif (decide (i44 < (d0.data.length : Int))) then ((getI d0.data i44).bind fun x47 => ((m_spec_l11Def x47).bind fun y56 => (bif y56 then (rec2 (i44 + 1)) else some false))) else (K2))
def m_spec_l11Content_L2 (d0 : DAgent) (K2 : Option Bool) : Nat → Int → Option Bool
  | 0, _ => none
  | g + 1, i44 => m_spec_l11Content_B2 d0 (m_spec_l11Content_L2 d0 K2 g) K2 i44
def m_spec_l11Content_A3 : Option Bool :=
  some true
def m_spec_l11Content_B3 (d0 : DAgent) (rec3 : Int → Option Bool) (K3 : Option Bool) (i67 : Int) : Option Bool :=
  (bif (decide (i67 < (d0.data.length : Int))) then ((getI d0.data i67).bind fun x70 => ((m_spec_l11Def x70).bind fun y79 => (bif y79 then (rec3 (i67 + 1)) else some false))) else (K3))
def m_spec_l11Content_L3 (d0 : DAgent) (K3 : Option Bool) : Nat → Int → Option Bool
  | 0, _ => none
  | g + 1, i67 => m_spec_l11Content_B3 d0 (m_spec_l11Content_L3 d0 K3 g) K3 i67
def m_spec_l11Content (d0 : DAgent) : Option Bool :=
  (bif (d0.kind == 6) then (bif ((d0.data.length : Int) == 0) then some (inR d0.value (-2147483648) 2147483647) else some false) else (bif (d0.kind == 7) then (bif ((d0.data.length : Int) == 0) then some (inR d0.value 1 6) else some false) else (bif (d0.kind == 8) then (bif ((d0.data.length : Int) == 1) then (bif (inR d0.value 1 6) then ((getI d0.data 0).bind fun x107 => some (inR x107 (-2147483648) 2147483647)) else some false) else some false) else (bif (d0.kind == 9) then (bif ((d0.data.length : Int) == 0) then some (inR d0.value 0 3) else some false) else (bif (d0.kind == 12) then (bif ((d0.data.length : Int) == 0) then ((m_spec_l11Def d0.value).bind fun y92 => some y92) else some false) else (bif (d0.kind == 10) then (bif (d0.value != 0) then some false else (bif (d0.kind == 11) then (bif ((d0.data.length : Int) != 2) then some false else (bif (inR (d0.data.length : Int) 1 4) then (m_spec_l11Content_L3 d0 m_spec_l11Content_A3 (d0.data.length + 1) 0) else some false)) else (bif (inR (d0.data.length : Int) 1 4) then (m_spec_l11Content_L2 d0 m_spec_l11Content_A2 (d0.data.length + 1) 0) else some false))) else (bif (d0.kind == 11) then (bif (d0.value != 0) then some false else (bif ((d0.data.length : Int) != 2) then some false else (m_spec_l11Content_L1 d0 m_spec_l11Content_A1 (d0.data.length + 1) 0))) else (bif (d0.value == 0) then some ((d0.data.length : Int) == 0) else some false))))))))
set_option maxHeartbeats 2000000 in
theorem c_m_spec_l11Content (d0 : DAgent) (r : Bool) (hm : m_spec_l11Content d0 = some r) (v0 : Value) (w : World) (hv0 : Pt agentRd w v0 d0) :
    Calls Try.prog 183 #[v0] w fun e w' => e = .returned (.bool r) ∧ Below w.heap.size w w' := by
  obtain ⟨ba0, oa0, csa0, rfl, hba0, hRa0, hca0⟩ := hv0
  have hSa0 := hRa0
  obtain ⟨A1, n1, c1, A2, n2, c2, rfl, ⟨h1, r1⟩, ⟨h2, r2⟩⟩ := hRa0
  have e1 := h1.len; subst e1
  have q1 := len_le r1
  have e2 := h2.len; subst e2
  have q2 := len_le r2
  have T := Below.refl w.heap.size w
  unfold m_spec_l11Content at hm
  refine enter 162 Try.func183 rfl rfl rfl ?_
  intro f hf
  have s0 : f 0 = .pointer (some ⟨ba0, oa0, none⟩) := hf 0 _ rfl
  refine wp_seq ?_
  refine wp_rs rfl ?_
  refine RQ.y rfl (Y.assign (v := .bool false) rfl) ?_
  refine RQ.nil ?_
  refine then_n ?_
  refine wp_seq ?_
  refine wp_seq ?_
  refine wp_rs rfl ?_
  refine RQ.y rfl (Y.move (v := .pointer (some ⟨ba0, oa0, none⟩)) s0) ?_
  refine RQ.y rfl (Y.nilCheck rfl) ?_
  refine RQ.y rfl (Y.fieldAddr (off := 0) rfl (by kernel_rfl)) ?_
  refine RQ.y rfl (Y.load (v := .int .i64 d0.kind) rfl (by kernel_rfl) (eqC (cellT T (hca0 0 _ rfl)))) ?_
  refine RQ.nil ?_
  refine then_n ?_
  refine wp_block ?_
  refine wp_seq ?_
  refine wp_rs rfl ?_
  refine RQ.y rfl (Y.binI (v := .bool (d0.kind == 6)) rfl rfl rfl) ?_
  refine RQ.y rfl (Y.assign (v := .bool (d0.kind == 6)) rfl) ?_
  refine RQ.nil ?_
  refine then_n ?_
  rcases bcases (d0.kind == 6) with c3 | c3
  · replace hm := cF c3 hm
    refine cond_f rfl (vb rfl c3) ?_
    refine wp_seq ?_
    refine wp_rs rfl ?_
    refine RQ.y rfl (Y.binI (v := .bool (d0.kind == 7)) rfl rfl rfl) ?_
    refine RQ.y rfl (Y.assign (v := .bool (d0.kind == 7)) rfl) ?_
    refine RQ.nil ?_
    refine then_n ?_
    rcases bcases (d0.kind == 7) with c4 | c4
    · replace hm := cF c4 hm
      refine cond_f rfl (vb rfl c4) ?_
      refine wp_seq ?_
      refine wp_rs rfl ?_
      refine RQ.y rfl (Y.binI (v := .bool (d0.kind == 8)) rfl rfl rfl) ?_
      refine RQ.y rfl (Y.assign (v := .bool (d0.kind == 8)) rfl) ?_
      refine RQ.nil ?_
      refine then_n ?_
      rcases bcases (d0.kind == 8) with c5 | c5
      · replace hm := cF c5 hm
        refine cond_f rfl (vb rfl c5) ?_
        refine wp_seq ?_
        refine wp_rs rfl ?_
        refine RQ.y rfl (Y.binI (v := .bool (d0.kind == 9)) rfl rfl rfl) ?_
        refine RQ.y rfl (Y.assign (v := .bool (d0.kind == 9)) rfl) ?_
        refine RQ.nil ?_
        refine then_n ?_
        rcases bcases (d0.kind == 9) with c6 | c6
        · replace hm := cF c6 hm
          refine cond_f rfl (vb rfl c6) ?_
          refine wp_seq ?_
          refine wp_rs rfl ?_
          refine RQ.y rfl (Y.binI (v := .bool (d0.kind == 12)) rfl rfl rfl) ?_
          refine RQ.y rfl (Y.assign (v := .bool (d0.kind == 12)) rfl) ?_
          refine RQ.nil ?_
          refine then_n ?_
          rcases bcases (d0.kind == 12) with c7 | c7
          · replace hm := cF c7 hm
            refine cond_f rfl (vb rfl c7) ?_
            refine wp_seq ?_
            refine wp_seq ?_
            refine wp_rs rfl ?_
            refine RQ.y rfl (Y.binI (v := .bool (d0.kind == 10)) rfl rfl rfl) ?_
            refine RQ.y rfl (Y.assign (v := .bool (d0.kind == 10)) rfl) ?_
            refine RQ.nil ?_
            refine then_n ?_
            rcases bcases (d0.kind == 10) with c8 | c8
            · replace hm := cF c8 hm
              refine cond_f rfl (vb rfl c8) ?_
              refine wp_rs rfl ?_
              refine RQ.y rfl (Y.binI (v := .bool (d0.kind == 11)) rfl rfl rfl) ?_
              refine RQ.y rfl (Y.assign (v := .bool (d0.kind == 11)) rfl) ?_
              refine RQ.nil ?_
              refine then_n ?_
              rcases bcases (d0.kind == 11) with c9 | c9
              · replace hm := cF c9 hm
                refine cond_f rfl (vb rfl c9) ?_
                refine wp_skip ?_
                refine blk_n (then_n ?_)
                refine wp_seq ?_
                refine wp_rs rfl ?_
                refine RQ.y rfl (Y.move (v := .pointer (some ⟨ba0, oa0, none⟩)) s0) ?_
                refine RQ.y rfl (Y.nilCheck rfl) ?_
                refine RQ.y rfl (Y.fieldAddr (off := 2) rfl (by kernel_rfl)) ?_
                refine RQ.y rfl (Y.load (v := .int .i64 d0.value) rfl (by kernel_rfl) (eqC (cellT T (hca0 2 _ rfl)))) ?_
                refine RQ.y rfl (Y.binI (v := .bool (d0.value == 0)) rfl rfl rfl) ?_
                refine RQ.y rfl (Y.move (v := .bool (d0.value == 0)) rfl) ?_
                rcases bcases (d0.value == 0) with c10 | c10
                · replace hm := cF c10 hm
                  refine RQ.skip (wantN (dj := 154) rfl (vb rfl c10) rfl) ?_
                  refine RQ.skip (wantN (dj := 154) rfl (vb rfl c10) rfl) ?_
                  refine RQ.skip (wantN (dj := 154) rfl (vb rfl c10) rfl) ?_
                  refine RQ.skip (wantN (dj := 154) rfl (vb rfl c10) rfl) ?_
                  refine RQ.skip (wantN (dj := 154) rfl (vb rfl c10) rfl) ?_
                  refine RQ.skip (wantN (dj := 154) rfl (vb rfl c10) rfl) ?_
                  refine RQ.y rfl (Y.pick (b := false) (v := .bool false) (vb rfl c10) rfl) ?_
                  refine RQ.y rfl (Y.assign (v := .bool false) rfl) ?_
                  refine RQ.nil ?_
                  refine then_n ?_
                  refine wp_ret ?_
                  obtain rfl := Option.some.inj hm
                  exact (ret1 rfl rfl rfl ⟨rfl, T⟩)
                · replace hm := cT c10 hm
                  refine RQ.y (wantT (dj := 154) rfl (vb rfl c10)) (Y.move (v := .pointer (some ⟨ba0, oa0, none⟩)) s0) ?_
                  refine RQ.y (wantT (dj := 154) rfl (vb rfl c10)) (Y.nilCheck rfl) ?_
                  refine RQ.y (wantT (dj := 154) rfl (vb rfl c10)) (Y.fieldAddr (off := 3) rfl (by kernel_rfl)) ?_
                  refine RQ.y (wantT (dj := 154) rfl (vb rfl c10)) (Y.load (v := .slice A1 d0.data.length c1) rfl (by kernel_rfl) (eqC (cellT T (hca0 3 _ rfl)))) ?_
                  refine RQ.y (wantT (dj := 154) rfl (vb rfl c10)) (Y.len (by kernel_rfl) rfl) ?_
                  refine RQ.y (wantT (dj := 154) rfl (vb rfl c10)) (Y.binI (v := .bool ((d0.data.length : Int) == 0)) rfl rfl rfl) ?_
                  refine RQ.y rfl (Y.pick (b := true) (v := .bool ((d0.data.length : Int) == 0)) (vb rfl c10) rfl) ?_
                  refine RQ.y rfl (Y.assign (v := .bool ((d0.data.length : Int) == 0)) rfl) ?_
                  refine RQ.nil ?_
                  refine then_n ?_
                  refine wp_ret ?_
                  obtain rfl := Option.some.inj hm
                  exact (ret1 rfl rfl rfl ⟨rfl, T⟩)
              · replace hm := cT c9 hm
                refine cond_t rfl (vb rfl c9) ?_
                refine wp_seq ?_
                refine wp_seq ?_
                refine wp_rb rfl ?_
                refine RQ.y rfl (Y.move (v := .pointer (some ⟨ba0, oa0, none⟩)) s0) ?_
                refine RQ.y rfl (Y.nilCheck rfl) ?_
                refine RQ.y rfl (Y.fieldAddr (off := 2) rfl (by kernel_rfl)) ?_
                refine RQ.y rfl (Y.load (v := .int .i64 d0.value) rfl (by kernel_rfl) (beC (cellT T (hca0 2 _ rfl)))) ?_
                refine RQ.y rfl (Y.binI (v := .bool (d0.value != 0)) rfl rfl rfl) ?_
                refine RQ.y rfl (Y.move (v := .bool (d0.value != 0)) rfl) ?_
                rcases bcases (d0.value != 0) with c11 | c11
                · replace hm := cF c11 hm
                  refine RQ.y (wantT (dj := 100) rfl (vb rfl c11)) (Y.move (v := .pointer (some ⟨ba0, oa0, none⟩)) s0) ?_
                  refine RQ.y (wantT (dj := 100) rfl (vb rfl c11)) (Y.nilCheck rfl) ?_
                  refine RQ.y (wantT (dj := 100) rfl (vb rfl c11)) (Y.fieldAddr (off := 0) rfl (by kernel_rfl)) ?_
                  refine RQ.y (wantT (dj := 100) rfl (vb rfl c11)) (Y.load (v := .int .i64 d0.kind) rfl (by kernel_rfl) (beC (cellT T (hca0 0 _ rfl)))) ?_
                  refine RQ.y (wantT (dj := 100) rfl (vb rfl c11)) (Y.binI (v := .bool (d0.kind == 11)) rfl rfl rfl) ?_
                  refine RQ.y (wantT (dj := 100) rfl (vb rfl c11)) (Y.move (v := .bool (d0.kind == 11)) rfl) ?_
                  refine RQ.y (wantT (dj := 106) rfl (vb rfl c9)) (Y.move (v := .pointer (some ⟨ba0, oa0, none⟩)) s0) ?_
                  refine RQ.y (wantT (dj := 106) rfl (vb rfl c9)) (Y.nilCheck rfl) ?_
                  refine RQ.y (wantT (dj := 106) rfl (vb rfl c9)) (Y.fieldAddr (off := 3) rfl (by kernel_rfl)) ?_
                  refine RQ.y (wantT (dj := 106) rfl (vb rfl c9)) (Y.load (v := .slice A1 d0.data.length c1) rfl (by kernel_rfl) (beC (cellT T (hca0 3 _ rfl)))) ?_
                  refine RQ.y (wantT (dj := 106) rfl (vb rfl c9)) (Y.len (by kernel_rfl) rfl) ?_
                  refine RQ.y (wantT (dj := 106) rfl (vb rfl c9)) (Y.binI (v := .bool ((d0.data.length : Int) != 2)) rfl rfl rfl) ?_
                  refine RQ.y (wantT (dj := 100) rfl (vb rfl c11)) (Y.pick (b := true) (v := .bool ((d0.data.length : Int) != 2)) (vb rfl c9) rfl) ?_
                  refine RQ.y rfl (Y.pick (b := false) (v := .bool ((d0.data.length : Int) != 2)) (vb rfl c11) rfl) ?_
                  refine RQ.y rfl (Y.move (v := .bool ((d0.data.length : Int) != 2)) rfl) ?_
                  rcases bcases ((d0.data.length : Int) != 2) with c12 | c12
                  · replace hm := cF c12 hm
                    refine RQ.y (wantT (dj := 115) rfl (vb rfl c12)) (Y.move (v := .pointer (some ⟨ba0, oa0, none⟩)) s0) ?_
                    refine RQ.y (wantT (dj := 115) rfl (vb rfl c12)) (Y.nilCheck rfl) ?_
                    refine RQ.y (wantT (dj := 115) rfl (vb rfl c12)) (Y.fieldAddr (off := 0) rfl (by kernel_rfl)) ?_
                    refine RQ.y (wantT (dj := 115) rfl (vb rfl c12)) (Y.load (v := .int .i64 d0.kind) rfl (by kernel_rfl) (beC (cellT T (hca0 0 _ rfl)))) ?_
                    refine RQ.y (wantT (dj := 115) rfl (vb rfl c12)) (Y.binI (v := .bool (d0.kind == 10)) rfl rfl rfl) ?_
                    refine RQ.y (wantT (dj := 115) rfl (vb rfl c12)) (Y.move (v := .bool (d0.kind == 10)) rfl) ?_
                    refine RQ.skip (wantN (dj := 121) rfl (vb rfl c8) rfl) ?_
                    refine RQ.skip (wantN (dj := 121) rfl (vb rfl c8) rfl) ?_
                    refine RQ.skip (wantN (dj := 121) rfl (vb rfl c8) rfl) ?_
                    refine RQ.skip (wantN (dj := 121) rfl (vb rfl c8) rfl) ?_
                    refine RQ.skip (wantN (dj := 121) rfl (vb rfl c8) rfl) ?_
                    refine RQ.skip (wantN (dj := 121) rfl (vb rfl c8) rfl) ?_
                    refine RQ.skip (wantN (dj := 121) rfl (vb rfl c8) rfl) ?_
                    refine RQ.y (wantT (dj := 115) rfl (vb rfl c12)) (Y.pick (b := false) (v := .bool false) (vb rfl c8) rfl) ?_
                    refine RQ.y rfl (Y.pick (b := false) (v := .bool false) (vb rfl c12) rfl) ?_
                    refine RQ.nil ?_
                    intro w13 hb14
                    have szw13 := hb14.size
                    have T := Tt T hb14
                    refine then_n ?_
                    refine cond_f rfl rfl ?_
                    refine wp_skip ?_
                    refine then_n ?_
                    refine wp_seq ?_
                    refine wp_seq ?_
                    refine wp_rs rfl ?_
                    refine RQ.y rfl (Y.assign (v := .int .i64 0) rfl) ?_
                    refine RQ.nil ?_
                    refine then_n ?_
                    refine wp_block ?_
                    obtain ⟨K1, hK1, hm⟩ : ∃ K, K = m_spec_l11Content_A1 ∧ m_spec_l11Content_L1 d0 K (d0.data.length + 1) 0 = some r := ⟨_, rfl, hm⟩
                    refine wp_loopX (fun g f w' => ∃ (i16 : Int), f 0 = .pointer (some ⟨ba0, oa0, none⟩) ∧ f 3 = .int .i64 i16 ∧ 0 ≤ i16 ∧ Below w.heap.size w w' ∧ m_spec_l11Content_L1 d0 K1 g i16 = some r) 1 (fun f w' => Below w.heap.size w w' ∧ m_spec_l11Content_A1  = some r) (d0.data.length + 1) ⟨0, s0, rfl, (by omega), T, hm⟩ ?_ ?_
                    · rintro f w15 ⟨T, hm⟩
                      unfold m_spec_l11Content_A1 at hm
                      refine blk_hit (then_n ?_)
                      refine wp_seq ?_
                      refine wp_rs rfl ?_
                      refine RQ.y rfl (Y.assign (v := .bool true) rfl) ?_
                      refine RQ.nil ?_
                      refine then_n ?_
                      refine wp_ret ?_
                      obtain rfl := Option.some.inj hm
                      exact (blk_r (then_r (ret1 rfl rfl rfl ⟨rfl, T⟩)))
                    · rintro g f w17 ⟨i16, s0_1, s3_1, nn3_1, T, hm⟩
                      rcases g with _ | g
                      · simp only [m_spec_l11Content_L1] at hm; cases hm
                      obtain ⟨rec1, hrec1, hm⟩ : ∃ z, z = m_spec_l11Content_L1 d0 K1 g ∧ m_spec_l11Content_B1 d0 z K1 i16 = some r := ⟨_, rfl, hm⟩
                      unfold m_spec_l11Content_B1 at hm
                      refine wp_seq ?_
                      refine wp_seq ?_
                      refine wp_rs rfl ?_
                      refine RQ.y rfl (Y.move (v := .int .i64 i16) s3_1) ?_
                      refine RQ.y rfl (Y.move (v := .pointer (some ⟨ba0, oa0, none⟩)) s0_1) ?_
                      refine RQ.y rfl (Y.nilCheck rfl) ?_
                      refine RQ.y rfl (Y.fieldAddr (off := 3) rfl (by kernel_rfl)) ?_
                      refine RQ.y rfl (Y.load (v := .slice A1 d0.data.length c1) rfl (by kernel_rfl) (eqC (cellT T (hca0 3 _ rfl)))) ?_
                      refine RQ.y rfl (Y.len (by kernel_rfl) rfl) ?_
                      refine RQ.y rfl (Y.binI (v := .bool (decide (i16 < (d0.data.length : Int)))) rfl rfl rfl) ?_
                      refine RQ.nil ?_
                      refine then_n ?_
                      rcases bcases (decide (i16 < (d0.data.length : Int))) with c18 | c18
                      · replace hm := cF c18 hm
                        have pc18 := of_decide_eq_false c18
                        refine cond_f rfl (vb rfl c18) ?_
                        refine wp_exit ?_
                        exact (then_x (then_x (hit_x ⟨_, rfl, ⟨T, (by rw [hK1] at hm; exact hm)⟩⟩)))
                      · replace hm := cT c18 hm
                        have pc18 := of_decide_eq_true c18
                        refine cond_t rfl (vb rfl c18) ?_
                        refine wp_skip ?_
                        refine then_n ?_
                        refine wp_seq ?_
                        refine wp_block ?_
                        refine wp_seq ?_
                        refine wp_rb rfl ?_
                        refine RQ.y rfl (Y.move (v := .pointer (some ⟨ba0, oa0, none⟩)) s0_1) ?_
                        refine RQ.y rfl (Y.nilCheck rfl) ?_
                        refine RQ.y rfl (Y.fieldAddr (off := 3) rfl (by kernel_rfl)) ?_
                        refine RQ.y rfl (Y.load (v := .slice A1 d0.data.length c1) rfl (by kernel_rfl) (beC (cellT T (hca0 3 _ rfl)))) ?_
                        refine RQ.y rfl (Y.move (v := .int .i64 i16) s3_1) ?_
                        obtain ⟨x19, hx22, hm⟩ := bnd hm
                        obtain ⟨k20, hk23, hl24, hx22⟩ := getI_some hx22
                        obtain ⟨b26, o27, rfl, hbb26⟩ := h1.addr (by omega)
                        obtain ⟨cs21, hRcs21, hc25⟩ := h1.el hx22
                        have hScs21 := hRcs21
                        obtain rfl := hRcs21
                        refine RQ.y rfl (Y.indexAddr (m := k20) (sz := 1) rfl rfl hk23 hl24 (by kernel_rfl)) ?_
                        refine RQ.y rfl (Y.load (v := .int .i64 x19) rfl (by kernel_rfl) (beC (cellT T (hc25 0 _ rfl)))) ?_
                        obtain ⟨y28, e29, hm⟩ := bnd hm
                        refine RQ.call rfl (am1 rfl) (by kernel_rfl) (v := .bool y28) (bel (K := fun _ => True) fun w' hb' => (c_m_spec_l11Def x19 _ e29  w' )) ?_
                        refine RQ.y rfl (Y.not (b' := (!y28)) rfl rfl) ?_
                        refine RQ.nil ?_
                        intro w30 hb31
                        have szw30 := hb31.size
                        have T := Tt T hb31
                        refine then_n ?_
                        rcases bcases y28 with c32 | c32
                        · replace hm := cF c32 hm
                          refine cond_t rfl (vbn rfl c32 rfl) ?_
                          refine wp_seq ?_
                          refine wp_rs rfl ?_
                          refine RQ.y rfl (Y.assign (v := .bool false) rfl) ?_
                          refine RQ.nil ?_
                          refine then_n ?_
                          refine wp_ret ?_
                          obtain rfl := Option.some.inj hm
                          exact (blk_r (then_r (then_r (hit_r (blk_r (then_r (blk_r (then_r (ret1 rfl rfl rfl ⟨rfl, T⟩)))))))))
                        · replace hm := cT c32 hm
                          refine cond_f rfl (vbn rfl c32 rfl) ?_
                          refine wp_skip ?_
                          refine blk_n (then_n ?_)
                          refine wp_rs rfl ?_
                          refine RQ.y rfl (Y.move (v := .int .i64 i16) s3_1) ?_
                          refine RQ.y rfl (Y.binI rfl rfl (binI_add (m := i16) (by omega))) ?_
                          refine RQ.y rfl (Y.assign (v := .int .i64 (i16 + 1)) rfl) ?_
                          refine RQ.nil ?_
                          exact (then_n ⟨g, _, Nat.lt_succ_self _, rfl, ⟨(i16 + 1), s0_1, rfl, (by omega), T, (by rw [← hrec1]; exact hm)⟩⟩)
                  · replace hm := cT c12 hm
                    refine RQ.skip (wantN (dj := 115) rfl (vb rfl c12) rfl) ?_
                    refine RQ.skip (wantN (dj := 115) rfl (vb rfl c12) rfl) ?_
                    refine RQ.skip (wantN (dj := 115) rfl (vb rfl c12) rfl) ?_
                    refine RQ.skip (wantN (dj := 115) rfl (vb rfl c12) rfl) ?_
                    refine RQ.skip (wantN (dj := 115) rfl (vb rfl c12) rfl) ?_
                    refine RQ.skip (wantN (dj := 115) rfl (vb rfl c12) rfl) ?_
                    refine RQ.skip rfl ?_
                    refine RQ.skip rfl ?_
                    refine RQ.skip rfl ?_
                    refine RQ.skip rfl ?_
                    refine RQ.skip rfl ?_
                    refine RQ.skip rfl ?_
                    refine RQ.skip rfl ?_
                    refine RQ.skip (wantN (dj := 115) rfl (vb rfl c12) rfl) ?_
                    refine RQ.y rfl (Y.pick (b := true) (v := .bool true) (vb rfl c12) rfl) ?_
                    refine RQ.nil ?_
                    intro w34 hb35
                    have szw34 := hb35.size
                    have T := Tt T hb35
                    refine then_n ?_
                    refine cond_t rfl rfl ?_
                    refine wp_seq ?_
                    refine wp_rs rfl ?_
                    refine RQ.y rfl (Y.assign (v := .bool false) rfl) ?_
                    refine RQ.nil ?_
                    refine then_n ?_
                    refine wp_ret ?_
                    obtain rfl := Option.some.inj hm
                    exact (then_r (blk_r (then_r (ret1 rfl rfl rfl ⟨rfl, T⟩))))
                · replace hm := cT c11 hm
                  refine RQ.skip (wantN (dj := 100) rfl (vb rfl c11) rfl) ?_
                  refine RQ.skip (wantN (dj := 100) rfl (vb rfl c11) rfl) ?_
                  refine RQ.skip (wantN (dj := 100) rfl (vb rfl c11) rfl) ?_
                  refine RQ.skip (wantN (dj := 100) rfl (vb rfl c11) rfl) ?_
                  refine RQ.skip (wantN (dj := 100) rfl (vb rfl c11) rfl) ?_
                  refine RQ.skip (wantN (dj := 100) rfl (vb rfl c11) rfl) ?_
                  refine RQ.skip rfl ?_
                  refine RQ.skip rfl ?_
                  refine RQ.skip rfl ?_
                  refine RQ.skip rfl ?_
                  refine RQ.skip rfl ?_
                  refine RQ.skip rfl ?_
                  refine RQ.skip (wantN (dj := 100) rfl (vb rfl c11) rfl) ?_
                  refine RQ.y rfl (Y.pick (b := true) (v := .bool true) (vb rfl c11) rfl) ?_
                  refine RQ.y rfl (Y.move (v := .bool true) rfl) ?_
                  refine RQ.skip (wantN (dj := 115) rfl rfl rfl) ?_
                  refine RQ.skip (wantN (dj := 115) rfl rfl rfl) ?_
                  refine RQ.skip (wantN (dj := 115) rfl rfl rfl) ?_
                  refine RQ.skip (wantN (dj := 115) rfl rfl rfl) ?_
                  refine RQ.skip (wantN (dj := 115) rfl rfl rfl) ?_
                  refine RQ.skip (wantN (dj := 115) rfl rfl rfl) ?_
                  refine RQ.skip rfl ?_
                  refine RQ.skip rfl ?_
                  refine RQ.skip rfl ?_
                  refine RQ.skip rfl ?_
                  refine RQ.skip rfl ?_
                  refine RQ.skip rfl ?_
                  refine RQ.skip rfl ?_
                  refine RQ.skip (wantN (dj := 115) rfl rfl rfl) ?_
                  refine RQ.y rfl (Y.pick (b := true) (v := .bool true) rfl rfl) ?_
                  refine RQ.nil ?_
                  intro w36 hb37
                  have szw36 := hb37.size
                  have T := Tt T hb37
                  refine then_n ?_
                  refine cond_t rfl rfl ?_
                  refine wp_seq ?_
                  refine wp_rs rfl ?_
                  refine RQ.y rfl (Y.assign (v := .bool false) rfl) ?_
                  refine RQ.nil ?_
                  refine then_n ?_
                  refine wp_ret ?_
                  obtain rfl := Option.some.inj hm
                  exact (then_r (blk_r (then_r (ret1 rfl rfl rfl ⟨rfl, T⟩))))
            · replace hm := cT c8 hm
              refine cond_t rfl (vb rfl c8) ?_
              refine wp_skip ?_
              refine then_n ?_
              refine cond_t rfl (vb rfl c8) ?_
              refine wp_seq ?_
              refine wp_seq ?_
              refine wp_rb rfl ?_
              refine RQ.y rfl (Y.move (v := .pointer (some ⟨ba0, oa0, none⟩)) s0) ?_
              refine RQ.y rfl (Y.nilCheck rfl) ?_
              refine RQ.y rfl (Y.fieldAddr (off := 2) rfl (by kernel_rfl)) ?_
              refine RQ.y rfl (Y.load (v := .int .i64 d0.value) rfl (by kernel_rfl) (beC (cellT T (hca0 2 _ rfl)))) ?_
              refine RQ.y rfl (Y.binI (v := .bool (d0.value != 0)) rfl rfl rfl) ?_
              refine RQ.y rfl (Y.move (v := .bool (d0.value != 0)) rfl) ?_
              rcases bcases (d0.value != 0) with c38 | c38
              · replace hm := cF c38 hm
                refine RQ.y (wantT (dj := 100) rfl (vb rfl c38)) (Y.move (v := .pointer (some ⟨ba0, oa0, none⟩)) s0) ?_
                refine RQ.y (wantT (dj := 100) rfl (vb rfl c38)) (Y.nilCheck rfl) ?_
                refine RQ.y (wantT (dj := 100) rfl (vb rfl c38)) (Y.fieldAddr (off := 0) rfl (by kernel_rfl)) ?_
                refine RQ.y (wantT (dj := 100) rfl (vb rfl c38)) (Y.load (v := .int .i64 d0.kind) rfl (by kernel_rfl) (beC (cellT T (hca0 0 _ rfl)))) ?_
                refine RQ.y (wantT (dj := 100) rfl (vb rfl c38)) (Y.binI (v := .bool (d0.kind == 11)) rfl rfl rfl) ?_
                refine RQ.y (wantT (dj := 100) rfl (vb rfl c38)) (Y.move (v := .bool (d0.kind == 11)) rfl) ?_
                rcases bcases (d0.kind == 11) with c39 | c39
                · replace hm := cF c39 hm
                  refine RQ.skip (wantN (dj := 106) rfl (vb rfl c39) rfl) ?_
                  refine RQ.skip (wantN (dj := 106) rfl (vb rfl c39) rfl) ?_
                  refine RQ.skip (wantN (dj := 106) rfl (vb rfl c39) rfl) ?_
                  refine RQ.skip (wantN (dj := 106) rfl (vb rfl c39) rfl) ?_
                  refine RQ.skip (wantN (dj := 106) rfl (vb rfl c39) rfl) ?_
                  refine RQ.skip (wantN (dj := 106) rfl (vb rfl c39) rfl) ?_
                  refine RQ.y (wantT (dj := 100) rfl (vb rfl c38)) (Y.pick (b := false) (v := .bool false) (vb rfl c39) rfl) ?_
                  refine RQ.y rfl (Y.pick (b := false) (v := .bool false) (vb rfl c38) rfl) ?_
                  refine RQ.y rfl (Y.move (v := .bool false) rfl) ?_
                  refine RQ.y rfl (Y.move (v := .pointer (some ⟨ba0, oa0, none⟩)) s0) ?_
                  refine RQ.y rfl (Y.nilCheck rfl) ?_
                  refine RQ.y rfl (Y.fieldAddr (off := 0) rfl (by kernel_rfl)) ?_
                  refine RQ.y rfl (Y.load (v := .int .i64 d0.kind) rfl (by kernel_rfl) (beC (cellT T (hca0 0 _ rfl)))) ?_
                  refine RQ.y rfl (Y.binI (v := .bool (d0.kind == 10)) rfl rfl rfl) ?_
                  refine RQ.y rfl (Y.move (v := .bool (d0.kind == 10)) rfl) ?_
                  refine RQ.y (wantT (dj := 121) rfl (vb rfl c8)) (Y.move (v := .pointer (some ⟨ba0, oa0, none⟩)) s0) ?_
                  refine RQ.y (wantT (dj := 121) rfl (vb rfl c8)) (Y.nilCheck rfl) ?_
                  refine RQ.y (wantT (dj := 121) rfl (vb rfl c8)) (Y.fieldAddr (off := 3) rfl (by kernel_rfl)) ?_
                  refine RQ.y (wantT (dj := 121) rfl (vb rfl c8)) (Y.load (v := .slice A1 d0.data.length c1) rfl (by kernel_rfl) (beC (cellT T (hca0 3 _ rfl)))) ?_
                  refine RQ.y (wantT (dj := 121) rfl (vb rfl c8)) (Y.len (by kernel_rfl) rfl) ?_
                  refine RQ.call (wantT (dj := 121) rfl (vb rfl c8)) (am3 rfl rfl rfl) (by kernel_rfl) (v := .bool (inR (d0.data.length : Int) 1 4)) (bel (K := fun _ => True) fun w' hb' => (callB (spec_l00In (d0.data.length : Int) 1 4 w'))) ?_
                  refine RQ.y (wantT (dj := 121) rfl (vb rfl c8)) (Y.not (b' := (!(inR (d0.data.length : Int) 1 4))) rfl rfl) ?_
                  refine RQ.y rfl (Y.pick (b := true) (v := .bool (!(inR (d0.data.length : Int) 1 4))) (vb rfl c8) rfl) ?_
                  refine RQ.y rfl (Y.pick (b := false) (v := .bool (!(inR (d0.data.length : Int) 1 4))) rfl rfl) ?_
                  refine RQ.nil ?_
                  intro w40 hb41
                  have szw40 := hb41.size
                  have T := Tt T hb41
                  refine then_n ?_
                  rcases bcases (inR (d0.data.length : Int) 1 4) with c42 | c42
                  · replace hm := cF c42 hm
                    refine cond_t rfl (vbn rfl c42 rfl) ?_
                    refine wp_seq ?_
                    refine wp_rs rfl ?_
                    refine RQ.y rfl (Y.assign (v := .bool false) rfl) ?_
                    refine RQ.nil ?_
                    refine then_n ?_
                    refine wp_ret ?_
                    obtain rfl := Option.some.inj hm
                    exact (then_r (blk_r (then_r (ret1 rfl rfl rfl ⟨rfl, T⟩))))
                  · replace hm := cT c42 hm
                    refine cond_f rfl (vbn rfl c42 rfl) ?_
                    refine wp_skip ?_
                    refine then_n ?_
                    refine wp_seq ?_
                    refine wp_seq ?_
                    refine wp_rs rfl ?_
                    refine RQ.y rfl (Y.assign (v := .int .i64 0) rfl) ?_
                    refine RQ.nil ?_
                    refine then_n ?_
                    refine wp_block ?_
                    obtain ⟨K2, hK2, hm⟩ : ∃ K, K = m_spec_l11Content_A2 ∧ m_spec_l11Content_L2 d0 K (d0.data.length + 1) 0 = some r := ⟨_, rfl, hm⟩
                    refine wp_loopX (fun g f w' => ∃ (i44 : Int), f 0 = .pointer (some ⟨ba0, oa0, none⟩) ∧ f 3 = .int .i64 i44 ∧ 0 ≤ i44 ∧ Below w.heap.size w w' ∧ m_spec_l11Content_L2 d0 K2 g i44 = some r) 1 (fun f w' => Below w.heap.size w w' ∧ m_spec_l11Content_A2  = some r) (d0.data.length + 1) ⟨0, s0, rfl, (by omega), T, hm⟩ ?_ ?_
                    · rintro f w43 ⟨T, hm⟩
                      unfold m_spec_l11Content_A2 at hm
                      refine blk_hit (then_n ?_)
                      refine wp_seq ?_
                      refine wp_rs rfl ?_
                      refine RQ.y rfl (Y.assign (v := .bool true) rfl) ?_
                      refine RQ.nil ?_
                      refine then_n ?_
                      refine wp_ret ?_
                      obtain rfl := Option.some.inj hm
                      exact (blk_r (then_r (ret1 rfl rfl rfl ⟨rfl, T⟩)))
                    · rintro g f w45 ⟨i44, s0_2, s3_2, nn3_2, T, hm⟩
                      rcases g with _ | g
                      · simp only [m_spec_l11Content_L2] at hm; cases hm
                      obtain ⟨rec2, hrec2, hm⟩ : ∃ z, z = m_spec_l11Content_L2 d0 K2 g ∧ m_spec_l11Content_B2 d0 z K2 i44 = some r := ⟨_, rfl, hm⟩
                      unfold m_spec_l11Content_B2 at hm
                      refine wp_seq ?_
                      refine wp_seq ?_
                      refine wp_rs rfl ?_
                      refine RQ.y rfl (Y.move (v := .int .i64 i44) s3_2) ?_
                      refine RQ.y rfl (Y.move (v := .pointer (some ⟨ba0, oa0, none⟩)) s0_2) ?_
                      refine RQ.y rfl (Y.nilCheck rfl) ?_
                      refine RQ.y rfl (Y.fieldAddr (off := 3) rfl (by kernel_rfl)) ?_
                      refine RQ.y rfl (Y.load (v := .slice A1 d0.data.length c1) rfl (by kernel_rfl) (eqC (cellT T (hca0 3 _ rfl)))) ?_
                      refine RQ.y rfl (Y.len (by kernel_rfl) rfl) ?_
                      refine RQ.y rfl (Y.binI (v := .bool (decide (i44 < (d0.data.length : Int)))) rfl rfl rfl) ?_
                      refine RQ.nil ?_
                      refine then_n ?_
                      rcases bcases (decide (i44 < (d0.data.length : Int))) with c46 | c46
                      · replace hm := cF c46 hm
                        have pc46 := of_decide_eq_false c46
                        refine cond_f rfl (vb rfl c46) ?_
                        refine wp_exit ?_
                        exact (then_x (then_x (hit_x ⟨_, rfl, ⟨T, (by rw [hK2] at hm; exact hm)⟩⟩)))
                      · replace hm := cT c46 hm
                        have pc46 := of_decide_eq_true c46
                        refine cond_t rfl (vb rfl c46) ?_
                        refine wp_skip ?_
                        refine then_n ?_
                        refine wp_seq ?_
                        refine wp_block ?_
                        refine wp_seq ?_
                        refine wp_rb rfl ?_
                        refine RQ.y rfl (Y.move (v := .pointer (some ⟨ba0, oa0, none⟩)) s0_2) ?_
                        refine RQ.y rfl (Y.nilCheck rfl) ?_
                        refine RQ.y rfl (Y.fieldAddr (off := 3) rfl (by kernel_rfl)) ?_
                        refine RQ.y rfl (Y.load (v := .slice A1 d0.data.length c1) rfl (by kernel_rfl) (beC (cellT T (hca0 3 _ rfl)))) ?_
                        refine RQ.y rfl (Y.move (v := .int .i64 i44) s3_2) ?_
                        obtain ⟨x47, hx50, hm⟩ := bnd hm
                        obtain ⟨k48, hk51, hl52, hx50⟩ := getI_some hx50
                        obtain ⟨b54, o55, rfl, hbb54⟩ := h1.addr (by omega)
                        obtain ⟨cs49, hRcs49, hc53⟩ := h1.el hx50
                        have hScs49 := hRcs49
                        obtain rfl := hRcs49
                        refine RQ.y rfl (Y.indexAddr (m := k48) (sz := 1) rfl rfl hk51 hl52 (by kernel_rfl)) ?_
                        refine RQ.y rfl (Y.load (v := .int .i64 x47) rfl (by kernel_rfl) (beC (cellT T (hc53 0 _ rfl)))) ?_
                        obtain ⟨y56, e57, hm⟩ := bnd hm
                        refine RQ.call rfl (am1 rfl) (by kernel_rfl) (v := .bool y56) (bel (K := fun _ => True) fun w' hb' => (c_m_spec_l11Def x47 _ e57  w' )) ?_
                        refine RQ.y rfl (Y.not (b' := (!y56)) rfl rfl) ?_
                        refine RQ.nil ?_
                        intro w58 hb59
                        have szw58 := hb59.size
                        have T := Tt T hb59
                        refine then_n ?_
                        rcases bcases y56 with c60 | c60
                        · replace hm := cF c60 hm
                          refine cond_t rfl (vbn rfl c60 rfl) ?_
                          refine wp_seq ?_
                          refine wp_rs rfl ?_
                          refine RQ.y rfl (Y.assign (v := .bool false) rfl) ?_
                          refine RQ.nil ?_
                          refine then_n ?_
                          refine wp_ret ?_
                          obtain rfl := Option.some.inj hm
                          exact (blk_r (then_r (then_r (hit_r (blk_r (then_r (blk_r (then_r (ret1 rfl rfl rfl ⟨rfl, T⟩)))))))))
                        · replace hm := cT c60 hm
                          refine cond_f rfl (vbn rfl c60 rfl) ?_
                          refine wp_skip ?_
                          refine blk_n (then_n ?_)
                          refine wp_rs rfl ?_
                          refine RQ.y rfl (Y.move (v := .int .i64 i44) s3_2) ?_
                          refine RQ.y rfl (Y.binI rfl rfl (binI_add (m := i44) (by omega))) ?_
                          refine RQ.y rfl (Y.assign (v := .int .i64 (i44 + 1)) rfl) ?_
                          refine RQ.nil ?_
                          exact (then_n ⟨g, _, Nat.lt_succ_self _, rfl, ⟨(i44 + 1), s0_2, rfl, (by omega), T, (by rw [← hrec2]; exact hm)⟩⟩)
                · replace hm := cT c39 hm
                  refine RQ.y (wantT (dj := 106) rfl (vb rfl c39)) (Y.move (v := .pointer (some ⟨ba0, oa0, none⟩)) s0) ?_
                  refine RQ.y (wantT (dj := 106) rfl (vb rfl c39)) (Y.nilCheck rfl) ?_
                  refine RQ.y (wantT (dj := 106) rfl (vb rfl c39)) (Y.fieldAddr (off := 3) rfl (by kernel_rfl)) ?_
                  refine RQ.y (wantT (dj := 106) rfl (vb rfl c39)) (Y.load (v := .slice A1 d0.data.length c1) rfl (by kernel_rfl) (beC (cellT T (hca0 3 _ rfl)))) ?_
                  refine RQ.y (wantT (dj := 106) rfl (vb rfl c39)) (Y.len (by kernel_rfl) rfl) ?_
                  refine RQ.y (wantT (dj := 106) rfl (vb rfl c39)) (Y.binI (v := .bool ((d0.data.length : Int) != 2)) rfl rfl rfl) ?_
                  refine RQ.y (wantT (dj := 100) rfl (vb rfl c38)) (Y.pick (b := true) (v := .bool ((d0.data.length : Int) != 2)) (vb rfl c39) rfl) ?_
                  refine RQ.y rfl (Y.pick (b := false) (v := .bool ((d0.data.length : Int) != 2)) (vb rfl c38) rfl) ?_
                  refine RQ.y rfl (Y.move (v := .bool ((d0.data.length : Int) != 2)) rfl) ?_
                  rcases bcases ((d0.data.length : Int) != 2) with c62 | c62
                  · replace hm := cF c62 hm
                    refine RQ.y (wantT (dj := 115) rfl (vb rfl c62)) (Y.move (v := .pointer (some ⟨ba0, oa0, none⟩)) s0) ?_
                    refine RQ.y (wantT (dj := 115) rfl (vb rfl c62)) (Y.nilCheck rfl) ?_
                    refine RQ.y (wantT (dj := 115) rfl (vb rfl c62)) (Y.fieldAddr (off := 0) rfl (by kernel_rfl)) ?_
                    refine RQ.y (wantT (dj := 115) rfl (vb rfl c62)) (Y.load (v := .int .i64 d0.kind) rfl (by kernel_rfl) (beC (cellT T (hca0 0 _ rfl)))) ?_
                    refine RQ.y (wantT (dj := 115) rfl (vb rfl c62)) (Y.binI (v := .bool (d0.kind == 10)) rfl rfl rfl) ?_
                    refine RQ.y (wantT (dj := 115) rfl (vb rfl c62)) (Y.move (v := .bool (d0.kind == 10)) rfl) ?_
                    refine RQ.y (wantT (dj := 121) rfl (vb rfl c8)) (Y.move (v := .pointer (some ⟨ba0, oa0, none⟩)) s0) ?_
                    refine RQ.y (wantT (dj := 121) rfl (vb rfl c8)) (Y.nilCheck rfl) ?_
                    refine RQ.y (wantT (dj := 121) rfl (vb rfl c8)) (Y.fieldAddr (off := 3) rfl (by kernel_rfl)) ?_
                    refine RQ.y (wantT (dj := 121) rfl (vb rfl c8)) (Y.load (v := .slice A1 d0.data.length c1) rfl (by kernel_rfl) (beC (cellT T (hca0 3 _ rfl)))) ?_
                    refine RQ.y (wantT (dj := 121) rfl (vb rfl c8)) (Y.len (by kernel_rfl) rfl) ?_
                    refine RQ.call (wantT (dj := 121) rfl (vb rfl c8)) (am3 rfl rfl rfl) (by kernel_rfl) (v := .bool (inR (d0.data.length : Int) 1 4)) (bel (K := fun _ => True) fun w' hb' => (callB (spec_l00In (d0.data.length : Int) 1 4 w'))) ?_
                    refine RQ.y (wantT (dj := 121) rfl (vb rfl c8)) (Y.not (b' := (!(inR (d0.data.length : Int) 1 4))) rfl rfl) ?_
                    refine RQ.y (wantT (dj := 115) rfl (vb rfl c62)) (Y.pick (b := true) (v := .bool (!(inR (d0.data.length : Int) 1 4))) (vb rfl c8) rfl) ?_
                    refine RQ.y rfl (Y.pick (b := false) (v := .bool (!(inR (d0.data.length : Int) 1 4))) (vb rfl c62) rfl) ?_
                    refine RQ.nil ?_
                    intro w63 hb64
                    have szw63 := hb64.size
                    have T := Tt T hb64
                    refine then_n ?_
                    rcases bcases (inR (d0.data.length : Int) 1 4) with c65 | c65
                    · replace hm := cF c65 hm
                      refine cond_t rfl (vbn rfl c65 rfl) ?_
                      refine wp_seq ?_
                      refine wp_rs rfl ?_
                      refine RQ.y rfl (Y.assign (v := .bool false) rfl) ?_
                      refine RQ.nil ?_
                      refine then_n ?_
                      refine wp_ret ?_
                      obtain rfl := Option.some.inj hm
                      exact (then_r (blk_r (then_r (ret1 rfl rfl rfl ⟨rfl, T⟩))))
                    · replace hm := cT c65 hm
                      refine cond_f rfl (vbn rfl c65 rfl) ?_
                      refine wp_skip ?_
                      refine then_n ?_
                      refine wp_seq ?_
                      refine wp_seq ?_
                      refine wp_rs rfl ?_
                      refine RQ.y rfl (Y.assign (v := .int .i64 0) rfl) ?_
                      refine RQ.nil ?_
                      refine then_n ?_
                      refine wp_block ?_
                      obtain ⟨K3, hK3, hm⟩ : ∃ K, K = m_spec_l11Content_A3 ∧ m_spec_l11Content_L3 d0 K (d0.data.length + 1) 0 = some r := ⟨_, rfl, hm⟩
                      refine wp_loopX (fun g f w' => ∃ (i67 : Int), f 0 = .pointer (some ⟨ba0, oa0, none⟩) ∧ f 3 = .int .i64 i67 ∧ 0 ≤ i67 ∧ Below w.heap.size w w' ∧ m_spec_l11Content_L3 d0 K3 g i67 = some r) 1 (fun f w' => Below w.heap.size w w' ∧ m_spec_l11Content_A3  = some r) (d0.data.length + 1) ⟨0, s0, rfl, (by omega), T, hm⟩ ?_ ?_
                      · rintro f w66 ⟨T, hm⟩
                        unfold m_spec_l11Content_A3 at hm
                        refine blk_hit (then_n ?_)
                        refine wp_seq ?_
                        refine wp_rs rfl ?_
                        refine RQ.y rfl (Y.assign (v := .bool true) rfl) ?_
                        refine RQ.nil ?_
                        refine then_n ?_
                        refine wp_ret ?_
                        obtain rfl := Option.some.inj hm
                        exact (blk_r (then_r (ret1 rfl rfl rfl ⟨rfl, T⟩)))
                      · rintro g f w68 ⟨i67, s0_3, s3_3, nn3_3, T, hm⟩
                        rcases g with _ | g
                        · simp only [m_spec_l11Content_L3] at hm; cases hm
                        obtain ⟨rec3, hrec3, hm⟩ : ∃ z, z = m_spec_l11Content_L3 d0 K3 g ∧ m_spec_l11Content_B3 d0 z K3 i67 = some r := ⟨_, rfl, hm⟩
                        unfold m_spec_l11Content_B3 at hm
                        refine wp_seq ?_
                        refine wp_seq ?_
                        refine wp_rs rfl ?_
                        refine RQ.y rfl (Y.move (v := .int .i64 i67) s3_3) ?_
                        refine RQ.y rfl (Y.move (v := .pointer (some ⟨ba0, oa0, none⟩)) s0_3) ?_
                        refine RQ.y rfl (Y.nilCheck rfl) ?_
                        refine RQ.y rfl (Y.fieldAddr (off := 3) rfl (by kernel_rfl)) ?_
                        refine RQ.y rfl (Y.load (v := .slice A1 d0.data.length c1) rfl (by kernel_rfl) (eqC (cellT T (hca0 3 _ rfl)))) ?_
                        refine RQ.y rfl (Y.len (by kernel_rfl) rfl) ?_
                        refine RQ.y rfl (Y.binI (v := .bool (decide (i67 < (d0.data.length : Int)))) rfl rfl rfl) ?_
                        refine RQ.nil ?_
                        refine then_n ?_
                        rcases bcases (decide (i67 < (d0.data.length : Int))) with c69 | c69
                        · replace hm := cF c69 hm
                          have pc69 := of_decide_eq_false c69
                          refine cond_f rfl (vb rfl c69) ?_
                          refine wp_exit ?_
                          exact (then_x (then_x (hit_x ⟨_, rfl, ⟨T, (by rw [hK3] at hm; exact hm)⟩⟩)))
                        · replace hm := cT c69 hm
                          have pc69 := of_decide_eq_true c69
                          refine cond_t rfl (vb rfl c69) ?_
                          refine wp_skip ?_
                          refine then_n ?_
                          refine wp_seq ?_
                          refine wp_block ?_
                          refine wp_seq ?_
                          refine wp_rb rfl ?_
                          refine RQ.y rfl (Y.move (v := .pointer (some ⟨ba0, oa0, none⟩)) s0_3) ?_
                          refine RQ.y rfl (Y.nilCheck rfl) ?_
                          refine RQ.y rfl (Y.fieldAddr (off := 3) rfl (by kernel_rfl)) ?_
                          refine RQ.y rfl (Y.load (v := .slice A1 d0.data.length c1) rfl (by kernel_rfl) (beC (cellT T (hca0 3 _ rfl)))) ?_
                          refine RQ.y rfl (Y.move (v := .int .i64 i67) s3_3) ?_
                          obtain ⟨x70, hx73, hm⟩ := bnd hm
                          obtain ⟨k71, hk74, hl75, hx73⟩ := getI_some hx73
                          obtain ⟨b77, o78, rfl, hbb77⟩ := h1.addr (by omega)
                          obtain ⟨cs72, hRcs72, hc76⟩ := h1.el hx73
                          have hScs72 := hRcs72
                          obtain rfl := hRcs72
                          refine RQ.y rfl (Y.indexAddr (m := k71) (sz := 1) rfl rfl hk74 hl75 (by kernel_rfl)) ?_
                          refine RQ.y rfl (Y.load (v := .int .i64 x70) rfl (by kernel_rfl) (beC (cellT T (hc76 0 _ rfl)))) ?_
                          obtain ⟨y79, e80, hm⟩ := bnd hm
                          refine RQ.call rfl (am1 rfl) (by kernel_rfl) (v := .bool y79) (bel (K := fun _ => True) fun w' hb' => (c_m_spec_l11Def x70 _ e80  w' )) ?_
                          refine RQ.y rfl (Y.not (b' := (!y79)) rfl rfl) ?_
                          refine RQ.nil ?_
                          intro w81 hb82
                          have szw81 := hb82.size
                          have T := Tt T hb82
                          refine then_n ?_
                          rcases bcases y79 with c83 | c83
                          · replace hm := cF c83 hm
                            refine cond_t rfl (vbn rfl c83 rfl) ?_
                            refine wp_seq ?_
                            refine wp_rs rfl ?_
                            refine RQ.y rfl (Y.assign (v := .bool false) rfl) ?_
                            refine RQ.nil ?_
                            refine then_n ?_
                            refine wp_ret ?_
                            obtain rfl := Option.some.inj hm
                            exact (blk_r (then_r (then_r (hit_r (blk_r (then_r (blk_r (then_r (ret1 rfl rfl rfl ⟨rfl, T⟩)))))))))
                          · replace hm := cT c83 hm
                            refine cond_f rfl (vbn rfl c83 rfl) ?_
                            refine wp_skip ?_
                            refine blk_n (then_n ?_)
                            refine wp_rs rfl ?_
                            refine RQ.y rfl (Y.move (v := .int .i64 i67) s3_3) ?_
                            refine RQ.y rfl (Y.binI rfl rfl (binI_add (m := i67) (by omega))) ?_
                            refine RQ.y rfl (Y.assign (v := .int .i64 (i67 + 1)) rfl) ?_
                            refine RQ.nil ?_
                            exact (then_n ⟨g, _, Nat.lt_succ_self _, rfl, ⟨(i67 + 1), s0_3, rfl, (by omega), T, (by rw [← hrec3]; exact hm)⟩⟩)
                  · replace hm := cT c62 hm
                    refine RQ.skip (wantN (dj := 115) rfl (vb rfl c62) rfl) ?_
                    refine RQ.skip (wantN (dj := 115) rfl (vb rfl c62) rfl) ?_
                    refine RQ.skip (wantN (dj := 115) rfl (vb rfl c62) rfl) ?_
                    refine RQ.skip (wantN (dj := 115) rfl (vb rfl c62) rfl) ?_
                    refine RQ.skip (wantN (dj := 115) rfl (vb rfl c62) rfl) ?_
                    refine RQ.skip (wantN (dj := 115) rfl (vb rfl c62) rfl) ?_
                    refine RQ.skip rfl ?_
                    refine RQ.skip rfl ?_
                    refine RQ.skip rfl ?_
                    refine RQ.skip rfl ?_
                    refine RQ.skip rfl ?_
                    refine RQ.skip rfl ?_
                    refine RQ.skip rfl ?_
                    refine RQ.skip (wantN (dj := 115) rfl (vb rfl c62) rfl) ?_
                    refine RQ.y rfl (Y.pick (b := true) (v := .bool true) (vb rfl c62) rfl) ?_
                    refine RQ.nil ?_
                    intro w85 hb86
                    have szw85 := hb86.size
                    have T := Tt T hb86
                    refine then_n ?_
                    refine cond_t rfl rfl ?_
                    refine wp_seq ?_
                    refine wp_rs rfl ?_
                    refine RQ.y rfl (Y.assign (v := .bool false) rfl) ?_
                    refine RQ.nil ?_
                    refine then_n ?_
                    refine wp_ret ?_
                    obtain rfl := Option.some.inj hm
                    exact (then_r (blk_r (then_r (ret1 rfl rfl rfl ⟨rfl, T⟩))))
              · replace hm := cT c38 hm
                refine RQ.skip (wantN (dj := 100) rfl (vb rfl c38) rfl) ?_
                refine RQ.skip (wantN (dj := 100) rfl (vb rfl c38) rfl) ?_
                refine RQ.skip (wantN (dj := 100) rfl (vb rfl c38) rfl) ?_
                refine RQ.skip (wantN (dj := 100) rfl (vb rfl c38) rfl) ?_
                refine RQ.skip (wantN (dj := 100) rfl (vb rfl c38) rfl) ?_
                refine RQ.skip (wantN (dj := 100) rfl (vb rfl c38) rfl) ?_
                refine RQ.skip rfl ?_
                refine RQ.skip rfl ?_
                refine RQ.skip rfl ?_
                refine RQ.skip rfl ?_
                refine RQ.skip rfl ?_
                refine RQ.skip rfl ?_
                refine RQ.skip (wantN (dj := 100) rfl (vb rfl c38) rfl) ?_
                refine RQ.y rfl (Y.pick (b := true) (v := .bool true) (vb rfl c38) rfl) ?_
                refine RQ.y rfl (Y.move (v := .bool true) rfl) ?_
                refine RQ.skip (wantN (dj := 115) rfl rfl rfl) ?_
                refine RQ.skip (wantN (dj := 115) rfl rfl rfl) ?_
                refine RQ.skip (wantN (dj := 115) rfl rfl rfl) ?_
                refine RQ.skip (wantN (dj := 115) rfl rfl rfl) ?_
                refine RQ.skip (wantN (dj := 115) rfl rfl rfl) ?_
                refine RQ.skip (wantN (dj := 115) rfl rfl rfl) ?_
                refine RQ.skip rfl ?_
                refine RQ.skip rfl ?_
                refine RQ.skip rfl ?_
                refine RQ.skip rfl ?_
                refine RQ.skip rfl ?_
                refine RQ.skip rfl ?_
                refine RQ.skip rfl ?_
                refine RQ.skip (wantN (dj := 115) rfl rfl rfl) ?_
                refine RQ.y rfl (Y.pick (b := true) (v := .bool true) rfl rfl) ?_
                refine RQ.nil ?_
                intro w87 hb88
                have szw87 := hb88.size
                have T := Tt T hb88
                refine then_n ?_
                refine cond_t rfl rfl ?_
                refine wp_seq ?_
                refine wp_rs rfl ?_
                refine RQ.y rfl (Y.assign (v := .bool false) rfl) ?_
                refine RQ.nil ?_
                refine then_n ?_
                refine wp_ret ?_
                obtain rfl := Option.some.inj hm
                exact (then_r (blk_r (then_r (ret1 rfl rfl rfl ⟨rfl, T⟩))))
          · replace hm := cT c7 hm
            refine cond_t rfl (vb rfl c7) ?_
            refine wp_seq ?_
            refine wp_rb rfl ?_
            refine RQ.y rfl (Y.move (v := .pointer (some ⟨ba0, oa0, none⟩)) s0) ?_
            refine RQ.y rfl (Y.nilCheck rfl) ?_
            refine RQ.y rfl (Y.fieldAddr (off := 3) rfl (by kernel_rfl)) ?_
            refine RQ.y rfl (Y.load (v := .slice A1 d0.data.length c1) rfl (by kernel_rfl) (beC (cellT T (hca0 3 _ rfl)))) ?_
            refine RQ.y rfl (Y.len (by kernel_rfl) rfl) ?_
            refine RQ.y rfl (Y.binI (v := .bool ((d0.data.length : Int) == 0)) rfl rfl rfl) ?_
            refine RQ.y rfl (Y.move (v := .bool ((d0.data.length : Int) == 0)) rfl) ?_
            rcases bcases ((d0.data.length : Int) == 0) with c89 | c89
            · replace hm := cF c89 hm
              refine RQ.skip (wantN (dj := 85) rfl (vb rfl c89) rfl) ?_
              refine RQ.skip (wantN (dj := 85) rfl (vb rfl c89) rfl) ?_
              refine RQ.skip (wantN (dj := 85) rfl (vb rfl c89) rfl) ?_
              refine RQ.skip (wantN (dj := 85) rfl (vb rfl c89) rfl) ?_
              refine RQ.skip (wantN (dj := 85) rfl (vb rfl c89) rfl) ?_
              refine RQ.y rfl (Y.pick (b := false) (v := .bool false) (vb rfl c89) rfl) ?_
              refine RQ.y rfl (Y.assign (v := .bool false) rfl) ?_
              refine RQ.nil ?_
              intro w90 hb91
              have szw90 := hb91.size
              have T := Tt T hb91
              refine then_n ?_
              refine wp_ret ?_
              obtain rfl := Option.some.inj hm
              exact (blk_r (then_r (ret1 rfl rfl rfl ⟨rfl, T⟩)))
            · replace hm := cT c89 hm
              refine RQ.y (wantT (dj := 85) rfl (vb rfl c89)) (Y.move (v := .pointer (some ⟨ba0, oa0, none⟩)) s0) ?_
              refine RQ.y (wantT (dj := 85) rfl (vb rfl c89)) (Y.nilCheck rfl) ?_
              refine RQ.y (wantT (dj := 85) rfl (vb rfl c89)) (Y.fieldAddr (off := 2) rfl (by kernel_rfl)) ?_
              refine RQ.y (wantT (dj := 85) rfl (vb rfl c89)) (Y.load (v := .int .i64 d0.value) rfl (by kernel_rfl) (beC (cellT T (hca0 2 _ rfl)))) ?_
              obtain ⟨y92, e93, hm⟩ := bnd hm
              refine RQ.call (wantT (dj := 85) rfl (vb rfl c89)) (am1 rfl) (by kernel_rfl) (v := .bool y92) (bel (K := fun _ => True) fun w' hb' => (c_m_spec_l11Def d0.value _ e93  w' )) ?_
              refine RQ.y rfl (Y.pick (b := true) (v := .bool y92) (vb rfl c89) rfl) ?_
              refine RQ.y rfl (Y.assign (v := .bool y92) rfl) ?_
              refine RQ.nil ?_
              intro w94 hb95
              have szw94 := hb95.size
              have T := Tt T hb95
              refine then_n ?_
              refine wp_ret ?_
              obtain rfl := Option.some.inj hm
              exact (blk_r (then_r (ret1 rfl rfl rfl ⟨rfl, T⟩)))
        · replace hm := cT c6 hm
          refine cond_t rfl (vb rfl c6) ?_
          refine wp_seq ?_
          refine wp_rb rfl ?_
          refine RQ.y rfl (Y.move (v := .pointer (some ⟨ba0, oa0, none⟩)) s0) ?_
          refine RQ.y rfl (Y.nilCheck rfl) ?_
          refine RQ.y rfl (Y.fieldAddr (off := 3) rfl (by kernel_rfl)) ?_
          refine RQ.y rfl (Y.load (v := .slice A1 d0.data.length c1) rfl (by kernel_rfl) (beC (cellT T (hca0 3 _ rfl)))) ?_
          refine RQ.y rfl (Y.len (by kernel_rfl) rfl) ?_
          refine RQ.y rfl (Y.binI (v := .bool ((d0.data.length : Int) == 0)) rfl rfl rfl) ?_
          refine RQ.y rfl (Y.move (v := .bool ((d0.data.length : Int) == 0)) rfl) ?_
          rcases bcases ((d0.data.length : Int) == 0) with c96 | c96
          · replace hm := cF c96 hm
            refine RQ.skip (wantN (dj := 70) rfl (vb rfl c96) rfl) ?_
            refine RQ.skip (wantN (dj := 70) rfl (vb rfl c96) rfl) ?_
            refine RQ.skip (wantN (dj := 70) rfl (vb rfl c96) rfl) ?_
            refine RQ.skip (wantN (dj := 70) rfl (vb rfl c96) rfl) ?_
            refine RQ.skip (wantN (dj := 70) rfl (vb rfl c96) rfl) ?_
            refine RQ.y rfl (Y.pick (b := false) (v := .bool false) (vb rfl c96) rfl) ?_
            refine RQ.y rfl (Y.assign (v := .bool false) rfl) ?_
            refine RQ.nil ?_
            intro w97 hb98
            have szw97 := hb98.size
            have T := Tt T hb98
            refine then_n ?_
            refine wp_ret ?_
            obtain rfl := Option.some.inj hm
            exact (blk_r (then_r (ret1 rfl rfl rfl ⟨rfl, T⟩)))
          · replace hm := cT c96 hm
            refine RQ.y (wantT (dj := 70) rfl (vb rfl c96)) (Y.move (v := .pointer (some ⟨ba0, oa0, none⟩)) s0) ?_
            refine RQ.y (wantT (dj := 70) rfl (vb rfl c96)) (Y.nilCheck rfl) ?_
            refine RQ.y (wantT (dj := 70) rfl (vb rfl c96)) (Y.fieldAddr (off := 2) rfl (by kernel_rfl)) ?_
            refine RQ.y (wantT (dj := 70) rfl (vb rfl c96)) (Y.load (v := .int .i64 d0.value) rfl (by kernel_rfl) (beC (cellT T (hca0 2 _ rfl)))) ?_
            refine RQ.call (wantT (dj := 70) rfl (vb rfl c96)) (am3 rfl rfl rfl) (by kernel_rfl) (v := .bool (inR d0.value 0 3)) (bel (K := fun _ => True) fun w' hb' => (callB (spec_l00In d0.value 0 3 w'))) ?_
            refine RQ.y rfl (Y.pick (b := true) (v := .bool (inR d0.value 0 3)) (vb rfl c96) rfl) ?_
            refine RQ.y rfl (Y.assign (v := .bool (inR d0.value 0 3)) rfl) ?_
            refine RQ.nil ?_
            intro w99 hb100
            have szw99 := hb100.size
            have T := Tt T hb100
            refine then_n ?_
            refine wp_ret ?_
            obtain rfl := Option.some.inj hm
            exact (blk_r (then_r (ret1 rfl rfl rfl ⟨rfl, T⟩)))
      · replace hm := cT c5 hm
        refine cond_t rfl (vb rfl c5) ?_
        refine wp_seq ?_
        refine wp_rb rfl ?_
        refine RQ.y rfl (Y.move (v := .pointer (some ⟨ba0, oa0, none⟩)) s0) ?_
        refine RQ.y rfl (Y.nilCheck rfl) ?_
        refine RQ.y rfl (Y.fieldAddr (off := 3) rfl (by kernel_rfl)) ?_
        refine RQ.y rfl (Y.load (v := .slice A1 d0.data.length c1) rfl (by kernel_rfl) (beC (cellT T (hca0 3 _ rfl)))) ?_
        refine RQ.y rfl (Y.len (by kernel_rfl) rfl) ?_
        refine RQ.y rfl (Y.binI (v := .bool ((d0.data.length : Int) == 1)) rfl rfl rfl) ?_
        refine RQ.y rfl (Y.move (v := .bool ((d0.data.length : Int) == 1)) rfl) ?_
        rcases bcases ((d0.data.length : Int) == 1) with c101 | c101
        · replace hm := cF c101 hm
          refine RQ.skip (wantN (dj := 46) rfl (vb rfl c101) rfl) ?_
          refine RQ.skip (wantN (dj := 46) rfl (vb rfl c101) rfl) ?_
          refine RQ.skip (wantN (dj := 46) rfl (vb rfl c101) rfl) ?_
          refine RQ.skip (wantN (dj := 46) rfl (vb rfl c101) rfl) ?_
          refine RQ.skip (wantN (dj := 46) rfl (vb rfl c101) rfl) ?_
          refine RQ.y rfl (Y.pick (b := false) (v := .bool false) (vb rfl c101) rfl) ?_
          refine RQ.y rfl (Y.move (v := .bool false) rfl) ?_
          refine RQ.skip (wantN (dj := 53) rfl rfl rfl) ?_
          refine RQ.skip (wantN (dj := 53) rfl rfl rfl) ?_
          refine RQ.skip (wantN (dj := 53) rfl rfl rfl) ?_
          refine RQ.skip (wantN (dj := 53) rfl rfl rfl) ?_
          refine RQ.skip (wantN (dj := 53) rfl rfl rfl) ?_
          refine RQ.skip (wantN (dj := 53) rfl rfl rfl) ?_
          refine RQ.skip (wantN (dj := 53) rfl rfl rfl) ?_
          refine RQ.y rfl (Y.pick (b := false) (v := .bool false) rfl rfl) ?_
          refine RQ.y rfl (Y.assign (v := .bool false) rfl) ?_
          refine RQ.nil ?_
          intro w102 hb103
          have szw102 := hb103.size
          have T := Tt T hb103
          refine then_n ?_
          refine wp_ret ?_
          obtain rfl := Option.some.inj hm
          exact (blk_r (then_r (ret1 rfl rfl rfl ⟨rfl, T⟩)))
        · replace hm := cT c101 hm
          refine RQ.y (wantT (dj := 46) rfl (vb rfl c101)) (Y.move (v := .pointer (some ⟨ba0, oa0, none⟩)) s0) ?_
          refine RQ.y (wantT (dj := 46) rfl (vb rfl c101)) (Y.nilCheck rfl) ?_
          refine RQ.y (wantT (dj := 46) rfl (vb rfl c101)) (Y.fieldAddr (off := 2) rfl (by kernel_rfl)) ?_
          refine RQ.y (wantT (dj := 46) rfl (vb rfl c101)) (Y.load (v := .int .i64 d0.value) rfl (by kernel_rfl) (beC (cellT T (hca0 2 _ rfl)))) ?_
          refine RQ.call (wantT (dj := 46) rfl (vb rfl c101)) (am3 rfl rfl rfl) (by kernel_rfl) (v := .bool (inR d0.value 1 6)) (bel (K := fun _ => True) fun w' hb' => (callB (spec_l00In d0.value 1 6 w'))) ?_
          refine RQ.y rfl (Y.pick (b := true) (v := .bool (inR d0.value 1 6)) (vb rfl c101) rfl) ?_
          refine RQ.y rfl (Y.move (v := .bool (inR d0.value 1 6)) rfl) ?_
          rcases bcases (inR d0.value 1 6) with c104 | c104
          · replace hm := cF c104 hm
            refine RQ.skip (wantN (dj := 53) rfl (vb rfl c104) rfl) ?_
            refine RQ.skip (wantN (dj := 53) rfl (vb rfl c104) rfl) ?_
            refine RQ.skip (wantN (dj := 53) rfl (vb rfl c104) rfl) ?_
            refine RQ.skip (wantN (dj := 53) rfl (vb rfl c104) rfl) ?_
            refine RQ.skip (wantN (dj := 53) rfl (vb rfl c104) rfl) ?_
            refine RQ.skip (wantN (dj := 53) rfl (vb rfl c104) rfl) ?_
            refine RQ.skip (wantN (dj := 53) rfl (vb rfl c104) rfl) ?_
            refine RQ.y rfl (Y.pick (b := false) (v := .bool false) (vb rfl c104) rfl) ?_
            refine RQ.y rfl (Y.assign (v := .bool false) rfl) ?_
            refine RQ.nil ?_
            intro w105 hb106
            have szw105 := hb106.size
            have T := Tt T hb106
            refine then_n ?_
            refine wp_ret ?_
            obtain rfl := Option.some.inj hm
            exact (blk_r (then_r (ret1 rfl rfl rfl ⟨rfl, T⟩)))
          · replace hm := cT c104 hm
            refine RQ.y (wantT (dj := 53) rfl (vb rfl c104)) (Y.move (v := .pointer (some ⟨ba0, oa0, none⟩)) s0) ?_
            refine RQ.y (wantT (dj := 53) rfl (vb rfl c104)) (Y.nilCheck rfl) ?_
            refine RQ.y (wantT (dj := 53) rfl (vb rfl c104)) (Y.fieldAddr (off := 3) rfl (by kernel_rfl)) ?_
            refine RQ.y (wantT (dj := 53) rfl (vb rfl c104)) (Y.load (v := .slice A1 d0.data.length c1) rfl (by kernel_rfl) (beC (cellT T (hca0 3 _ rfl)))) ?_
            obtain ⟨x107, hx110, hm⟩ := bnd hm
            obtain ⟨k108, hk111, hl112, hx110⟩ := getI_some hx110
            obtain ⟨b114, o115, rfl, hbb114⟩ := h1.addr (by omega)
            obtain ⟨cs109, hRcs109, hc113⟩ := h1.el hx110
            have hScs109 := hRcs109
            obtain rfl := hRcs109
            refine RQ.y (wantT (dj := 53) rfl (vb rfl c104)) (Y.indexAddr (m := k108) (sz := 1) rfl rfl hk111 hl112 (by kernel_rfl)) ?_
            refine RQ.y (wantT (dj := 53) rfl (vb rfl c104)) (Y.load (v := .int .i64 x107) rfl (by kernel_rfl) (beC (cellT T (hc113 0 _ rfl)))) ?_
            refine RQ.call (wantT (dj := 53) rfl (vb rfl c104)) (am3 rfl rfl rfl) (by kernel_rfl) (v := .bool (inR x107 (-2147483648) 2147483647)) (bel (K := fun _ => True) fun w' hb' => (callB (spec_l00In x107 (-2147483648) 2147483647 w'))) ?_
            refine RQ.y rfl (Y.pick (b := true) (v := .bool (inR x107 (-2147483648) 2147483647)) (vb rfl c104) rfl) ?_
            refine RQ.y rfl (Y.assign (v := .bool (inR x107 (-2147483648) 2147483647)) rfl) ?_
            refine RQ.nil ?_
            intro w116 hb117
            have szw116 := hb117.size
            have T := Tt T hb117
            refine then_n ?_
            refine wp_ret ?_
            obtain rfl := Option.some.inj hm
            exact (blk_r (then_r (ret1 rfl rfl rfl ⟨rfl, T⟩)))
    · replace hm := cT c4 hm
      refine cond_t rfl (vb rfl c4) ?_
      refine wp_seq ?_
      refine wp_rb rfl ?_
      refine RQ.y rfl (Y.move (v := .pointer (some ⟨ba0, oa0, none⟩)) s0) ?_
      refine RQ.y rfl (Y.nilCheck rfl) ?_
      refine RQ.y rfl (Y.fieldAddr (off := 3) rfl (by kernel_rfl)) ?_
      refine RQ.y rfl (Y.load (v := .slice A1 d0.data.length c1) rfl (by kernel_rfl) (beC (cellT T (hca0 3 _ rfl)))) ?_
      refine RQ.y rfl (Y.len (by kernel_rfl) rfl) ?_
      refine RQ.y rfl (Y.binI (v := .bool ((d0.data.length : Int) == 0)) rfl rfl rfl) ?_
      refine RQ.y rfl (Y.move (v := .bool ((d0.data.length : Int) == 0)) rfl) ?_
      rcases bcases ((d0.data.length : Int) == 0) with c118 | c118
      · replace hm := cF c118 hm
        refine RQ.skip (wantN (dj := 31) rfl (vb rfl c118) rfl) ?_
        refine RQ.skip (wantN (dj := 31) rfl (vb rfl c118) rfl) ?_
        refine RQ.skip (wantN (dj := 31) rfl (vb rfl c118) rfl) ?_
        refine RQ.skip (wantN (dj := 31) rfl (vb rfl c118) rfl) ?_
        refine RQ.skip (wantN (dj := 31) rfl (vb rfl c118) rfl) ?_
        refine RQ.y rfl (Y.pick (b := false) (v := .bool false) (vb rfl c118) rfl) ?_
        refine RQ.y rfl (Y.assign (v := .bool false) rfl) ?_
        refine RQ.nil ?_
        intro w119 hb120
        have szw119 := hb120.size
        have T := Tt T hb120
        refine then_n ?_
        refine wp_ret ?_
        obtain rfl := Option.some.inj hm
        exact (blk_r (then_r (ret1 rfl rfl rfl ⟨rfl, T⟩)))
      · replace hm := cT c118 hm
        refine RQ.y (wantT (dj := 31) rfl (vb rfl c118)) (Y.move (v := .pointer (some ⟨ba0, oa0, none⟩)) s0) ?_
        refine RQ.y (wantT (dj := 31) rfl (vb rfl c118)) (Y.nilCheck rfl) ?_
        refine RQ.y (wantT (dj := 31) rfl (vb rfl c118)) (Y.fieldAddr (off := 2) rfl (by kernel_rfl)) ?_
        refine RQ.y (wantT (dj := 31) rfl (vb rfl c118)) (Y.load (v := .int .i64 d0.value) rfl (by kernel_rfl) (beC (cellT T (hca0 2 _ rfl)))) ?_
        refine RQ.call (wantT (dj := 31) rfl (vb rfl c118)) (am3 rfl rfl rfl) (by kernel_rfl) (v := .bool (inR d0.value 1 6)) (bel (K := fun _ => True) fun w' hb' => (callB (spec_l00In d0.value 1 6 w'))) ?_
        refine RQ.y rfl (Y.pick (b := true) (v := .bool (inR d0.value 1 6)) (vb rfl c118) rfl) ?_
        refine RQ.y rfl (Y.assign (v := .bool (inR d0.value 1 6)) rfl) ?_
        refine RQ.nil ?_
        intro w121 hb122
        have szw121 := hb122.size
        have T := Tt T hb122
        refine then_n ?_
        refine wp_ret ?_
        obtain rfl := Option.some.inj hm
        exact (blk_r (then_r (ret1 rfl rfl rfl ⟨rfl, T⟩)))
  · replace hm := cT c3 hm
    refine cond_t rfl (vb rfl c3) ?_
    refine wp_seq ?_
    refine wp_rb rfl ?_
    refine RQ.y rfl (Y.move (v := .pointer (some ⟨ba0, oa0, none⟩)) s0) ?_
    refine RQ.y rfl (Y.nilCheck rfl) ?_
    refine RQ.y rfl (Y.fieldAddr (off := 3) rfl (by kernel_rfl)) ?_
    refine RQ.y rfl (Y.load (v := .slice A1 d0.data.length c1) rfl (by kernel_rfl) (beC (cellT T (hca0 3 _ rfl)))) ?_
    refine RQ.y rfl (Y.len (by kernel_rfl) rfl) ?_
    refine RQ.y rfl (Y.binI (v := .bool ((d0.data.length : Int) == 0)) rfl rfl rfl) ?_
    refine RQ.y rfl (Y.move (v := .bool ((d0.data.length : Int) == 0)) rfl) ?_
    rcases bcases ((d0.data.length : Int) == 0) with c123 | c123
    · replace hm := cF c123 hm
      refine RQ.skip (wantN (dj := 16) rfl (vb rfl c123) rfl) ?_
      refine RQ.skip (wantN (dj := 16) rfl (vb rfl c123) rfl) ?_
      refine RQ.skip (wantN (dj := 16) rfl (vb rfl c123) rfl) ?_
      refine RQ.skip (wantN (dj := 16) rfl (vb rfl c123) rfl) ?_
      refine RQ.skip (wantN (dj := 16) rfl (vb rfl c123) rfl) ?_
      refine RQ.y rfl (Y.pick (b := false) (v := .bool false) (vb rfl c123) rfl) ?_
      refine RQ.y rfl (Y.assign (v := .bool false) rfl) ?_
      refine RQ.nil ?_
      intro w124 hb125
      have szw124 := hb125.size
      have T := Tt T hb125
      refine then_n ?_
      refine wp_ret ?_
      obtain rfl := Option.some.inj hm
      exact (blk_r (then_r (ret1 rfl rfl rfl ⟨rfl, T⟩)))
    · replace hm := cT c123 hm
      refine RQ.y (wantT (dj := 16) rfl (vb rfl c123)) (Y.move (v := .pointer (some ⟨ba0, oa0, none⟩)) s0) ?_
      refine RQ.y (wantT (dj := 16) rfl (vb rfl c123)) (Y.nilCheck rfl) ?_
      refine RQ.y (wantT (dj := 16) rfl (vb rfl c123)) (Y.fieldAddr (off := 2) rfl (by kernel_rfl)) ?_
      refine RQ.y (wantT (dj := 16) rfl (vb rfl c123)) (Y.load (v := .int .i64 d0.value) rfl (by kernel_rfl) (beC (cellT T (hca0 2 _ rfl)))) ?_
      refine RQ.call (wantT (dj := 16) rfl (vb rfl c123)) (am3 rfl rfl rfl) (by kernel_rfl) (v := .bool (inR d0.value (-2147483648) 2147483647)) (bel (K := fun _ => True) fun w' hb' => (callB (spec_l00In d0.value (-2147483648) 2147483647 w'))) ?_
      refine RQ.y rfl (Y.pick (b := true) (v := .bool (inR d0.value (-2147483648) 2147483647)) (vb rfl c123) rfl) ?_
      refine RQ.y rfl (Y.assign (v := .bool (inR d0.value (-2147483648) 2147483647)) rfl) ?_
      refine RQ.nil ?_
      intro w126 hb127
      have szw126 := hb127.size
      have T := Tt T hb127
      refine then_n ?_
      refine wp_ret ?_
      obtain rfl := Option.some.inj hm
      exact (blk_r (then_r (ret1 rfl rfl rfl ⟨rfl, T⟩)))
def m_spec_l11Agent (d0 : DAgent) : Option Bool :=
  ((m_spec_l11Fields d0).bind fun y3 => (bif (decide ((portsOf d0.kind y3) > 0)) then (bif ((d0.ports.length : Int) == (portsOf d0.kind y3)) then (bif (allowed d0.kind d0.level) then ((m_spec_l11Content d0).bind fun y16 => some y16) else some false) else some false) else some false))
set_option maxHeartbeats 2000000 in
theorem c_m_spec_l11Agent (d0 : DAgent) (r : Bool) (hm : m_spec_l11Agent d0 = some r) (v0 : Value) (w : World) (hv0 : Pt agentRd w v0 d0) :
    Calls Try.prog 165 #[v0] w fun e w' => e = .returned (.bool r) ∧ Below w.heap.size w w' := by
  obtain ⟨ba0, oa0, csa0, rfl, hba0, hRa0, hca0⟩ := hv0
  have hSa0 := hRa0
  obtain ⟨A1, n1, c1, A2, n2, c2, rfl, ⟨h1, r1⟩, ⟨h2, r2⟩⟩ := hRa0
  have e1 := h1.len; subst e1
  have q1 := len_le r1
  have e2 := h2.len; subst e2
  have q2 := len_le r2
  have T := Below.refl w.heap.size w
  unfold m_spec_l11Agent at hm
  refine enter 37 Try.func165 rfl rfl rfl ?_
  intro f hf
  have s0 : f 0 = .pointer (some ⟨ba0, oa0, none⟩) := hf 0 _ rfl
  refine wp_seq ?_
  refine wp_rs rfl ?_
  refine RQ.y rfl (Y.assign (v := .bool false) rfl) ?_
  refine RQ.nil ?_
  refine then_n ?_
  refine wp_seq ?_
  refine wp_rbd (by kernel_rfl) (by kernel_rfl) ?_
  refine RQ.y rfl (Y.move (v := .pointer (some ⟨ba0, oa0, none⟩)) s0) ?_
  refine RQ.y rfl (Y.nilCheck rfl) ?_
  refine RQ.y rfl (Y.fieldAddr (off := 0) rfl (by kernel_rfl)) ?_
  refine RQ.y rfl (Y.load (v := .int .i64 d0.kind) rfl (by kernel_rfl) (beC (cellT T (hca0 0 _ rfl)))) ?_
  refine RQ.y rfl (Y.move (v := .pointer (some ⟨ba0, oa0, none⟩)) s0) ?_
  obtain ⟨y3, e4, hm⟩ := bnd hm
  refine RQ.call rfl (am1 rfl) (by kernel_rfl) (v := .int .i64 y3) (bel (K := fun _ => True) fun w' hb' => (c_m_spec_l11Fields d0 _ e4 _ w' (ptArg agentRd_ok hba0 hSa0 hca0 (Tt T hb')))) ?_
  refine RQ.call rfl (am2 rfl rfl) (by kernel_rfl) (v := .int .i64 (portsOf d0.kind y3)) (bel (K := fun _ => True) fun w' hb' => (callB (spec_PortsOf d0.kind y3 w'))) ?_
  refine RQ.y rfl (Y.assign (v := .int .i64 (portsOf d0.kind y3)) rfl) ?_
  refine RQ.nil ?_
  intro w5 hb6
  have szw5 := hb6.size
  have T := Tt T hb6
  refine then_n ?_
  refine wp_seq ?_
  refine wp_rbd (by kernel_rfl) (by kernel_rfl) ?_
  refine RQ.y rfl (Y.move (v := .int .i64 (portsOf d0.kind y3)) rfl) ?_
  refine RQ.y rfl (Y.binI (v := .bool (decide ((portsOf d0.kind y3) > 0))) rfl rfl rfl) ?_
  refine RQ.y rfl (Y.move (v := .bool (decide ((portsOf d0.kind y3) > 0))) rfl) ?_
  rcases bcases (decide ((portsOf d0.kind y3) > 0)) with c7 | c7
  · replace hm := cF c7 hm
    have pc7 := of_decide_eq_false c7
    refine RQ.skip (wantN (dj := 13) rfl (vb rfl c7) rfl) ?_
    refine RQ.skip (wantN (dj := 13) rfl (vb rfl c7) rfl) ?_
    refine RQ.skip (wantN (dj := 13) rfl (vb rfl c7) rfl) ?_
    refine RQ.skip (wantN (dj := 13) rfl (vb rfl c7) rfl) ?_
    refine RQ.skip (wantN (dj := 13) rfl (vb rfl c7) rfl) ?_
    refine RQ.skip (wantN (dj := 13) rfl (vb rfl c7) rfl) ?_
    refine RQ.skip (wantN (dj := 13) rfl (vb rfl c7) rfl) ?_
    refine RQ.y rfl (Y.pick (b := false) (v := .bool false) (vb rfl c7) rfl) ?_
    refine RQ.y rfl (Y.move (v := .bool false) rfl) ?_
    refine RQ.skip (wantN (dj := 22) rfl rfl rfl) ?_
    refine RQ.skip (wantN (dj := 22) rfl rfl rfl) ?_
    refine RQ.skip (wantN (dj := 22) rfl rfl rfl) ?_
    refine RQ.skip (wantN (dj := 22) rfl rfl rfl) ?_
    refine RQ.skip (wantN (dj := 22) rfl rfl rfl) ?_
    refine RQ.skip (wantN (dj := 22) rfl rfl rfl) ?_
    refine RQ.skip (wantN (dj := 22) rfl rfl rfl) ?_
    refine RQ.skip (wantN (dj := 22) rfl rfl rfl) ?_
    refine RQ.skip (wantN (dj := 22) rfl rfl rfl) ?_
    refine RQ.y rfl (Y.pick (b := false) (v := .bool false) rfl rfl) ?_
    refine RQ.y rfl (Y.move (v := .bool false) rfl) ?_
    refine RQ.skip (wantN (dj := 33) rfl rfl rfl) ?_
    refine RQ.skip (wantN (dj := 33) rfl rfl rfl) ?_
    refine RQ.y rfl (Y.pick (b := false) (v := .bool false) rfl rfl) ?_
    refine RQ.y rfl (Y.assign (v := .bool false) rfl) ?_
    refine RQ.nil ?_
    intro w8 hb9
    have szw8 := hb9.size
    have T := Tt T hb9
    refine then_n ?_
    refine wp_ret ?_
    obtain rfl := Option.some.inj hm
    exact (ret1 rfl rfl rfl ⟨rfl, T⟩)
  · replace hm := cT c7 hm
    have pc7 := of_decide_eq_true c7
    refine RQ.y (wantT (dj := 13) rfl (vb rfl c7)) (Y.move (v := .pointer (some ⟨ba0, oa0, none⟩)) s0) ?_
    refine RQ.y (wantT (dj := 13) rfl (vb rfl c7)) (Y.nilCheck rfl) ?_
    refine RQ.y (wantT (dj := 13) rfl (vb rfl c7)) (Y.fieldAddr (off := 4) rfl (by kernel_rfl)) ?_
    refine RQ.y (wantT (dj := 13) rfl (vb rfl c7)) (Y.load (v := .slice A2 d0.ports.length c2) rfl (by kernel_rfl) (beC (cellT T (hca0 4 _ rfl)))) ?_
    refine RQ.y (wantT (dj := 13) rfl (vb rfl c7)) (Y.len (by kernel_rfl) rfl) ?_
    refine RQ.y (wantT (dj := 13) rfl (vb rfl c7)) (Y.move (v := .int .i64 (portsOf d0.kind y3)) rfl) ?_
    refine RQ.y (wantT (dj := 13) rfl (vb rfl c7)) (Y.binI (v := .bool ((d0.ports.length : Int) == (portsOf d0.kind y3))) rfl rfl rfl) ?_
    refine RQ.y rfl (Y.pick (b := true) (v := .bool ((d0.ports.length : Int) == (portsOf d0.kind y3))) (vb rfl c7) rfl) ?_
    refine RQ.y rfl (Y.move (v := .bool ((d0.ports.length : Int) == (portsOf d0.kind y3))) rfl) ?_
    rcases bcases ((d0.ports.length : Int) == (portsOf d0.kind y3)) with c10 | c10
    · replace hm := cF c10 hm
      refine RQ.skip (wantN (dj := 22) rfl (vb rfl c10) rfl) ?_
      refine RQ.skip (wantN (dj := 22) rfl (vb rfl c10) rfl) ?_
      refine RQ.skip (wantN (dj := 22) rfl (vb rfl c10) rfl) ?_
      refine RQ.skip (wantN (dj := 22) rfl (vb rfl c10) rfl) ?_
      refine RQ.skip (wantN (dj := 22) rfl (vb rfl c10) rfl) ?_
      refine RQ.skip (wantN (dj := 22) rfl (vb rfl c10) rfl) ?_
      refine RQ.skip (wantN (dj := 22) rfl (vb rfl c10) rfl) ?_
      refine RQ.skip (wantN (dj := 22) rfl (vb rfl c10) rfl) ?_
      refine RQ.skip (wantN (dj := 22) rfl (vb rfl c10) rfl) ?_
      refine RQ.y rfl (Y.pick (b := false) (v := .bool false) (vb rfl c10) rfl) ?_
      refine RQ.y rfl (Y.move (v := .bool false) rfl) ?_
      refine RQ.skip (wantN (dj := 33) rfl rfl rfl) ?_
      refine RQ.skip (wantN (dj := 33) rfl rfl rfl) ?_
      refine RQ.y rfl (Y.pick (b := false) (v := .bool false) rfl rfl) ?_
      refine RQ.y rfl (Y.assign (v := .bool false) rfl) ?_
      refine RQ.nil ?_
      intro w11 hb12
      have szw11 := hb12.size
      have T := Tt T hb12
      refine then_n ?_
      refine wp_ret ?_
      obtain rfl := Option.some.inj hm
      exact (ret1 rfl rfl rfl ⟨rfl, T⟩)
    · replace hm := cT c10 hm
      refine RQ.y (wantT (dj := 22) rfl (vb rfl c10)) (Y.move (v := .pointer (some ⟨ba0, oa0, none⟩)) s0) ?_
      refine RQ.y (wantT (dj := 22) rfl (vb rfl c10)) (Y.nilCheck rfl) ?_
      refine RQ.y (wantT (dj := 22) rfl (vb rfl c10)) (Y.fieldAddr (off := 0) rfl (by kernel_rfl)) ?_
      refine RQ.y (wantT (dj := 22) rfl (vb rfl c10)) (Y.load (v := .int .i64 d0.kind) rfl (by kernel_rfl) (beC (cellT T (hca0 0 _ rfl)))) ?_
      refine RQ.y (wantT (dj := 22) rfl (vb rfl c10)) (Y.move (v := .pointer (some ⟨ba0, oa0, none⟩)) s0) ?_
      refine RQ.y (wantT (dj := 22) rfl (vb rfl c10)) (Y.nilCheck rfl) ?_
      refine RQ.y (wantT (dj := 22) rfl (vb rfl c10)) (Y.fieldAddr (off := 1) rfl (by kernel_rfl)) ?_
      refine RQ.y (wantT (dj := 22) rfl (vb rfl c10)) (Y.load (v := .int .i64 d0.level) rfl (by kernel_rfl) (beC (cellT T (hca0 1 _ rfl)))) ?_
      refine RQ.call (wantT (dj := 22) rfl (vb rfl c10)) (am2 rfl rfl) (by kernel_rfl) (v := .bool (allowed d0.kind d0.level)) (bel (K := fun _ => True) fun w' hb' => (callB (spec_l10Level d0.kind d0.level w'))) ?_
      refine RQ.y rfl (Y.pick (b := true) (v := .bool (allowed d0.kind d0.level)) (vb rfl c10) rfl) ?_
      refine RQ.y rfl (Y.move (v := .bool (allowed d0.kind d0.level)) rfl) ?_
      rcases bcases (allowed d0.kind d0.level) with c13 | c13
      · replace hm := cF c13 hm
        refine RQ.skip (wantN (dj := 33) rfl (vb rfl c13) rfl) ?_
        refine RQ.skip (wantN (dj := 33) rfl (vb rfl c13) rfl) ?_
        refine RQ.y rfl (Y.pick (b := false) (v := .bool false) (vb rfl c13) rfl) ?_
        refine RQ.y rfl (Y.assign (v := .bool false) rfl) ?_
        refine RQ.nil ?_
        intro w14 hb15
        have szw14 := hb15.size
        have T := Tt T hb15
        refine then_n ?_
        refine wp_ret ?_
        obtain rfl := Option.some.inj hm
        exact (ret1 rfl rfl rfl ⟨rfl, T⟩)
      · replace hm := cT c13 hm
        refine RQ.y (wantT (dj := 33) rfl (vb rfl c13)) (Y.move (v := .pointer (some ⟨ba0, oa0, none⟩)) s0) ?_
        obtain ⟨y16, e17, hm⟩ := bnd hm
        refine RQ.call (wantT (dj := 33) rfl (vb rfl c13)) (am1 rfl) (by kernel_rfl) (v := .bool y16) (bel (K := fun _ => True) fun w' hb' => (c_m_spec_l11Content d0 _ e17 _ w' (ptArg agentRd_ok hba0 hSa0 hca0 (Tt T hb')))) ?_
        refine RQ.y rfl (Y.pick (b := true) (v := .bool y16) (vb rfl c13) rfl) ?_
        refine RQ.y rfl (Y.assign (v := .bool y16) rfl) ?_
        refine RQ.nil ?_
        intro w18 hb19
        have szw18 := hb19.size
        have T := Tt T hb19
        refine then_n ?_
        refine wp_ret ?_
        obtain rfl := Option.some.inj hm
        exact (ret1 rfl rfl rfl ⟨rfl, T⟩)
def m_spec_l11Agents_A1 : Option Bool :=
  some true
def m_spec_l11Agents_B1 (d0 : List DAgent) (rec1 : Int → Option Bool) (K1 : Option Bool) (i5 : Int) : Option Bool :=
  (bif (decide (i5 < (d0.length : Int))) then ((getI d0 i5).bind fun x8 => ((m_spec_l11Agent x8).bind fun y19 => (bif y19 then ((getI d0 i5).bind fun x24 => (bif ((x24.kind == 1) != (i5 == 0)) then some false else (rec1 (i5 + 1)))) else some false))) else (K1))
def m_spec_l11Agents_L1 (d0 : List DAgent) (K1 : Option Bool) : Nat → Int → Option Bool
  | 0, _ => none
  | g + 1, i5 => m_spec_l11Agents_B1 d0 (m_spec_l11Agents_L1 d0 K1 g) K1 i5
def m_spec_l11Agents (d0 : List DAgent) : Option Bool :=
  (bif (inR (d0.length : Int) 1 600) then (m_spec_l11Agents_L1 d0 m_spec_l11Agents_A1 (d0.length + 1) 0) else some false)
set_option maxHeartbeats 2000000 in
theorem c_m_spec_l11Agents (d0 : List DAgent) (r : Bool) (hm : m_spec_l11Agents d0 = some r) (v0 : Value) (w : World) (hv0 : Sl agentRd 5 w v0 d0) :
    Calls Try.prog 113 #[v0] w fun e w' => e = .returned (.bool r) ∧ Below w.heap.size w w' := by
  obtain ⟨Aa0, na0, ca0, rfl, ha0, ra0⟩ := hv0
  have ea0 := ha0.len; subst ea0
  have qa0 := len_le ra0
  have T := Below.refl w.heap.size w
  unfold m_spec_l11Agents at hm
  refine enter 30 Try.func113 rfl rfl rfl ?_
  intro f hf
  have s0 : f 0 = .slice Aa0 d0.length ca0 := hf 0 _ rfl
  refine wp_seq ?_
  refine wp_rs rfl ?_
  refine RQ.y rfl (Y.assign (v := .bool false) rfl) ?_
  refine RQ.nil ?_
  refine then_n ?_
  refine wp_seq ?_
  refine wp_seq ?_
  refine wp_rb rfl ?_
  refine RQ.y rfl (Y.move (v := .slice Aa0 d0.length ca0) s0) ?_
  refine RQ.y rfl (Y.len (by kernel_rfl) rfl) ?_
  refine RQ.call rfl (am3 rfl rfl rfl) (by kernel_rfl) (v := .bool (inR (d0.length : Int) 1 600)) (bel (K := fun _ => True) fun w' hb' => (callB (spec_l00In (d0.length : Int) 1 600 w'))) ?_
  refine RQ.y rfl (Y.not (b' := (!(inR (d0.length : Int) 1 600))) rfl rfl) ?_
  refine RQ.nil ?_
  intro w1 hb2
  have szw1 := hb2.size
  have T := Tt T hb2
  refine then_n ?_
  rcases bcases (inR (d0.length : Int) 1 600) with c3 | c3
  · replace hm := cF c3 hm
    refine cond_t rfl (vbn rfl c3 rfl) ?_
    refine wp_seq ?_
    refine wp_rs rfl ?_
    refine RQ.y rfl (Y.assign (v := .bool false) rfl) ?_
    refine RQ.nil ?_
    refine then_n ?_
    refine wp_ret ?_
    obtain rfl := Option.some.inj hm
    exact (then_r (ret1 rfl rfl rfl ⟨rfl, T⟩))
  · replace hm := cT c3 hm
    refine cond_f rfl (vbn rfl c3 rfl) ?_
    refine wp_skip ?_
    refine then_n ?_
    refine wp_seq ?_
    refine wp_seq ?_
    refine wp_rs rfl ?_
    refine RQ.y rfl (Y.assign (v := .int .i64 0) rfl) ?_
    refine RQ.nil ?_
    refine then_n ?_
    refine wp_block ?_
    obtain ⟨K1, hK1, hm⟩ : ∃ K, K = m_spec_l11Agents_A1 ∧ m_spec_l11Agents_L1 d0 K (d0.length + 1) 0 = some r := ⟨_, rfl, hm⟩
    refine wp_loopX (fun g f w' => ∃ (i5 : Int), f 0 = .slice Aa0 d0.length ca0 ∧ f 3 = .int .i64 i5 ∧ 0 ≤ i5 ∧ Below w.heap.size w w' ∧ m_spec_l11Agents_L1 d0 K1 g i5 = some r) 0 (fun f w' => Below w.heap.size w w' ∧ m_spec_l11Agents_A1  = some r) (d0.length + 1) ⟨0, s0, rfl, (by omega), T, hm⟩ ?_ ?_
    · rintro f w4 ⟨T, hm⟩
      unfold m_spec_l11Agents_A1 at hm
      refine blk_hit (then_n ?_)
      refine wp_seq ?_
      refine wp_rs rfl ?_
      refine RQ.y rfl (Y.assign (v := .bool true) rfl) ?_
      refine RQ.nil ?_
      refine then_n ?_
      refine wp_ret ?_
      obtain rfl := Option.some.inj hm
      exact (ret1 rfl rfl rfl ⟨rfl, T⟩)
    · rintro g f w6 ⟨i5, s0_1, s3_1, nn3_1, T, hm⟩
      rcases g with _ | g
      · simp only [m_spec_l11Agents_L1] at hm; cases hm
      obtain ⟨rec1, hrec1, hm⟩ : ∃ z, z = m_spec_l11Agents_L1 d0 K1 g ∧ m_spec_l11Agents_B1 d0 z K1 i5 = some r := ⟨_, rfl, hm⟩
      unfold m_spec_l11Agents_B1 at hm
      refine wp_seq ?_
      refine wp_seq ?_
      refine wp_rs rfl ?_
      refine RQ.y rfl (Y.move (v := .int .i64 i5) s3_1) ?_
      refine RQ.y rfl (Y.move (v := .slice Aa0 d0.length ca0) s0_1) ?_
      refine RQ.y rfl (Y.len (by kernel_rfl) rfl) ?_
      refine RQ.y rfl (Y.binI (v := .bool (decide (i5 < (d0.length : Int)))) rfl rfl rfl) ?_
      refine RQ.nil ?_
      refine then_n ?_
      rcases bcases (decide (i5 < (d0.length : Int))) with c7 | c7
      · replace hm := cF c7 hm
        have pc7 := of_decide_eq_false c7
        refine cond_f rfl (vb rfl c7) ?_
        refine wp_exit ?_
        exact (then_x (then_x (hit_x ⟨_, rfl, ⟨T, (by rw [hK1] at hm; exact hm)⟩⟩)))
      · replace hm := cT c7 hm
        have pc7 := of_decide_eq_true c7
        refine cond_t rfl (vb rfl c7) ?_
        refine wp_skip ?_
        refine then_n ?_
        refine wp_seq ?_
        refine wp_block ?_
        refine wp_seq ?_
        refine wp_rb rfl ?_
        refine RQ.y rfl (Y.move (v := .slice Aa0 d0.length ca0) s0_1) ?_
        refine RQ.y rfl (Y.move (v := .int .i64 i5) s3_1) ?_
        obtain ⟨x8, hx11, hm⟩ := bnd hm
        obtain ⟨k9, hk12, hl13, hx11⟩ := getI_some hx11
        obtain ⟨b15, o16, rfl, hbb15⟩ := ha0.addr (by omega)
        obtain ⟨cs10, hRcs10, hc14⟩ := ha0.el hx11
        have hScs10 := hRcs10
        obtain ⟨A17, n17, c17, A18, n18, c18, rfl, ⟨h17, r17⟩, ⟨h18, r18⟩⟩ := hRcs10
        have e17 := h17.len; subst e17
        have q17 := len_le r17
        have e18 := h18.len; subst e18
        have q18 := len_le r18
        refine RQ.y rfl (Y.indexAddr (m := k9) (sz := 5) rfl rfl hk12 hl13 (by kernel_rfl)) ?_
        obtain ⟨y19, e20, hm⟩ := bnd hm
        refine RQ.call rfl (am1 rfl) (by kernel_rfl) (v := .bool y19) (bel (K := fun _ => True) fun w' hb' => (c_m_spec_l11Agent x8 _ e20 _ w' (ptArg agentRd_ok hbb15 hScs10 hc14 (Tt T hb')))) ?_
        refine RQ.y rfl (Y.not (b' := (!y19)) rfl rfl) ?_
        refine RQ.y rfl (Y.move (v := .bool (!y19)) rfl) ?_
        rcases bcases y19 with c21 | c21
        · replace hm := cF c21 hm
          refine RQ.skip (wantN (dj := 19) rfl (vbn rfl c21 rfl) rfl) ?_
          refine RQ.skip (wantN (dj := 19) rfl (vbn rfl c21 rfl) rfl) ?_
          refine RQ.skip (wantN (dj := 19) rfl (vbn rfl c21 rfl) rfl) ?_
          refine RQ.skip (wantN (dj := 19) rfl (vbn rfl c21 rfl) rfl) ?_
          refine RQ.skip (wantN (dj := 19) rfl (vbn rfl c21 rfl) rfl) ?_
          refine RQ.skip (wantN (dj := 19) rfl (vbn rfl c21 rfl) rfl) ?_
          refine RQ.skip (wantN (dj := 19) rfl (vbn rfl c21 rfl) rfl) ?_
          refine RQ.skip (wantN (dj := 19) rfl (vbn rfl c21 rfl) rfl) ?_
          refine RQ.skip (wantN (dj := 19) rfl (vbn rfl c21 rfl) rfl) ?_
          refine RQ.y rfl (Y.pick (b := true) (v := .bool true) (vbn rfl c21 rfl) rfl) ?_
          refine RQ.nil ?_
          intro w22 hb23
          have szw22 := hb23.size
          have T := Tt T hb23
          refine then_n ?_
          refine cond_t rfl rfl ?_
          refine wp_seq ?_
          refine wp_rs rfl ?_
          refine RQ.y rfl (Y.assign (v := .bool false) rfl) ?_
          refine RQ.nil ?_
          refine then_n ?_
          refine wp_ret ?_
          obtain rfl := Option.some.inj hm
          exact (blk_r (then_r (then_r (hit_r (blk_r (then_r (ret1 rfl rfl rfl ⟨rfl, T⟩)))))))
        · replace hm := cT c21 hm
          refine RQ.y (wantT (dj := 19) rfl (vbn rfl c21 rfl)) (Y.move (v := .slice (some ⟨b15, o16, none⟩) d0.length ca0) s0_1) ?_
          refine RQ.y (wantT (dj := 19) rfl (vbn rfl c21 rfl)) (Y.move (v := .int .i64 i5) s3_1) ?_
          obtain ⟨x24, hx27, hm⟩ := bnd hm
          obtain ⟨k25, hk28, hl29, hx27⟩ := getI_some hx27
          obtain ⟨cs26, hRcs26, hc30⟩ := ha0.el hx27
          have hScs26 := hRcs26
          obtain ⟨A31, n31, c31, A32, n32, c32, rfl, ⟨h31, r31⟩, ⟨h32, r32⟩⟩ := hRcs26
          have e31 := h31.len; subst e31
          have q31 := len_le r31
          have e32 := h32.len; subst e32
          have q32 := len_le r32
          refine RQ.y (wantT (dj := 19) rfl (vbn rfl c21 rfl)) (Y.indexAddr (m := k25) (sz := 5) rfl rfl hk28 hl29 (by kernel_rfl)) ?_
          refine RQ.y (wantT (dj := 19) rfl (vbn rfl c21 rfl)) (Y.fieldAddr (off := 0) rfl (by kernel_rfl)) ?_
          refine RQ.y (wantT (dj := 19) rfl (vbn rfl c21 rfl)) (Y.load (v := .int .i64 x24.kind) rfl (by kernel_rfl) (beC (cellT T (hc30 0 _ rfl)))) ?_
          refine RQ.y (wantT (dj := 19) rfl (vbn rfl c21 rfl)) (Y.binI (v := .bool (x24.kind == 1)) rfl rfl rfl) ?_
          refine RQ.y (wantT (dj := 19) rfl (vbn rfl c21 rfl)) (Y.move (v := .int .i64 i5) s3_1) ?_
          refine RQ.y (wantT (dj := 19) rfl (vbn rfl c21 rfl)) (Y.binI (v := .bool (i5 == 0)) rfl rfl rfl) ?_
          refine RQ.y (wantT (dj := 19) rfl (vbn rfl c21 rfl)) (Y.beq (c := ((x24.kind == 1) != (i5 == 0))) (by kernel_rfl) rfl rfl (.inr ⟨rfl, rfl⟩)) ?_
          refine RQ.y rfl (Y.pick (b := false) (v := .bool ((x24.kind == 1) != (i5 == 0))) (vbn rfl c21 rfl) rfl) ?_
          refine RQ.nil ?_
          intro w33 hb34
          have szw33 := hb34.size
          have T := Tt T hb34
          refine then_n ?_
          rcases bcases ((x24.kind == 1) != (i5 == 0)) with c35 | c35
          · replace hm := cF c35 hm
            refine cond_f rfl (vb rfl c35) ?_
            refine wp_skip ?_
            refine blk_n (then_n ?_)
            refine wp_rs rfl ?_
            refine RQ.y rfl (Y.move (v := .int .i64 i5) s3_1) ?_
            refine RQ.y rfl (Y.binI rfl rfl (binI_add (m := i5) (by omega))) ?_
            refine RQ.y rfl (Y.assign (v := .int .i64 (i5 + 1)) rfl) ?_
            refine RQ.nil ?_
            exact (then_n ⟨g, _, Nat.lt_succ_self _, rfl, ⟨(i5 + 1), s0_1, rfl, (by omega), T, (by rw [← hrec1]; exact hm)⟩⟩)
          · replace hm := cT c35 hm
            refine cond_t rfl (vb rfl c35) ?_
            refine wp_seq ?_
            refine wp_rs rfl ?_
            refine RQ.y rfl (Y.assign (v := .bool false) rfl) ?_
            refine RQ.nil ?_
            refine then_n ?_
            refine wp_ret ?_
            obtain rfl := Option.some.inj hm
            exact (blk_r (then_r (then_r (hit_r (blk_r (then_r (ret1 rfl rfl rfl ⟨rfl, T⟩)))))))
def m_spec_l11Port (d0 : List DAgent) (d1 : DPort) : Option Bool :=
  ((ck ((d0.length : Int) - 1)).bind fun s5 => (bif (inR d1.agent 0 s5) then ((getI d0 d1.agent).bind fun x9 => ((ck ((x9.ports.length : Int) - 1)).bind fun s20 => some (inR d1.slot 0 s20))) else some false))
set_option maxHeartbeats 2000000 in
theorem c_m_spec_l11Port (d0 : List DAgent) (d1 : DPort) (r : Bool) (hm : m_spec_l11Port d0 d1 = some r) (v0 : Value) (w : World) (hv0 : Sl agentRd 5 w v0 d0) :
    Calls Try.prog 114 #[v0, .agg #[.int .i64 d1.agent, .int .i64 d1.slot]] w fun e w' => e = .returned (.bool r) ∧ Below w.heap.size w w' := by
  obtain ⟨Aa0, na0, ca0, rfl, ha0, ra0⟩ := hv0
  have ea0 := ha0.len; subst ea0
  have qa0 := len_le ra0
  have T := Below.refl w.heap.size w
  unfold m_spec_l11Port at hm
  refine enter 24 Try.func114 rfl rfl rfl ?_
  intro f hf
  have s0 : f 0 = .slice Aa0 d0.length ca0 := hf 0 _ rfl
  have s1 : f 1 = .agg #[.int .i64 d1.agent, .int .i64 d1.slot] := hf 1 _ rfl
  refine wp_seq ?_
  refine wp_rl rfl ?_
  refine RL.box rfl s1 (fun w1 B2 hb3 szw1 => ?_)
  replace B2 : Blk w1 w.heap.size 53 #[.int .i64 d1.agent, .int .i64 d1.slot] := B2
  have GB2 : w.heap.size ≤ w.heap.size := T.size
  have T := Tt T hb3
  refine RL.y rfl (Y.assign (v := .bool false) rfl) ?_
  refine RL.nil ?_
  refine then_n ?_
  refine wp_seq ?_
  refine wp_rbd (by kernel_rfl) (by kernel_rfl) ?_
  refine RQ.y rfl (Y.fieldAddr (off := 0) rfl (by kernel_rfl)) ?_
  refine RQ.y rfl (Y.load (v := .int .i64 d1.agent) rfl (by kernel_rfl) (beC (blkCell B2 (i := 0) rfl))) ?_
  refine RQ.y rfl (Y.move (v := .slice Aa0 d0.length ca0) s0) ?_
  refine RQ.y rfl (Y.len (by kernel_rfl) rfl) ?_
  obtain ⟨s5, ks5, hm⟩ := bnd hm
  replace ks5 := ck_some ks5
  refine RQ.y rfl (Y.binI (v := .int .i64 s5) rfl rfl (by rw [binI_sub ks5.2, ks5.1])) ?_
  refine RQ.call rfl (am3 rfl rfl rfl) (by kernel_rfl) (v := .bool (inR d1.agent 0 s5)) (bel (K := fun _ => True) fun w' hb' => (callB (spec_l00In d1.agent 0 s5 w'))) ?_
  refine RQ.y rfl (Y.move (v := .bool (inR d1.agent 0 s5)) rfl) ?_
  rcases bcases (inR d1.agent 0 s5) with c6 | c6
  · replace hm := cF c6 hm
    refine RQ.skip (wantN (dj := 11) rfl (vb rfl c6) rfl) ?_
    refine RQ.skip (wantN (dj := 11) rfl (vb rfl c6) rfl) ?_
    refine RQ.skip (wantN (dj := 11) rfl (vb rfl c6) rfl) ?_
    refine RQ.skip (wantN (dj := 11) rfl (vb rfl c6) rfl) ?_
    refine RQ.skip (wantN (dj := 11) rfl (vb rfl c6) rfl) ?_
    refine RQ.skip (wantN (dj := 11) rfl (vb rfl c6) rfl) ?_
    refine RQ.skip (wantN (dj := 11) rfl (vb rfl c6) rfl) ?_
    refine RQ.skip (wantN (dj := 11) rfl (vb rfl c6) rfl) ?_
    refine RQ.skip (wantN (dj := 11) rfl (vb rfl c6) rfl) ?_
    refine RQ.skip (wantN (dj := 11) rfl (vb rfl c6) rfl) ?_
    refine RQ.skip (wantN (dj := 11) rfl (vb rfl c6) rfl) ?_
    refine RQ.y rfl (Y.pick (b := false) (v := .bool false) (vb rfl c6) rfl) ?_
    refine RQ.y rfl (Y.assign (v := .bool false) rfl) ?_
    refine RQ.nil ?_
    intro w7 hb8
    have szw7 := hb8.size
    have T := Tt T hb8
    refine then_n ?_
    refine wp_ret ?_
    obtain rfl := Option.some.inj hm
    exact (ret1 rfl rfl rfl ⟨rfl, T⟩)
  · replace hm := cT c6 hm
    refine RQ.y (wantT (dj := 11) rfl (vb rfl c6)) (Y.fieldAddr (off := 1) rfl (by kernel_rfl)) ?_
    refine RQ.y (wantT (dj := 11) rfl (vb rfl c6)) (Y.load (v := .int .i64 d1.slot) rfl (by kernel_rfl) (beC (blkCell B2 (i := 1) rfl))) ?_
    refine RQ.y (wantT (dj := 11) rfl (vb rfl c6)) (Y.move (v := .slice Aa0 d0.length ca0) s0) ?_
    refine RQ.y (wantT (dj := 11) rfl (vb rfl c6)) (Y.fieldAddr (off := 0) rfl (by kernel_rfl)) ?_
    refine RQ.y (wantT (dj := 11) rfl (vb rfl c6)) (Y.load (v := .int .i64 d1.agent) rfl (by kernel_rfl) (beC (blkCell B2 (i := 0) rfl))) ?_
    obtain ⟨x9, hx12, hm⟩ := bnd hm
    obtain ⟨k10, hk13, hl14, hx12⟩ := getI_some hx12
    obtain ⟨b16, o17, rfl, hbb16⟩ := ha0.addr (by omega)
    obtain ⟨cs11, hRcs11, hc15⟩ := ha0.el hx12
    have hScs11 := hRcs11
    obtain ⟨A18, n18, c18, A19, n19, c19, rfl, ⟨h18, r18⟩, ⟨h19, r19⟩⟩ := hRcs11
    have e18 := h18.len; subst e18
    have q18 := len_le r18
    have e19 := h19.len; subst e19
    have q19 := len_le r19
    refine RQ.y (wantT (dj := 11) rfl (vb rfl c6)) (Y.indexAddr (m := k10) (sz := 5) rfl rfl hk13 hl14 (by kernel_rfl)) ?_
    refine RQ.y (wantT (dj := 11) rfl (vb rfl c6)) (Y.fieldAddr (off := 4) rfl (by kernel_rfl)) ?_
    refine RQ.y (wantT (dj := 11) rfl (vb rfl c6)) (Y.load (v := .slice A19 x9.ports.length c19) rfl (by kernel_rfl) (beC (cellT T (hc15 4 _ rfl)))) ?_
    refine RQ.y (wantT (dj := 11) rfl (vb rfl c6)) (Y.len (by kernel_rfl) rfl) ?_
    obtain ⟨s20, ks20, hm⟩ := bnd hm
    replace ks20 := ck_some ks20
    refine RQ.y (wantT (dj := 11) rfl (vb rfl c6)) (Y.binI (v := .int .i64 s20) rfl rfl (by rw [binI_sub ks20.2, ks20.1])) ?_
    refine RQ.call (wantT (dj := 11) rfl (vb rfl c6)) (am3 rfl rfl rfl) (by kernel_rfl) (v := .bool (inR d1.slot 0 s20)) (bel (K := fun _ => True) fun w' hb' => (callB (spec_l00In d1.slot 0 s20 w'))) ?_
    refine RQ.y rfl (Y.pick (b := true) (v := .bool (inR d1.slot 0 s20)) (vb rfl c6) rfl) ?_
    refine RQ.y rfl (Y.assign (v := .bool (inR d1.slot 0 s20)) rfl) ?_
    refine RQ.nil ?_
    intro w21 hb22
    have szw21 := hb22.size
    have T := Tt T hb22
    refine then_n ?_
    refine wp_ret ?_
    obtain rfl := Option.some.inj hm
    exact (ret1 rfl rfl rfl ⟨rfl, T⟩)
def m_spec_l11Ok_A1 : Option Bool :=
  some true
def m_spec_l11Ok_A2 (rec1 : Int → Option Bool) (i8 : Int) : Option Bool :=
  ((ck (i8 + 1)).bind fun s23 => (rec1 s23))
def m_spec_l11Ok_B2 (d0 : DNet) (i8 : Int) (x11 : DAgent) (rec2 : Int → Option Bool) (K2 : Option Bool) (i24 : Int) : Option Bool :=
  (bif (decide (i24 < (x11.ports.length : Int))) then ((getI x11.ports i24).bind fun x34 => (bif (x34.agent == i8 && x34.slot == i24) then some false else ((m_spec_l11Port d0.agents x34).bind fun y51 => (bif y51 then ((getI d0.agents x34.agent).bind fun x56 => ((getI x56.ports x34.slot).bind fun x65 => (bif (x65.agent == i8 && x65.slot == i24) then (rec2 (i24 + 1)) else some false))) else some false)))) else (K2))
def m_spec_l11Ok_L2 (d0 : DNet) (i8 : Int) (x11 : DAgent) (K2 : Option Bool) : Nat → Int → Option Bool
  | 0, _ => none
  | g + 1, i24 => m_spec_l11Ok_B2 d0 i8 x11 (m_spec_l11Ok_L2 d0 i8 x11 K2 g) K2 i24
def m_spec_l11Ok_B1 (d0 : DNet) (rec1 : Int → Option Bool) (K1 : Option Bool) (i8 : Int) : Option Bool :=
  (bif (decide (i8 < (d0.agents.length : Int))) then ((getI d0.agents i8).bind fun x11 => (m_spec_l11Ok_L2 d0 i8 x11 (m_spec_l11Ok_A2 rec1 i8) (x11.ports.length + 1) 0)) else (K1))
def m_spec_l11Ok_L1 (d0 : DNet) (K1 : Option Bool) : Nat → Int → Option Bool
  | 0, _ => none
  | g + 1, i8 => m_spec_l11Ok_B1 d0 (m_spec_l11Ok_L1 d0 K1 g) K1 i8
def m_spec_l11Ok (d0 : DNet) : Option Bool :=
  ((m_spec_l11Agents d0.agents).bind fun y2 => (bif y2 then (m_spec_l11Ok_L1 d0 m_spec_l11Ok_A1 (d0.agents.length + 1) 0) else some false))
set_option maxHeartbeats 2000000 in
theorem c_m_spec_l11Ok (d0 : DNet) (r : Bool) (hm : m_spec_l11Ok d0 = some r) (v0 : Value) (w : World) (hv0 : Pt netRd w v0 d0) :
    Calls Try.prog 66 #[v0] w fun e w' => e = .returned (.bool r) ∧ Below w.heap.size w w' := by
  obtain ⟨ba0, oa0, csa0, rfl, hba0, hRa0, hca0⟩ := hv0
  have hSa0 := hRa0
  obtain ⟨A1, n1, c1, rfl, ⟨h1, r1⟩⟩ := hRa0
  have e1 := h1.len; subst e1
  have q1 := len_le r1
  have T := Below.refl w.heap.size w
  unfold m_spec_l11Ok at hm
  refine enter 77 Try.func66 rfl rfl rfl ?_
  intro f hf
  have s0 : f 0 = .pointer (some ⟨ba0, oa0, none⟩) := hf 0 _ rfl
  refine wp_seq ?_
  refine wp_rs rfl ?_
  refine RQ.y rfl (Y.assign (v := .bool false) rfl) ?_
  refine RQ.nil ?_
  refine then_n ?_
  refine wp_seq ?_
  refine wp_seq ?_
  refine wp_rb rfl ?_
  refine RQ.y rfl (Y.move (v := .pointer (some ⟨ba0, oa0, none⟩)) s0) ?_
  refine RQ.y rfl (Y.nilCheck rfl) ?_
  refine RQ.y rfl (Y.fieldAddr (off := 0) rfl (by kernel_rfl)) ?_
  refine RQ.y rfl (Y.load (v := .slice A1 d0.agents.length c1) rfl (by kernel_rfl) (beC (cellT T (hca0 0 _ rfl)))) ?_
  obtain ⟨y2, e3, hm⟩ := bnd hm
  refine RQ.call rfl (am1 rfl) (by kernel_rfl) (v := .bool y2) (bel (K := fun _ => True) fun w' hb' => (c_m_spec_l11Agents d0.agents _ e3 _ w' (slArg agentRd_ok h1 r1 (Tt T hb')))) ?_
  refine RQ.y rfl (Y.not (b' := (!y2)) rfl rfl) ?_
  refine RQ.nil ?_
  intro w4 hb5
  have szw4 := hb5.size
  have T := Tt T hb5
  refine then_n ?_
  rcases bcases y2 with c6 | c6
  · replace hm := cF c6 hm
    refine cond_t rfl (vbn rfl c6 rfl) ?_
    refine wp_seq ?_
    refine wp_rs rfl ?_
    refine RQ.y rfl (Y.assign (v := .bool false) rfl) ?_
    refine RQ.nil ?_
    refine then_n ?_
    refine wp_ret ?_
    obtain rfl := Option.some.inj hm
    exact (then_r (ret1 rfl rfl rfl ⟨rfl, T⟩))
  · replace hm := cT c6 hm
    refine cond_f rfl (vbn rfl c6 rfl) ?_
    refine wp_skip ?_
    refine then_n ?_
    refine wp_seq ?_
    refine wp_seq ?_
    refine wp_rs rfl ?_
    refine RQ.y rfl (Y.assign (v := .int .i64 0) rfl) ?_
    refine RQ.nil ?_
    refine then_n ?_
    refine wp_block ?_
    obtain ⟨K1, hK1, hm⟩ : ∃ K, K = m_spec_l11Ok_A1 ∧ m_spec_l11Ok_L1 d0 K (d0.agents.length + 1) 0 = some r := ⟨_, rfl, hm⟩
    refine wp_loopX (fun g f w' => ∃ (i8 : Int), f 0 = .pointer (some ⟨ba0, oa0, none⟩) ∧ f 3 = .int .i64 i8 ∧ 0 ≤ i8 ∧ Below w.heap.size w w' ∧ m_spec_l11Ok_L1 d0 K1 g i8 = some r) 0 (fun f w' => Below w.heap.size w w' ∧ m_spec_l11Ok_A1  = some r) (d0.agents.length + 1) ⟨0, s0, rfl, (by omega), T, hm⟩ ?_ ?_
    · rintro f w7 ⟨T, hm⟩
      unfold m_spec_l11Ok_A1 at hm
      refine blk_hit (then_n ?_)
      refine wp_seq ?_
      refine wp_rs rfl ?_
      refine RQ.y rfl (Y.assign (v := .bool true) rfl) ?_
      refine RQ.nil ?_
      refine then_n ?_
      refine wp_ret ?_
      obtain rfl := Option.some.inj hm
      exact (ret1 rfl rfl rfl ⟨rfl, T⟩)
    · rintro g f w9 ⟨i8, s0_1, s3_1, nn3_1, T, hm⟩
      rcases g with _ | g
      · simp only [m_spec_l11Ok_L1] at hm; cases hm
      obtain ⟨rec1, hrec1, hm⟩ : ∃ z, z = m_spec_l11Ok_L1 d0 K1 g ∧ m_spec_l11Ok_B1 d0 z K1 i8 = some r := ⟨_, rfl, hm⟩
      unfold m_spec_l11Ok_B1 at hm
      refine wp_seq ?_
      refine wp_seq ?_
      refine wp_rs rfl ?_
      refine RQ.y rfl (Y.move (v := .int .i64 i8) s3_1) ?_
      refine RQ.y rfl (Y.move (v := .pointer (some ⟨ba0, oa0, none⟩)) s0_1) ?_
      refine RQ.y rfl (Y.nilCheck rfl) ?_
      refine RQ.y rfl (Y.fieldAddr (off := 0) rfl (by kernel_rfl)) ?_
      refine RQ.y rfl (Y.load (v := .slice A1 d0.agents.length c1) rfl (by kernel_rfl) (eqC (cellT T (hca0 0 _ rfl)))) ?_
      refine RQ.y rfl (Y.len (by kernel_rfl) rfl) ?_
      refine RQ.y rfl (Y.binI (v := .bool (decide (i8 < (d0.agents.length : Int)))) rfl rfl rfl) ?_
      refine RQ.nil ?_
      refine then_n ?_
      rcases bcases (decide (i8 < (d0.agents.length : Int))) with c10 | c10
      · replace hm := cF c10 hm
        have pc10 := of_decide_eq_false c10
        refine cond_f rfl (vb rfl c10) ?_
        refine wp_exit ?_
        exact (then_x (then_x (hit_x ⟨_, rfl, ⟨T, (by rw [hK1] at hm; exact hm)⟩⟩)))
      · replace hm := cT c10 hm
        have pc10 := of_decide_eq_true c10
        refine cond_t rfl (vb rfl c10) ?_
        refine wp_skip ?_
        refine then_n ?_
        refine wp_seq ?_
        refine wp_block ?_
        refine wp_seq ?_
        refine wp_rs rfl ?_
        refine RQ.y rfl (Y.move (v := .pointer (some ⟨ba0, oa0, none⟩)) s0_1) ?_
        refine RQ.y rfl (Y.nilCheck rfl) ?_
        refine RQ.y rfl (Y.fieldAddr (off := 0) rfl (by kernel_rfl)) ?_
        refine RQ.y rfl (Y.load (v := .slice A1 d0.agents.length c1) rfl (by kernel_rfl) (eqC (cellT T (hca0 0 _ rfl)))) ?_
        refine RQ.y rfl (Y.move (v := .int .i64 i8) s3_1) ?_
        obtain ⟨x11, hx14, hm⟩ := bnd hm
        obtain ⟨k12, hk15, hl16, hx14⟩ := getI_some hx14
        obtain ⟨b18, o19, rfl, hbb18⟩ := h1.addr (by omega)
        obtain ⟨cs13, hRcs13, hc17⟩ := h1.el hx14
        have hScs13 := hRcs13
        obtain ⟨A20, n20, c20, A21, n21, c21, rfl, ⟨h20, r20⟩, ⟨h21, r21⟩⟩ := hRcs13
        have e20 := h20.len; subst e20
        have q20 := len_le r20
        have e21 := h21.len; subst e21
        have q21 := len_le r21
        refine RQ.y rfl (Y.indexAddr (m := k12) (sz := 5) rfl rfl hk15 hl16 (by kernel_rfl)) ?_
        refine RQ.y rfl (Y.assign (v := .pointer (some ⟨b18, o19 + k12 * 5, none⟩)) rfl) ?_
        refine RQ.nil ?_
        refine then_n ?_
        refine wp_seq ?_
        refine wp_rs rfl ?_
        refine RQ.y rfl (Y.assign (v := .int .i64 0) rfl) ?_
        refine RQ.nil ?_
        refine then_n ?_
        refine wp_block ?_
        obtain ⟨K2, hK2, hm⟩ : ∃ K, K = (m_spec_l11Ok_A2 rec1 i8) ∧ m_spec_l11Ok_L2 d0 i8 x11 K (x11.ports.length + 1) 0 = some r := ⟨_, rfl, hm⟩
        refine wp_loopX (fun g f w' => ∃ (i24 : Int), f 0 = .pointer (some ⟨ba0, oa0, none⟩) ∧ f 3 = .int .i64 i8 ∧ f 4 = .pointer (some ⟨b18, o19 + k12 * 5, none⟩) ∧ f 5 = .int .i64 i24 ∧ 0 ≤ i24 ∧ Below w.heap.size w w' ∧ m_spec_l11Ok_L2 d0 i8 x11 K2 g i24 = some r) 2 (fun f w' => f 0 = .pointer (some ⟨ba0, oa0, none⟩) ∧ f 3 = .int .i64 i8 ∧ Below w.heap.size w w' ∧ m_spec_l11Ok_A2 rec1 i8  = some r) (x11.ports.length + 1) ⟨0, s0_1, s3_1, rfl, rfl, (by omega), T, hm⟩ ?_ ?_
        · rintro f w22 ⟨s0_2x, s3_2x, T, hm⟩
          unfold m_spec_l11Ok_A2 at hm
          refine blk_hit (blk_n (then_n ?_))
          refine wp_rs rfl ?_
          refine RQ.y rfl (Y.move (v := .int .i64 i8) s3_2x) ?_
          obtain ⟨s23, ks23, hm⟩ := bnd hm
          replace ks23 := ck_some ks23
          refine RQ.y rfl (Y.binI (v := .int .i64 s23) rfl rfl (by rw [binI_add ks23.2, ks23.1])) ?_
          refine RQ.y rfl (Y.assign (v := .int .i64 s23) rfl) ?_
          refine RQ.nil ?_
          exact (then_n ⟨g, _, Nat.lt_succ_self _, rfl, ⟨s23, s0_2x, rfl, (by omega), T, (by rw [← hrec1]; exact hm)⟩⟩)
        · rintro g f w25 ⟨i24, s0_2, s3_2, s4_2, s5_2, nn5_2, T, hm⟩
          rcases g with _ | g
          · simp only [m_spec_l11Ok_L2] at hm; cases hm
          obtain ⟨rec2, hrec2, hm⟩ : ∃ z, z = m_spec_l11Ok_L2 d0 i8 x11 K2 g ∧ m_spec_l11Ok_B2 d0 i8 x11 z K2 i24 = some r := ⟨_, rfl, hm⟩
          unfold m_spec_l11Ok_B2 at hm
          refine wp_seq ?_
          refine wp_seq ?_
          refine wp_rs rfl ?_
          refine RQ.y rfl (Y.move (v := .int .i64 i24) s5_2) ?_
          refine RQ.y rfl (Y.move (v := .pointer (some ⟨b18, o19 + k12 * 5, none⟩)) s4_2) ?_
          refine RQ.y rfl (Y.nilCheck rfl) ?_
          refine RQ.y rfl (Y.fieldAddr (off := 4) rfl (by kernel_rfl)) ?_
          refine RQ.y rfl (Y.load (v := .slice A21 x11.ports.length c21) rfl (by kernel_rfl) (eqC (cellT T (hc17 4 _ rfl)))) ?_
          refine RQ.y rfl (Y.len (by kernel_rfl) rfl) ?_
          refine RQ.y rfl (Y.binI (v := .bool (decide (i24 < (x11.ports.length : Int)))) rfl rfl rfl) ?_
          refine RQ.nil ?_
          refine then_n ?_
          rcases bcases (decide (i24 < (x11.ports.length : Int))) with c26 | c26
          · replace hm := cF c26 hm
            have pc26 := of_decide_eq_false c26
            refine cond_f rfl (vb rfl c26) ?_
            refine wp_exit ?_
            exact (then_x (then_x (hit_x ⟨_, rfl, ⟨s0_2, s3_2, T, (by rw [hK2] at hm; exact hm)⟩⟩)))
          · replace hm := cT c26 hm
            have pc26 := of_decide_eq_true c26
            refine cond_t rfl (vb rfl c26) ?_
            refine wp_skip ?_
            refine then_n ?_
            refine wp_seq ?_
            refine wp_block ?_
            refine wp_seq ?_
            refine wp_rl rfl ?_
            refine RL.y rfl (Y.move (v := .int .i64 i8) s3_2) ?_
            refine RL.y rfl (Y.move (v := .int .i64 i24) s5_2) ?_
            refine RL.y rfl (Y.build2 (cells := #[.int .i64 i8, .int .i64 i24]) rfl rfl (by kernel_rfl) (by kernel_rfl)) ?_
            refine RL.alloc (z := .agg #[.int .i64 0, .int .i64 0]) rfl (by kernel_rfl) (fun w27 B28 hb29 szw27 => ?_)
            replace B28 : Blk w27 w25.heap.size 53 #[.int .i64 0, .int .i64 0] := B28
            have GB28 : w.heap.size ≤ w25.heap.size := T.size
            have T := Tt T hb29
            refine RL.store (v := .agg #[.int .i64 i8, .int .i64 i24]) (cs' := #[.int .i64 i8, .int .i64 i24]) rfl rfl rfl B28 (by kernel_rfl) (by rfl) (by rfl) (by rfl) (fun w31 B32 ho33 => ?_)
            have szw31 := ho33.size
            have T := T.trans (ho33.below (by simp; omega))
            refine RL.nil ?_
            refine then_n ?_
            refine wp_seq ?_
            refine wp_rl rfl ?_
            refine RL.y rfl (Y.move (v := .pointer (some ⟨b18, o19 + k12 * 5, none⟩)) s4_2) ?_
            refine RL.y rfl (Y.nilCheck rfl) ?_
            refine RL.y rfl (Y.fieldAddr (off := 4) rfl (by kernel_rfl)) ?_
            refine RL.y rfl (Y.load (v := .slice A21 x11.ports.length c21) rfl (by kernel_rfl) (eqC (cellT T (hc17 4 _ rfl)))) ?_
            refine RL.y rfl (Y.move (v := .int .i64 i24) s5_2) ?_
            obtain ⟨x34, hx37, hm⟩ := bnd hm
            obtain ⟨k35, hk38, hl39, hx37⟩ := getI_some hx37
            obtain ⟨b41, o42, rfl, hbb41⟩ := h21.addr (by omega)
            obtain ⟨cs36, hRcs36, hc40⟩ := h21.el hx37
            have hScs36 := hRcs36
            obtain rfl := hRcs36
            refine RL.y rfl (Y.indexAddr (m := k35) (sz := 2) rfl rfl hk38 hl39 (by kernel_rfl)) ?_
            refine RL.y rfl (Y.loadN (cs := [.int .i64 x34.agent, .int .i64 x34.slot]) rfl (by kernel_rfl) (cells2 (eqC (cellT T (hc40 0 _ rfl))) (eqC (cellT T (hc40 1 _ rfl))))) ?_
            refine RL.alloc (z := .agg #[.int .i64 0, .int .i64 0]) rfl (by kernel_rfl) (fun w43 B44 hb45 szw43 => ?_)
            replace B44 : Blk w43 w31.heap.size 53 #[.int .i64 0, .int .i64 0] := B44
            have GB44 : w.heap.size ≤ w31.heap.size := T.size
            have Eob46_ob30 := Nat.ne_of_lt B32.lt
            have B32 := blkT B32 hb45
            have T := Tt T hb45
            refine RL.store (v := .agg #[.int .i64 x34.agent, .int .i64 x34.slot]) (cs' := #[.int .i64 x34.agent, .int .i64 x34.slot]) rfl rfl rfl B44 (by kernel_rfl) (by rfl) (by rfl) (by rfl) (fun w47 B48 ho49 => ?_)
            have szw47 := ho49.size
            have B32 := B32.only_ ho49 (by intro hin; simp at hin; exact Eob46_ob30 hin)
            have T := T.trans (ho49.below (by simp; omega))
            refine RL.nil ?_
            refine then_n ?_
            refine wp_seq ?_
            refine wp_rbd (by kernel_rfl) (by kernel_rfl) ?_
            refine RQ.y rfl (Y.loadN (cs := [.int .i64 x34.agent, .int .i64 x34.slot]) rfl (by kernel_rfl) (cells2 (beC (blkCell B48 (i := 0) rfl)) (beC (blkCell B48 (i := 1) rfl)))) ?_
            refine RQ.y rfl (Y.loadN (cs := [.int .i64 i8, .int .i64 i24]) rfl (by kernel_rfl) (cells2 (beC (blkCell B32 (i := 0) rfl)) (beC (blkCell B32 (i := 1) rfl)))) ?_
            refine RQ.y rfl (Y.eqS (b := (x34.agent == i8 && x34.slot == i24)) rfl rfl (eqPort_run _ _ _ _) (eqGuardPort_run _ _ _ _ _)) ?_
            refine RQ.y rfl (Y.move (v := .bool (x34.agent == i8 && x34.slot == i24)) rfl) ?_
            rcases bcases (x34.agent == i8 && x34.slot == i24) with c50 | c50
            · replace hm := cF c50 hm
              refine RQ.y (wantT (dj := 51) rfl (vb rfl c50)) (Y.move (v := .pointer (some ⟨ba0, oa0, none⟩)) s0_2) ?_
              refine RQ.y (wantT (dj := 51) rfl (vb rfl c50)) (Y.nilCheck rfl) ?_
              refine RQ.y (wantT (dj := 51) rfl (vb rfl c50)) (Y.fieldAddr (off := 0) rfl (by kernel_rfl)) ?_
              refine RQ.y (wantT (dj := 51) rfl (vb rfl c50)) (Y.load (v := .slice (some ⟨b18, o19, none⟩) d0.agents.length c1) rfl (by kernel_rfl) (beC (cellT T (hca0 0 _ rfl)))) ?_
              refine RQ.y (wantT (dj := 51) rfl (vb rfl c50)) (Y.loadN (cs := [.int .i64 x34.agent, .int .i64 x34.slot]) rfl (by kernel_rfl) (cells2 (beC (blkCell B48 (i := 0) rfl)) (beC (blkCell B48 (i := 1) rfl)))) ?_
              obtain ⟨y51, e52, hm⟩ := bnd hm
              refine RQ.call (wantT (dj := 51) rfl (vb rfl c50)) (am2 rfl rfl) (by kernel_rfl) (v := .bool y51) (bel (K := fun _ => True) fun w' hb' => (c_m_spec_l11Port d0.agents x34 _ e52 _ w' (slArg agentRd_ok h1 r1 (Tt T hb')))) ?_
              refine RQ.y (wantT (dj := 51) rfl (vb rfl c50)) (Y.not (b' := (!y51)) rfl rfl) ?_
              refine RQ.y rfl (Y.pick (b := false) (v := .bool (!y51)) (vb rfl c50) rfl) ?_
              refine RQ.y rfl (Y.move (v := .bool (!y51)) rfl) ?_
              rcases bcases y51 with c53 | c53
              · replace hm := cF c53 hm
                refine RQ.skip (wantN (dj := 60) rfl (vbn rfl c53 rfl) rfl) ?_
                refine RQ.skip (wantN (dj := 60) rfl (vbn rfl c53 rfl) rfl) ?_
                refine RQ.skip (wantN (dj := 60) rfl (vbn rfl c53 rfl) rfl) ?_
                refine RQ.skip (wantN (dj := 60) rfl (vbn rfl c53 rfl) rfl) ?_
                refine RQ.skip (wantN (dj := 60) rfl (vbn rfl c53 rfl) rfl) ?_
                refine RQ.skip (wantN (dj := 60) rfl (vbn rfl c53 rfl) rfl) ?_
                refine RQ.skip (wantN (dj := 60) rfl (vbn rfl c53 rfl) rfl) ?_
                refine RQ.skip (wantN (dj := 60) rfl (vbn rfl c53 rfl) rfl) ?_
                refine RQ.skip (wantN (dj := 60) rfl (vbn rfl c53 rfl) rfl) ?_
                refine RQ.skip (wantN (dj := 60) rfl (vbn rfl c53 rfl) rfl) ?_
                refine RQ.skip (wantN (dj := 60) rfl (vbn rfl c53 rfl) rfl) ?_
                refine RQ.skip (wantN (dj := 60) rfl (vbn rfl c53 rfl) rfl) ?_
                refine RQ.skip (wantN (dj := 60) rfl (vbn rfl c53 rfl) rfl) ?_
                refine RQ.skip (wantN (dj := 60) rfl (vbn rfl c53 rfl) rfl) ?_
                refine RQ.skip (wantN (dj := 60) rfl (vbn rfl c53 rfl) rfl) ?_
                refine RQ.y rfl (Y.pick (b := true) (v := .bool true) (vbn rfl c53 rfl) rfl) ?_
                refine RQ.nil ?_
                intro w54 hb55
                have szw54 := hb55.size
                have T := Tt T hb55
                refine then_n ?_
                refine cond_t rfl rfl ?_
                refine wp_seq ?_
                refine wp_rs rfl ?_
                refine RQ.y rfl (Y.assign (v := .bool false) rfl) ?_
                refine RQ.nil ?_
                refine then_n ?_
                refine wp_ret ?_
                obtain rfl := Option.some.inj hm
                exact (blk_r (then_r (then_r (hit_r (blk_r (blk_r (then_r (then_r (hit_r (blk_r (then_r (ret1 rfl rfl rfl ⟨rfl, T⟩))))))))))))
              · replace hm := cT c53 hm
                refine RQ.y (wantT (dj := 60) rfl (vbn rfl c53 rfl)) (Y.move (v := .pointer (some ⟨ba0, oa0, none⟩)) s0_2) ?_
                refine RQ.y (wantT (dj := 60) rfl (vbn rfl c53 rfl)) (Y.nilCheck rfl) ?_
                refine RQ.y (wantT (dj := 60) rfl (vbn rfl c53 rfl)) (Y.fieldAddr (off := 0) rfl (by kernel_rfl)) ?_
                refine RQ.y (wantT (dj := 60) rfl (vbn rfl c53 rfl)) (Y.load (v := .slice (some ⟨b18, o19, none⟩) d0.agents.length c1) rfl (by kernel_rfl) (beC (cellT T (hca0 0 _ rfl)))) ?_
                refine RQ.y (wantT (dj := 60) rfl (vbn rfl c53 rfl)) (Y.fieldAddr (off := 0) rfl (by kernel_rfl)) ?_
                refine RQ.y (wantT (dj := 60) rfl (vbn rfl c53 rfl)) (Y.load (v := .int .i64 x34.agent) rfl (by kernel_rfl) (beC (blkCell B48 (i := 0) rfl))) ?_
                obtain ⟨x56, hx59, hm⟩ := bnd hm
                obtain ⟨k57, hk60, hl61, hx59⟩ := getI_some hx59
                obtain ⟨cs58, hRcs58, hc62⟩ := h1.el hx59
                have hScs58 := hRcs58
                obtain ⟨A63, n63, c63, A64, n64, c64, rfl, ⟨h63, r63⟩, ⟨h64, r64⟩⟩ := hRcs58
                have e63 := h63.len; subst e63
                have q63 := len_le r63
                have e64 := h64.len; subst e64
                have q64 := len_le r64
                refine RQ.y (wantT (dj := 60) rfl (vbn rfl c53 rfl)) (Y.indexAddr (m := k57) (sz := 5) rfl rfl hk60 hl61 (by kernel_rfl)) ?_
                refine RQ.y (wantT (dj := 60) rfl (vbn rfl c53 rfl)) (Y.fieldAddr (off := 4) rfl (by kernel_rfl)) ?_
                refine RQ.y (wantT (dj := 60) rfl (vbn rfl c53 rfl)) (Y.load (v := .slice A64 x56.ports.length c64) rfl (by kernel_rfl) (beC (cellT T (hc62 4 _ rfl)))) ?_
                refine RQ.y (wantT (dj := 60) rfl (vbn rfl c53 rfl)) (Y.fieldAddr (off := 1) rfl (by kernel_rfl)) ?_
                refine RQ.y (wantT (dj := 60) rfl (vbn rfl c53 rfl)) (Y.load (v := .int .i64 x34.slot) rfl (by kernel_rfl) (beC (blkCell B48 (i := 1) rfl))) ?_
                obtain ⟨x65, hx68, hm⟩ := bnd hm
                obtain ⟨k66, hk69, hl70, hx68⟩ := getI_some hx68
                obtain ⟨b72, o73, rfl, hbb72⟩ := h64.addr (by omega)
                obtain ⟨cs67, hRcs67, hc71⟩ := h64.el hx68
                have hScs67 := hRcs67
                obtain rfl := hRcs67
                refine RQ.y (wantT (dj := 60) rfl (vbn rfl c53 rfl)) (Y.indexAddr (m := k66) (sz := 2) rfl rfl hk69 hl70 (by kernel_rfl)) ?_
                refine RQ.y (wantT (dj := 60) rfl (vbn rfl c53 rfl)) (Y.loadN (cs := [.int .i64 x65.agent, .int .i64 x65.slot]) rfl (by kernel_rfl) (cells2 (beC (cellT T (hc71 0 _ rfl))) (beC (cellT T (hc71 1 _ rfl))))) ?_
                refine RQ.y (wantT (dj := 60) rfl (vbn rfl c53 rfl)) (Y.loadN (cs := [.int .i64 i8, .int .i64 i24]) rfl (by kernel_rfl) (cells2 (beC (blkCell B32 (i := 0) rfl)) (beC (blkCell B32 (i := 1) rfl)))) ?_
                refine RQ.y (wantT (dj := 60) rfl (vbn rfl c53 rfl)) (Y.neS (b := (x65.agent == i8 && x65.slot == i24)) rfl rfl (eqPort_run _ _ _ _) (eqGuardPort_run _ _ _ _ _)) ?_
                refine RQ.y rfl (Y.pick (b := false) (v := .bool (!(x65.agent == i8 && x65.slot == i24))) (vbn rfl c53 rfl) rfl) ?_
                refine RQ.nil ?_
                intro w74 hb75
                have szw74 := hb75.size
                have T := Tt T hb75
                refine then_n ?_
                rcases bcases (x65.agent == i8 && x65.slot == i24) with c76 | c76
                · replace hm := cF c76 hm
                  refine cond_t rfl (vbn rfl c76 rfl) ?_
                  refine wp_seq ?_
                  refine wp_rs rfl ?_
                  refine RQ.y rfl (Y.assign (v := .bool false) rfl) ?_
                  refine RQ.nil ?_
                  refine then_n ?_
                  refine wp_ret ?_
                  obtain rfl := Option.some.inj hm
                  exact (blk_r (then_r (then_r (hit_r (blk_r (blk_r (then_r (then_r (hit_r (blk_r (then_r (ret1 rfl rfl rfl ⟨rfl, T⟩))))))))))))
                · replace hm := cT c76 hm
                  refine cond_f rfl (vbn rfl c76 rfl) ?_
                  refine wp_skip ?_
                  refine blk_n (then_n ?_)
                  refine wp_rs rfl ?_
                  refine RQ.y rfl (Y.move (v := .int .i64 i24) s5_2) ?_
                  refine RQ.y rfl (Y.binI rfl rfl (binI_add (m := i24) (by omega))) ?_
                  refine RQ.y rfl (Y.assign (v := .int .i64 (i24 + 1)) rfl) ?_
                  refine RQ.nil ?_
                  exact (then_n ⟨g, _, Nat.lt_succ_self _, rfl, ⟨(i24 + 1), s0_2, s3_2, s4_2, rfl, (by omega), T, (by rw [← hrec2]; exact hm)⟩⟩)
            · replace hm := cT c50 hm
              refine RQ.skip (wantN (dj := 51) rfl (vb rfl c50) rfl) ?_
              refine RQ.skip (wantN (dj := 51) rfl (vb rfl c50) rfl) ?_
              refine RQ.skip (wantN (dj := 51) rfl (vb rfl c50) rfl) ?_
              refine RQ.skip (wantN (dj := 51) rfl (vb rfl c50) rfl) ?_
              refine RQ.skip (wantN (dj := 51) rfl (vb rfl c50) rfl) ?_
              refine RQ.skip (wantN (dj := 51) rfl (vb rfl c50) rfl) ?_
              refine RQ.skip (wantN (dj := 51) rfl (vb rfl c50) rfl) ?_
              refine RQ.y rfl (Y.pick (b := true) (v := .bool true) (vb rfl c50) rfl) ?_
              refine RQ.y rfl (Y.move (v := .bool true) rfl) ?_
              refine RQ.skip (wantN (dj := 60) rfl rfl rfl) ?_
              refine RQ.skip (wantN (dj := 60) rfl rfl rfl) ?_
              refine RQ.skip (wantN (dj := 60) rfl rfl rfl) ?_
              refine RQ.skip (wantN (dj := 60) rfl rfl rfl) ?_
              refine RQ.skip (wantN (dj := 60) rfl rfl rfl) ?_
              refine RQ.skip (wantN (dj := 60) rfl rfl rfl) ?_
              refine RQ.skip (wantN (dj := 60) rfl rfl rfl) ?_
              refine RQ.skip (wantN (dj := 60) rfl rfl rfl) ?_
              refine RQ.skip (wantN (dj := 60) rfl rfl rfl) ?_
              refine RQ.skip (wantN (dj := 60) rfl rfl rfl) ?_
              refine RQ.skip (wantN (dj := 60) rfl rfl rfl) ?_
              refine RQ.skip (wantN (dj := 60) rfl rfl rfl) ?_
              refine RQ.skip (wantN (dj := 60) rfl rfl rfl) ?_
              refine RQ.skip (wantN (dj := 60) rfl rfl rfl) ?_
              refine RQ.skip (wantN (dj := 60) rfl rfl rfl) ?_
              refine RQ.y rfl (Y.pick (b := true) (v := .bool true) rfl rfl) ?_
              refine RQ.nil ?_
              intro w77 hb78
              have szw77 := hb78.size
              have T := Tt T hb78
              refine then_n ?_
              refine cond_t rfl rfl ?_
              refine wp_seq ?_
              refine wp_rs rfl ?_
              refine RQ.y rfl (Y.assign (v := .bool false) rfl) ?_
              refine RQ.nil ?_
              refine then_n ?_
              refine wp_ret ?_
              obtain rfl := Option.some.inj hm
              exact (blk_r (then_r (then_r (hit_r (blk_r (blk_r (then_r (then_r (hit_r (blk_r (then_r (ret1 rfl rfl rfl ⟨rfl, T⟩))))))))))))
def m_impl_isDefIndex (d0 : Int) : Option Bool :=
  (bif (decide (d0 ≥ 0)) then some (decide (d0 < 24)) else some false)
set_option maxHeartbeats 2000000 in
theorem c_m_impl_isDefIndex (d0 : Int) (r : Bool) (hm : m_impl_isDefIndex d0 = some r)  (w : World)  :
    Calls Try.prog 188 #[.int .i64 d0] w fun e w' => e = .returned (.bool r) ∧ Below w.heap.size w w' := by
  have T := Below.refl w.heap.size w
  unfold m_impl_isDefIndex at hm
  refine enter 9 Try.func188 rfl rfl rfl ?_
  intro f hf
  have s0 : f 0 = .int .i64 d0 := hf 0 _ rfl
  refine wp_seq ?_
  refine wp_rs rfl ?_
  refine RQ.y rfl (Y.assign (v := .bool false) rfl) ?_
  refine RQ.nil ?_
  refine then_n ?_
  refine wp_seq ?_
  refine wp_rs rfl ?_
  refine RQ.y rfl (Y.move (v := .int .i64 d0) s0) ?_
  refine RQ.y rfl (Y.binI (v := .bool (decide (d0 ≥ 0))) rfl rfl rfl) ?_
  refine RQ.y rfl (Y.move (v := .bool (decide (d0 ≥ 0))) rfl) ?_
  rcases bcases (decide (d0 ≥ 0)) with c1 | c1
  · replace hm := cF c1 hm
    have pc1 := of_decide_eq_false c1
    refine RQ.skip (wantN (dj := 5) rfl (vb rfl c1) rfl) ?_
    refine RQ.skip (wantN (dj := 5) rfl (vb rfl c1) rfl) ?_
    refine RQ.y rfl (Y.pick (b := false) (v := .bool false) (vb rfl c1) rfl) ?_
    refine RQ.y rfl (Y.assign (v := .bool false) rfl) ?_
    refine RQ.nil ?_
    refine then_n ?_
    refine wp_ret ?_
    obtain rfl := Option.some.inj hm
    exact (ret1 rfl rfl rfl ⟨rfl, T⟩)
  · replace hm := cT c1 hm
    have pc1 := of_decide_eq_true c1
    refine RQ.y (wantT (dj := 5) rfl (vb rfl c1)) (Y.move (v := .int .i64 d0) s0) ?_
    refine RQ.y (wantT (dj := 5) rfl (vb rfl c1)) (Y.binI (v := .bool (decide (d0 < 24))) rfl rfl rfl) ?_
    refine RQ.y rfl (Y.pick (b := true) (v := .bool (decide (d0 < 24))) (vb rfl c1) rfl) ?_
    refine RQ.y rfl (Y.assign (v := .bool (decide (d0 < 24))) rfl) ?_
    refine RQ.nil ?_
    refine then_n ?_
    refine wp_ret ?_
    obtain rfl := Option.some.inj hm
    exact (ret1 rfl rfl rfl ⟨rfl, T⟩)
def m_impl_isInt (d0 : Int) : Option Bool :=
  (bif (decide (d0 ≥ (-2147483648))) then some (decide (d0 ≤ 2147483647)) else some false)
set_option maxHeartbeats 2000000 in
theorem c_m_impl_isInt (d0 : Int) (r : Bool) (hm : m_impl_isInt d0 = some r)  (w : World)  :
    Calls Try.prog 189 #[.int .i64 d0] w fun e w' => e = .returned (.bool r) ∧ Below w.heap.size w w' := by
  have T := Below.refl w.heap.size w
  unfold m_impl_isInt at hm
  refine enter 9 Try.func189 rfl rfl rfl ?_
  intro f hf
  have s0 : f 0 = .int .i64 d0 := hf 0 _ rfl
  refine wp_seq ?_
  refine wp_rs rfl ?_
  refine RQ.y rfl (Y.assign (v := .bool false) rfl) ?_
  refine RQ.nil ?_
  refine then_n ?_
  refine wp_seq ?_
  refine wp_rs rfl ?_
  refine RQ.y rfl (Y.move (v := .int .i64 d0) s0) ?_
  refine RQ.y rfl (Y.binI (v := .bool (decide (d0 ≥ (-2147483648)))) rfl rfl rfl) ?_
  refine RQ.y rfl (Y.move (v := .bool (decide (d0 ≥ (-2147483648)))) rfl) ?_
  rcases bcases (decide (d0 ≥ (-2147483648))) with c1 | c1
  · replace hm := cF c1 hm
    have pc1 := of_decide_eq_false c1
    refine RQ.skip (wantN (dj := 5) rfl (vb rfl c1) rfl) ?_
    refine RQ.skip (wantN (dj := 5) rfl (vb rfl c1) rfl) ?_
    refine RQ.y rfl (Y.pick (b := false) (v := .bool false) (vb rfl c1) rfl) ?_
    refine RQ.y rfl (Y.assign (v := .bool false) rfl) ?_
    refine RQ.nil ?_
    refine then_n ?_
    refine wp_ret ?_
    obtain rfl := Option.some.inj hm
    exact (ret1 rfl rfl rfl ⟨rfl, T⟩)
  · replace hm := cT c1 hm
    have pc1 := of_decide_eq_true c1
    refine RQ.y (wantT (dj := 5) rfl (vb rfl c1)) (Y.move (v := .int .i64 d0) s0) ?_
    refine RQ.y (wantT (dj := 5) rfl (vb rfl c1)) (Y.binI (v := .bool (decide (d0 ≤ 2147483647))) rfl rfl rfl) ?_
    refine RQ.y rfl (Y.pick (b := true) (v := .bool (decide (d0 ≤ 2147483647))) (vb rfl c1) rfl) ?_
    refine RQ.y rfl (Y.assign (v := .bool (decide (d0 ≤ 2147483647))) rfl) ?_
    refine RQ.nil ?_
    refine then_n ?_
    refine wp_ret ?_
    obtain rfl := Option.some.inj hm
    exact (ret1 rfl rfl rfl ⟨rfl, T⟩)
def m_impl_isOperator (d0 : Int) : Option Bool :=
  (bif (decide (d0 ≥ 1)) then some (decide (d0 ≤ 6)) else some false)
set_option maxHeartbeats 2000000 in
theorem c_m_impl_isOperator (d0 : Int) (r : Bool) (hm : m_impl_isOperator d0 = some r)  (w : World)  :
    Calls Try.prog 190 #[.int .i64 d0] w fun e w' => e = .returned (.bool r) ∧ Below w.heap.size w w' := by
  have T := Below.refl w.heap.size w
  unfold m_impl_isOperator at hm
  refine enter 9 Try.func190 rfl rfl rfl ?_
  intro f hf
  have s0 : f 0 = .int .i64 d0 := hf 0 _ rfl
  refine wp_seq ?_
  refine wp_rs rfl ?_
  refine RQ.y rfl (Y.assign (v := .bool false) rfl) ?_
  refine RQ.nil ?_
  refine then_n ?_
  refine wp_seq ?_
  refine wp_rs rfl ?_
  refine RQ.y rfl (Y.move (v := .int .i64 d0) s0) ?_
  refine RQ.y rfl (Y.binI (v := .bool (decide (d0 ≥ 1))) rfl rfl rfl) ?_
  refine RQ.y rfl (Y.move (v := .bool (decide (d0 ≥ 1))) rfl) ?_
  rcases bcases (decide (d0 ≥ 1)) with c1 | c1
  · replace hm := cF c1 hm
    have pc1 := of_decide_eq_false c1
    refine RQ.skip (wantN (dj := 5) rfl (vb rfl c1) rfl) ?_
    refine RQ.skip (wantN (dj := 5) rfl (vb rfl c1) rfl) ?_
    refine RQ.y rfl (Y.pick (b := false) (v := .bool false) (vb rfl c1) rfl) ?_
    refine RQ.y rfl (Y.assign (v := .bool false) rfl) ?_
    refine RQ.nil ?_
    refine then_n ?_
    refine wp_ret ?_
    obtain rfl := Option.some.inj hm
    exact (ret1 rfl rfl rfl ⟨rfl, T⟩)
  · replace hm := cT c1 hm
    have pc1 := of_decide_eq_true c1
    refine RQ.y (wantT (dj := 5) rfl (vb rfl c1)) (Y.move (v := .int .i64 d0) s0) ?_
    refine RQ.y (wantT (dj := 5) rfl (vb rfl c1)) (Y.binI (v := .bool (decide (d0 ≤ 6))) rfl rfl rfl) ?_
    refine RQ.y rfl (Y.pick (b := true) (v := .bool (decide (d0 ≤ 6))) (vb rfl c1) rfl) ?_
    refine RQ.y rfl (Y.assign (v := .bool (decide (d0 ≤ 6))) rfl) ?_
    refine RQ.nil ?_
    refine then_n ?_
    refine wp_ret ?_
    obtain rfl := Option.some.inj hm
    exact (ret1 rfl rfl rfl ⟨rfl, T⟩)
def m_impl_fieldsOf (d0 : Int) (d1 : Int) : Option Int :=
  (bif (d0 == 9) then ((ck (d1 - 1)).bind fun s2 => some s2) else some 0)
set_option maxHeartbeats 2000000 in
theorem c_m_impl_fieldsOf (d0 : Int) (d1 : Int) (r : Int) (hm : m_impl_fieldsOf d0 d1 = some r)  (w : World)  :
    Calls Try.prog 185 #[.int .i64 d0, .int .i64 d1] w fun e w' => e = .returned (.int .i64 r) ∧ Below w.heap.size w w' := by
  have T := Below.refl w.heap.size w
  unfold m_impl_fieldsOf at hm
  refine enter 9 Try.func185 rfl rfl rfl ?_
  intro f hf
  have s0 : f 0 = .int .i64 d0 := hf 0 _ rfl
  have s1 : f 1 = .int .i64 d1 := hf 1 _ rfl
  refine wp_seq ?_
  refine wp_rs rfl ?_
  refine RQ.y rfl (Y.assign (v := .int .i64 0) rfl) ?_
  refine RQ.nil ?_
  refine then_n ?_
  refine wp_seq ?_
  refine wp_seq ?_
  refine wp_rs rfl ?_
  refine RQ.y rfl (Y.move (v := .int .i64 d0) s0) ?_
  refine RQ.y rfl (Y.binI (v := .bool (d0 == 9)) rfl rfl rfl) ?_
  refine RQ.nil ?_
  refine then_n ?_
  rcases bcases (d0 == 9) with c1 | c1
  · replace hm := cF c1 hm
    refine cond_f rfl (vb rfl c1) ?_
    refine wp_skip ?_
    refine then_n ?_
    refine wp_seq ?_
    refine wp_rs rfl ?_
    refine RQ.y rfl (Y.assign (v := .int .i64 0) rfl) ?_
    refine RQ.nil ?_
    refine then_n ?_
    refine wp_ret ?_
    obtain rfl := Option.some.inj hm
    exact (ret1 rfl rfl rfl ⟨rfl, T⟩)
  · replace hm := cT c1 hm
    refine cond_t rfl (vb rfl c1) ?_
    refine wp_seq ?_
    refine wp_rs rfl ?_
    refine RQ.y rfl (Y.move (v := .int .i64 d1) s1) ?_
    obtain ⟨s2, ks2, hm⟩ := bnd hm
    replace ks2 := ck_some ks2
    refine RQ.y rfl (Y.binI (v := .int .i64 s2) rfl rfl (by rw [binI_sub ks2.2, ks2.1])) ?_
    refine RQ.y rfl (Y.assign (v := .int .i64 s2) rfl) ?_
    refine RQ.nil ?_
    refine then_n ?_
    refine wp_ret ?_
    obtain rfl := Option.some.inj hm
    exact (then_r (ret1 rfl rfl rfl ⟨rfl, T⟩))
def m_impl_wellFormed_1 (d0 : Int) : Option Bool :=
  ((m_impl_isDefIndex d0).bind fun y1 => some (!y1))
set_option maxHeartbeats 2000000 in
theorem c_m_impl_wellFormed_1 (d0 : Int) (r : Bool) (hm : m_impl_wellFormed_1 d0 = some r)  (w : World)  :
    Calls Try.prog 187 #[.int .i64 d0] w fun e w' => e = .returned (.bool r) ∧ Below w.heap.size w w' := by
  have T := Below.refl w.heap.size w
  unfold m_impl_wellFormed_1 at hm
  refine enter 6 Try.func187 rfl rfl rfl ?_
  intro f hf
  have s0 : f 0 = .int .i64 d0 := hf 0 _ rfl
  refine wp_seq ?_
  refine wp_rs rfl ?_
  refine RQ.y rfl (Y.assign (v := .bool false) rfl) ?_
  refine RQ.nil ?_
  refine then_n ?_
  refine wp_seq ?_
  refine wp_rb rfl ?_
  refine RQ.y rfl (Y.move (v := .int .i64 d0) s0) ?_
  obtain ⟨y1, e2, hm⟩ := bnd hm
  refine RQ.call rfl (am1 rfl) (by kernel_rfl) (v := .bool y1) (bel (K := fun _ => True) fun w' hb' => (c_m_impl_isDefIndex d0 _ e2  w' )) ?_
  refine RQ.y rfl (Y.not (b' := (!y1)) rfl rfl) ?_
  refine RQ.y rfl (Y.assign (v := .bool (!y1)) rfl) ?_
  refine RQ.nil ?_
  intro w3 hb4
  have szw3 := hb4.size
  have T := Tt T hb4
  refine then_n ?_
  refine wp_ret ?_
  obtain rfl := Option.some.inj hm
  exact (ret1 rfl rfl rfl ⟨rfl, T⟩)
def m_impl_hasPort (d0 : List DAgent) (d1 : DPort) : Option Bool :=
  (bif (decide (d1.agent ≥ 0)) then (bif (decide (d1.agent < (d0.length : Int))) then (bif (decide (d1.slot ≥ 0)) then ((getI d0 d1.agent).bind fun x14 => some (decide (d1.slot < (x14.ports.length : Int)))) else some false) else some false) else some false)
set_option maxHeartbeats 2000000 in
theorem c_m_impl_hasPort (d0 : List DAgent) (d1 : DPort) (r : Bool) (hm : m_impl_hasPort d0 d1 = some r) (v0 : Value) (w : World) (hv0 : Sl agentRd 5 w v0 d0) :
    Calls Try.prog 120 #[v0, .agg #[.int .i64 d1.agent, .int .i64 d1.slot]] w fun e w' => e = .returned (.bool r) ∧ Below w.heap.size w w' := by
  obtain ⟨Aa0, na0, ca0, rfl, ha0, ra0⟩ := hv0
  have ea0 := ha0.len; subst ea0
  have qa0 := len_le ra0
  have T := Below.refl w.heap.size w
  unfold m_impl_hasPort at hm
  refine enter 32 Try.func120 rfl rfl rfl ?_
  intro f hf
  have s0 : f 0 = .slice Aa0 d0.length ca0 := hf 0 _ rfl
  have s1 : f 1 = .agg #[.int .i64 d1.agent, .int .i64 d1.slot] := hf 1 _ rfl
  refine wp_seq ?_
  refine wp_rl rfl ?_
  refine RL.box rfl s1 (fun w1 B2 hb3 szw1 => ?_)
  replace B2 : Blk w1 w.heap.size 53 #[.int .i64 d1.agent, .int .i64 d1.slot] := B2
  have GB2 : w.heap.size ≤ w.heap.size := T.size
  have T := Tt T hb3
  refine RL.y rfl (Y.assign (v := .bool false) rfl) ?_
  refine RL.nil ?_
  refine then_n ?_
  refine wp_seq ?_
  refine wp_rbd (by kernel_rfl) (by kernel_rfl) ?_
  refine RQ.y rfl (Y.fieldAddr (off := 0) rfl (by kernel_rfl)) ?_
  refine RQ.y rfl (Y.load (v := .int .i64 d1.agent) rfl (by kernel_rfl) (beC (blkCell B2 (i := 0) rfl))) ?_
  refine RQ.y rfl (Y.binI (v := .bool (decide (d1.agent ≥ 0))) rfl rfl rfl) ?_
  refine RQ.y rfl (Y.move (v := .bool (decide (d1.agent ≥ 0))) rfl) ?_
  rcases bcases (decide (d1.agent ≥ 0)) with c5 | c5
  · replace hm := cF c5 hm
    have pc5 := of_decide_eq_false c5
    refine RQ.skip (wantN (dj := 8) rfl (vb rfl c5) rfl) ?_
    refine RQ.skip (wantN (dj := 8) rfl (vb rfl c5) rfl) ?_
    refine RQ.skip (wantN (dj := 8) rfl (vb rfl c5) rfl) ?_
    refine RQ.skip (wantN (dj := 8) rfl (vb rfl c5) rfl) ?_
    refine RQ.skip (wantN (dj := 8) rfl (vb rfl c5) rfl) ?_
    refine RQ.y rfl (Y.pick (b := false) (v := .bool false) (vb rfl c5) rfl) ?_
    refine RQ.y rfl (Y.move (v := .bool false) rfl) ?_
    refine RQ.skip (wantN (dj := 15) rfl rfl rfl) ?_
    refine RQ.skip (wantN (dj := 15) rfl rfl rfl) ?_
    refine RQ.skip (wantN (dj := 15) rfl rfl rfl) ?_
    refine RQ.y rfl (Y.pick (b := false) (v := .bool false) rfl rfl) ?_
    refine RQ.y rfl (Y.move (v := .bool false) rfl) ?_
    refine RQ.skip (wantN (dj := 20) rfl rfl rfl) ?_
    refine RQ.skip (wantN (dj := 20) rfl rfl rfl) ?_
    refine RQ.skip (wantN (dj := 20) rfl rfl rfl) ?_
    refine RQ.skip (wantN (dj := 20) rfl rfl rfl) ?_
    refine RQ.skip (wantN (dj := 20) rfl rfl rfl) ?_
    refine RQ.skip (wantN (dj := 20) rfl rfl rfl) ?_
    refine RQ.skip (wantN (dj := 20) rfl rfl rfl) ?_
    refine RQ.skip (wantN (dj := 20) rfl rfl rfl) ?_
    refine RQ.skip (wantN (dj := 20) rfl rfl rfl) ?_
    refine RQ.skip (wantN (dj := 20) rfl rfl rfl) ?_
    refine RQ.y rfl (Y.pick (b := false) (v := .bool false) rfl rfl) ?_
    refine RQ.y rfl (Y.assign (v := .bool false) rfl) ?_
    refine RQ.nil ?_
    intro w6 hb7
    have szw6 := hb7.size
    have T := Tt T hb7
    refine then_n ?_
    refine wp_ret ?_
    obtain rfl := Option.some.inj hm
    exact (ret1 rfl rfl rfl ⟨rfl, T⟩)
  · replace hm := cT c5 hm
    have pc5 := of_decide_eq_true c5
    refine RQ.y (wantT (dj := 8) rfl (vb rfl c5)) (Y.fieldAddr (off := 0) rfl (by kernel_rfl)) ?_
    refine RQ.y (wantT (dj := 8) rfl (vb rfl c5)) (Y.load (v := .int .i64 d1.agent) rfl (by kernel_rfl) (beC (blkCell B2 (i := 0) rfl))) ?_
    refine RQ.y (wantT (dj := 8) rfl (vb rfl c5)) (Y.move (v := .slice Aa0 d0.length ca0) s0) ?_
    refine RQ.y (wantT (dj := 8) rfl (vb rfl c5)) (Y.len (by kernel_rfl) rfl) ?_
    refine RQ.y (wantT (dj := 8) rfl (vb rfl c5)) (Y.binI (v := .bool (decide (d1.agent < (d0.length : Int)))) rfl rfl rfl) ?_
    refine RQ.y rfl (Y.pick (b := true) (v := .bool (decide (d1.agent < (d0.length : Int)))) (vb rfl c5) rfl) ?_
    refine RQ.y rfl (Y.move (v := .bool (decide (d1.agent < (d0.length : Int)))) rfl) ?_
    rcases bcases (decide (d1.agent < (d0.length : Int))) with c8 | c8
    · replace hm := cF c8 hm
      have pc8 := of_decide_eq_false c8
      refine RQ.skip (wantN (dj := 15) rfl (vb rfl c8) rfl) ?_
      refine RQ.skip (wantN (dj := 15) rfl (vb rfl c8) rfl) ?_
      refine RQ.skip (wantN (dj := 15) rfl (vb rfl c8) rfl) ?_
      refine RQ.y rfl (Y.pick (b := false) (v := .bool false) (vb rfl c8) rfl) ?_
      refine RQ.y rfl (Y.move (v := .bool false) rfl) ?_
      refine RQ.skip (wantN (dj := 20) rfl rfl rfl) ?_
      refine RQ.skip (wantN (dj := 20) rfl rfl rfl) ?_
      refine RQ.skip (wantN (dj := 20) rfl rfl rfl) ?_
      refine RQ.skip (wantN (dj := 20) rfl rfl rfl) ?_
      refine RQ.skip (wantN (dj := 20) rfl rfl rfl) ?_
      refine RQ.skip (wantN (dj := 20) rfl rfl rfl) ?_
      refine RQ.skip (wantN (dj := 20) rfl rfl rfl) ?_
      refine RQ.skip (wantN (dj := 20) rfl rfl rfl) ?_
      refine RQ.skip (wantN (dj := 20) rfl rfl rfl) ?_
      refine RQ.skip (wantN (dj := 20) rfl rfl rfl) ?_
      refine RQ.y rfl (Y.pick (b := false) (v := .bool false) rfl rfl) ?_
      refine RQ.y rfl (Y.assign (v := .bool false) rfl) ?_
      refine RQ.nil ?_
      intro w9 hb10
      have szw9 := hb10.size
      have T := Tt T hb10
      refine then_n ?_
      refine wp_ret ?_
      obtain rfl := Option.some.inj hm
      exact (ret1 rfl rfl rfl ⟨rfl, T⟩)
    · replace hm := cT c8 hm
      have pc8 := of_decide_eq_true c8
      refine RQ.y (wantT (dj := 15) rfl (vb rfl c8)) (Y.fieldAddr (off := 1) rfl (by kernel_rfl)) ?_
      refine RQ.y (wantT (dj := 15) rfl (vb rfl c8)) (Y.load (v := .int .i64 d1.slot) rfl (by kernel_rfl) (beC (blkCell B2 (i := 1) rfl))) ?_
      refine RQ.y (wantT (dj := 15) rfl (vb rfl c8)) (Y.binI (v := .bool (decide (d1.slot ≥ 0))) rfl rfl rfl) ?_
      refine RQ.y rfl (Y.pick (b := true) (v := .bool (decide (d1.slot ≥ 0))) (vb rfl c8) rfl) ?_
      refine RQ.y rfl (Y.move (v := .bool (decide (d1.slot ≥ 0))) rfl) ?_
      rcases bcases (decide (d1.slot ≥ 0)) with c11 | c11
      · replace hm := cF c11 hm
        have pc11 := of_decide_eq_false c11
        refine RQ.skip (wantN (dj := 20) rfl (vb rfl c11) rfl) ?_
        refine RQ.skip (wantN (dj := 20) rfl (vb rfl c11) rfl) ?_
        refine RQ.skip (wantN (dj := 20) rfl (vb rfl c11) rfl) ?_
        refine RQ.skip (wantN (dj := 20) rfl (vb rfl c11) rfl) ?_
        refine RQ.skip (wantN (dj := 20) rfl (vb rfl c11) rfl) ?_
        refine RQ.skip (wantN (dj := 20) rfl (vb rfl c11) rfl) ?_
        refine RQ.skip (wantN (dj := 20) rfl (vb rfl c11) rfl) ?_
        refine RQ.skip (wantN (dj := 20) rfl (vb rfl c11) rfl) ?_
        refine RQ.skip (wantN (dj := 20) rfl (vb rfl c11) rfl) ?_
        refine RQ.skip (wantN (dj := 20) rfl (vb rfl c11) rfl) ?_
        refine RQ.y rfl (Y.pick (b := false) (v := .bool false) (vb rfl c11) rfl) ?_
        refine RQ.y rfl (Y.assign (v := .bool false) rfl) ?_
        refine RQ.nil ?_
        intro w12 hb13
        have szw12 := hb13.size
        have T := Tt T hb13
        refine then_n ?_
        refine wp_ret ?_
        obtain rfl := Option.some.inj hm
        exact (ret1 rfl rfl rfl ⟨rfl, T⟩)
      · replace hm := cT c11 hm
        have pc11 := of_decide_eq_true c11
        refine RQ.y (wantT (dj := 20) rfl (vb rfl c11)) (Y.fieldAddr (off := 1) rfl (by kernel_rfl)) ?_
        refine RQ.y (wantT (dj := 20) rfl (vb rfl c11)) (Y.load (v := .int .i64 d1.slot) rfl (by kernel_rfl) (beC (blkCell B2 (i := 1) rfl))) ?_
        refine RQ.y (wantT (dj := 20) rfl (vb rfl c11)) (Y.move (v := .slice Aa0 d0.length ca0) s0) ?_
        refine RQ.y (wantT (dj := 20) rfl (vb rfl c11)) (Y.fieldAddr (off := 0) rfl (by kernel_rfl)) ?_
        refine RQ.y (wantT (dj := 20) rfl (vb rfl c11)) (Y.load (v := .int .i64 d1.agent) rfl (by kernel_rfl) (beC (blkCell B2 (i := 0) rfl))) ?_
        obtain ⟨x14, hx17, hm⟩ := bnd hm
        obtain ⟨k15, hk18, hl19, hx17⟩ := getI_some hx17
        obtain ⟨b21, o22, rfl, hbb21⟩ := ha0.addr (by omega)
        obtain ⟨cs16, hRcs16, hc20⟩ := ha0.el hx17
        have hScs16 := hRcs16
        obtain ⟨A23, n23, c23, A24, n24, c24, rfl, ⟨h23, r23⟩, ⟨h24, r24⟩⟩ := hRcs16
        have e23 := h23.len; subst e23
        have q23 := len_le r23
        have e24 := h24.len; subst e24
        have q24 := len_le r24
        refine RQ.y (wantT (dj := 20) rfl (vb rfl c11)) (Y.indexAddr (m := k15) (sz := 5) rfl rfl hk18 hl19 (by kernel_rfl)) ?_
        refine RQ.y (wantT (dj := 20) rfl (vb rfl c11)) (Y.fieldAddr (off := 4) rfl (by kernel_rfl)) ?_
        refine RQ.y (wantT (dj := 20) rfl (vb rfl c11)) (Y.load (v := .slice A24 x14.ports.length c24) rfl (by kernel_rfl) (beC (cellT T (hc20 4 _ rfl)))) ?_
        refine RQ.y (wantT (dj := 20) rfl (vb rfl c11)) (Y.len (by kernel_rfl) rfl) ?_
        refine RQ.y (wantT (dj := 20) rfl (vb rfl c11)) (Y.binI (v := .bool (decide (d1.slot < (x14.ports.length : Int)))) rfl rfl rfl) ?_
        refine RQ.y rfl (Y.pick (b := true) (v := .bool (decide (d1.slot < (x14.ports.length : Int)))) (vb rfl c11) rfl) ?_
        refine RQ.y rfl (Y.assign (v := .bool (decide (d1.slot < (x14.ports.length : Int)))) rfl) ?_
        refine RQ.nil ?_
        intro w25 hb26
        have szw25 := hb26.size
        have T := Tt T hb26
        refine then_n ?_
        refine wp_ret ?_
        obtain rfl := Option.some.inj hm
        exact (ret1 rfl rfl rfl ⟨rfl, T⟩)
def m_impl_Net_peer (d0 : DNet) (d1 : DPort) : Option DPort :=
  ((getI d0.agents d1.agent).bind fun x12 => ((getI x12.ports d1.slot).bind fun x23 => some x23))
set_option maxHeartbeats 2000000 in
theorem c_m_impl_Net_peer (d0 : DNet) (d1 : DPort) (r : DPort) (hm : m_impl_Net_peer d0 d1 = some r) (v0 : Value) (w : World) (hv0 : Pt netRd w v0 d0) :
    Calls Try.prog 119 #[v0, .agg #[.int .i64 d1.agent, .int .i64 d1.slot]] w fun e w' => e = .returned (.agg #[.int .i64 r.agent, .int .i64 r.slot]) ∧ Below w.heap.size w w' := by
  obtain ⟨ba0, oa0, csa0, rfl, hba0, hRa0, hca0⟩ := hv0
  have hSa0 := hRa0
  obtain ⟨A1, n1, c1, rfl, ⟨h1, r1⟩⟩ := hRa0
  have e1 := h1.len; subst e1
  have q1 := len_le r1
  have T := Below.refl w.heap.size w
  unfold m_impl_Net_peer at hm
  refine enter 18 Try.func119 rfl rfl rfl ?_
  intro f hf
  have s0 : f 0 = .pointer (some ⟨ba0, oa0, none⟩) := hf 0 _ rfl
  have s1 : f 1 = .agg #[.int .i64 d1.agent, .int .i64 d1.slot] := hf 1 _ rfl
  refine wp_seq ?_
  refine wp_rl rfl ?_
  refine RL.box rfl s1 (fun w2 B3 hb4 szw2 => ?_)
  replace B3 : Blk w2 w.heap.size 53 #[.int .i64 d1.agent, .int .i64 d1.slot] := B3
  have GB3 : w.heap.size ≤ w.heap.size := T.size
  have T := Tt T hb4
  refine RL.alloc (z := .agg #[.int .i64 0, .int .i64 0]) rfl (by kernel_rfl) (fun w6 B7 hb8 szw6 => ?_)
  replace B7 : Blk w6 w2.heap.size 53 #[.int .i64 0, .int .i64 0] := B7
  have GB7 : w.heap.size ≤ w2.heap.size := T.size
  have Eob9_ob5 := Nat.ne_of_lt B3.lt
  have B3 := blkT B3 hb8
  have T := Tt T hb8
  refine RL.nil ?_
  refine then_n ?_
  refine wp_seq ?_
  refine wp_rg (fun w' => Below w.heap.size w w' ∧ Blk w' w.heap.size 53 #[.int .i64 d1.agent, .int .i64 d1.slot]) [(0, true), (1, true), (2, true), (3, true), (4, true), (5, true), (6, true), (7, true), (8, true), (9, true), (10, true), (11, true), (12, true), (13, false)] (by kernel_rfl) (by kernel_rfl) (fun w10 hb11 szw10 => ?_)
  have B3 := blkT B3 hb11
  have B7 := blkT B7 hb11
  have T := Tt T hb11
  refine ⟨⟨T, B3⟩, ?_⟩
  refine RG.y rfl rfl (Y.move (v := .pointer (some ⟨ba0, oa0, none⟩)) s0) ?_
  refine RG.y rfl rfl (Y.nilCheck rfl) ?_
  refine RG.y rfl rfl (Y.fieldAddr (off := 0) rfl (by kernel_rfl)) ?_
  refine RG.y rfl rfl (Y.load (v := .slice A1 d0.agents.length c1) rfl (by kernel_rfl) (fun w' hS => (cellT hS.1 (hca0 0 _ rfl)))) ?_
  refine RG.y rfl rfl (Y.fieldAddr (off := 0) rfl (by kernel_rfl)) ?_
  refine RG.y rfl rfl (Y.load (v := .int .i64 d1.agent) rfl (by kernel_rfl) (fun w' hS => (blkCell hS.2 (i := 0) rfl))) ?_
  obtain ⟨x12, hx15, hm⟩ := bnd hm
  obtain ⟨k13, hk16, hl17, hx15⟩ := getI_some hx15
  obtain ⟨b19, o20, rfl, hbb19⟩ := h1.addr (by omega)
  obtain ⟨cs14, hRcs14, hc18⟩ := h1.el hx15
  have hScs14 := hRcs14
  obtain ⟨A21, n21, c21, A22, n22, c22, rfl, ⟨h21, r21⟩, ⟨h22, r22⟩⟩ := hRcs14
  have e21 := h21.len; subst e21
  have q21 := len_le r21
  have e22 := h22.len; subst e22
  have q22 := len_le r22
  refine RG.y rfl rfl (Y.indexAddr (m := k13) (sz := 5) rfl rfl hk16 hl17 (by kernel_rfl)) ?_
  refine RG.y rfl rfl (Y.fieldAddr (off := 4) rfl (by kernel_rfl)) ?_
  refine RG.y rfl rfl (Y.load (v := .slice A22 x12.ports.length c22) rfl (by kernel_rfl) (fun w' hS => (cellT hS.1 (hc18 4 _ rfl)))) ?_
  refine RG.y rfl rfl (Y.fieldAddr (off := 1) rfl (by kernel_rfl)) ?_
  refine RG.y rfl rfl (Y.load (v := .int .i64 d1.slot) rfl (by kernel_rfl) (fun w' hS => (blkCell hS.2 (i := 1) rfl))) ?_
  obtain ⟨x23, hx26, hm⟩ := bnd hm
  obtain ⟨k24, hk27, hl28, hx26⟩ := getI_some hx26
  obtain ⟨b30, o31, rfl, hbb30⟩ := h22.addr (by omega)
  obtain ⟨cs25, hRcs25, hc29⟩ := h22.el hx26
  have hScs25 := hRcs25
  obtain rfl := hRcs25
  refine RG.y rfl rfl (Y.indexAddr (m := k24) (sz := 2) rfl rfl hk27 hl28 (by kernel_rfl)) ?_
  refine RG.y rfl rfl (Y.loadN (cs := [.int .i64 x23.agent, .int .i64 x23.slot]) rfl (by kernel_rfl) (cells2 (fun w' hS => (cellT hS.1 (hc29 0 _ rfl))) (fun w' hS => (cellT hS.1 (hc29 1 _ rfl))))) ?_
  refine RG.act rfl ?_
  refine RL.store (v := .agg #[.int .i64 x23.agent, .int .i64 x23.slot]) (cs' := #[.int .i64 x23.agent, .int .i64 x23.slot]) rfl rfl rfl B7 (by kernel_rfl) (by rfl) (by rfl) (by rfl) (fun w32 B33 ho34 => ?_)
  have szw32 := ho34.size
  have B3 := B3.only_ ho34 (by intro hin; simp at hin; exact Eob9_ob5 hin)
  have T := T.trans (ho34.below (by simp; omega))
  refine RL.nil ⟨⟨T, B3⟩, ?_⟩
  refine RG.nil ?_
  refine then_n ?_
  refine wp_ret ?_
  obtain rfl := Option.some.inj hm
  exact (retc (cs := [.int .i64 x23.agent, .int .i64 x23.slot]) rfl rfl rfl (by kernel_rfl) (blkCells B33) ⟨rfl, T⟩)
end
section
open Go.RowKit
theorem app_impl_Port : AppT Try.prog 87 53 (.agg #[.int .i64 0, .int .i64 0]) 2 16 := ⟨by kernel_rfl, by kernel_rfl, rfl, by decide⟩
theorem app_impl_Pair : AppT Try.prog 96 81 (.agg #[.int .i64 0, .int .i64 0]) 2 16 := ⟨by kernel_rfl, by kernel_rfl, rfl, by decide⟩
end
section
open Go.RowKit
set_option linter.unusedVariables false
set_option linter.unusedSimpArgs false
set_option maxRecDepth 100000
def m_impl_Net_ports_A1 (xs2 : List DPort) : Option (List DPort) :=
  some xs2
def m_impl_Net_ports_A2 (rec1 : List DPort → Int → Option (List DPort)) (i5 : Int) (xs26 : List DPort) : Option (List DPort) :=
  ((ck (i5 + 1)).bind fun s28 => (rec1 xs26 s28))
def m_impl_Net_ports_B2 (i5 : Int) (x8 : DAgent) (rec2 : List DPort → Int → Option (List DPort)) (K2 : List DPort → Option (List DPort)) (xs29 : List DPort) (i30 : Int) : Option (List DPort) :=
  (bif (decide (i30 < (x8.ports.length : Int))) then ((mustP (xs29.length + ([(⟨i5, i30⟩ : DPort)]).length ≤ 4294967296)).bind fun _ => (rec2 (xs29 ++ [(⟨i5, i30⟩ : DPort)]) (i30 + 1))) else (K2 xs29))
def m_impl_Net_ports_L2 (i5 : Int) (x8 : DAgent) (K2 : List DPort → Option (List DPort)) : Nat → List DPort → Int → Option (List DPort)
  | 0, _, _ => none
  | g + 1, xs29, i30 => m_impl_Net_ports_B2 i5 x8 (m_impl_Net_ports_L2 i5 x8 K2 g) K2 xs29 i30
def m_impl_Net_ports_B1 (d0 : DNet) (rec1 : List DPort → Int → Option (List DPort)) (K1 : List DPort → Option (List DPort)) (xs4 : List DPort) (i5 : Int) : Option (List DPort) :=
  (bif (decide (i5 < (d0.agents.length : Int))) then ((getI d0.agents i5).bind fun x8 => (m_impl_Net_ports_L2 i5 x8 (m_impl_Net_ports_A2 rec1 i5) (x8.ports.length + 1) xs4 0)) else (K1 xs4))
def m_impl_Net_ports_L1 (d0 : DNet) (K1 : List DPort → Option (List DPort)) : Nat → List DPort → Int → Option (List DPort)
  | 0, _, _ => none
  | g + 1, xs4, i5 => m_impl_Net_ports_B1 d0 (m_impl_Net_ports_L1 d0 K1 g) K1 xs4 i5
def m_impl_Net_ports (d0 : DNet) : Option (List DPort) :=
  (m_impl_Net_ports_L1 d0 m_impl_Net_ports_A1 (d0.agents.length + 1) ([] : List DPort) 0)
set_option maxHeartbeats 2000000 in
theorem c_m_impl_Net_ports (d0 : DNet) (r : List DPort) (hm : m_impl_Net_ports d0 = some r) (v0 : Value) (w : World) (hv0 : Pt netRd w v0 d0) :
    Calls Try.prog 117 #[v0] w fun e w' => (∃ v, e = .returned v ∧ OwF 53 encPort 2 w' w.heap.size v r) ∧ Below w.heap.size w w' := by
  obtain ⟨ba0, oa0, csa0, rfl, hba0, hRa0, hca0⟩ := hv0
  have hSa0 := hRa0
  obtain ⟨A1, n1, c1, rfl, ⟨h1, r1⟩⟩ := hRa0
  have e1 := h1.len; subst e1
  have q1 := len_le r1
  have T := Below.refl w.heap.size w
  unfold m_impl_Net_ports at hm
  refine enter 32 Try.func117 rfl rfl rfl ?_
  intro f hf
  have s0 : f 0 = .pointer (some ⟨ba0, oa0, none⟩) := hf 0 _ rfl
  refine wp_seq ?_
  refine wp_rs rfl ?_
  refine RQ.y rfl (Y.assign (v := .slice none 0 0) rfl) ?_
  refine RQ.nil ?_
  refine then_n ?_
  refine wp_seq ?_
  refine wp_rs rfl ?_
  refine RQ.y rfl (Y.assign (v := .slice none 0 0) rfl) ?_
  refine RQ.nil ?_
  refine then_n ?_
  refine wp_seq ?_
  refine wp_seq ?_
  refine wp_rs rfl ?_
  refine RQ.y rfl (Y.move (v := .pointer (some ⟨ba0, oa0, none⟩)) s0) ?_
  refine RQ.y rfl (Y.nilCheck rfl) ?_
  refine RQ.y rfl (Y.fieldAddr (off := 0) rfl (by kernel_rfl)) ?_
  refine RQ.y rfl (Y.load (v := .slice A1 d0.agents.length c1) rfl (by kernel_rfl) (eqC (cellT T (hca0 0 _ rfl)))) ?_
  refine RQ.y rfl (Y.len (by kernel_rfl) rfl) ?_
  refine RQ.y rfl (Y.move (v := .int .i64 0) rfl) ?_
  refine RQ.nil ?_
  refine then_n ?_
  refine wp_block ?_
  have G50 : OwF 53 encPort 2 w w.heap.size (.slice none 0 0) ([] : List DPort) := OwF.nil
  obtain ⟨K1, hK1, hm⟩ : ∃ K, K = m_impl_Net_ports_A1 ∧ m_impl_Net_ports_L1 d0 K (d0.agents.length + 1) ([] : List DPort) 0 = some r := ⟨_, rfl, hm⟩
  refine wp_loopX (fun g f w' => ∃ (xs4 : List DPort) (i5 : Int) (uxs4 : Value), f 10 = .slice A1 d0.agents.length c1 ∧ f 11 = .int .i64 (d0.agents.length : Int) ∧ f 3 = uxs4 ∧ OwF 53 encPort 2 w' w.heap.size uxs4 xs4 ∧ f 12 = .int .i64 i5 ∧ 0 ≤ i5 ∧ Below w.heap.size w w' ∧ m_impl_Net_ports_L1 d0 K1 g xs4 i5 = some r) 0 (fun f w' => ∃ (xs2 : List DPort) (uxs2 : Value), f 3 = uxs2 ∧ OwF 53 encPort 2 w' w.heap.size uxs2 xs2 ∧ Below w.heap.size w w' ∧ m_impl_Net_ports_A1 xs2 = some r) (d0.agents.length + 1) ⟨([] : List DPort), 0, ((.slice none 0 0)), rfl, rfl, rfl, G50, rfl, (by omega), T, hm⟩ ?_ ?_
  · rintro f w3 ⟨xs2, uxs2, s3_1x, Gxs2, T, hm⟩
    unfold m_impl_Net_ports_A1 at hm
    refine blk_hit (then_n ?_)
    refine wp_seq ?_
    refine wp_rs rfl ?_
    refine RQ.y rfl (Y.move (v := uxs2) s3_1x) ?_
    refine RQ.y rfl (Y.assign (v := uxs2) rfl) ?_
    refine RQ.nil ?_
    refine then_n ?_
    refine wp_ret ?_
    obtain rfl := Option.some.inj hm
    exact (ret1 rfl rfl rfl ⟨⟨_, rfl, Gxs2⟩, T⟩)
  · rintro g f w6 ⟨xs4, i5, uxs4, s10_1, s11_1, s3_1, Gxs4, s12_1, nn12_1, T, hm⟩
    rcases g with _ | g
    · simp only [m_impl_Net_ports_L1] at hm; cases hm
    obtain ⟨rec1, hrec1, hm⟩ : ∃ z, z = m_impl_Net_ports_L1 d0 K1 g ∧ m_impl_Net_ports_B1 d0 z K1 xs4 i5 = some r := ⟨_, rfl, hm⟩
    unfold m_impl_Net_ports_B1 at hm
    refine wp_seq ?_
    refine wp_rs rfl ?_
    refine RQ.y rfl (Y.binI (v := .bool (decide (i5 < (d0.agents.length : Int)))) s12_1 s11_1 rfl) ?_
    refine RQ.nil ?_
    refine then_n ?_
    refine wp_seq ?_
    rcases bcases (decide (i5 < (d0.agents.length : Int))) with c7 | c7
    · replace hm := cF c7 hm
      have pc7 := of_decide_eq_false c7
      refine cond_f rfl (vb rfl c7) ?_
      refine wp_exit ?_
      exact (then_x (then_x (hit_x ⟨_, rfl, ⟨xs4, (uxs4), s3_1, Gxs4, T, (by rw [hK1] at hm; exact hm)⟩⟩)))
    · replace hm := cT c7 hm
      have pc7 := of_decide_eq_true c7
      refine cond_t rfl (vb rfl c7) ?_
      refine wp_skip ?_
      refine then_n ?_
      refine wp_seq ?_
      refine wp_block ?_
      refine wp_seq ?_
      refine wp_rl rfl ?_
      refine RL.y rfl (Y.move (v := .int .i64 i5) s12_1) ?_
      obtain ⟨x8, hx11, hm⟩ := bnd hm
      obtain ⟨k9, hk12, hl13, hx11⟩ := getI_some hx11
      obtain ⟨b15, o16, rfl, hbb15⟩ := h1.addr (by omega)
      obtain ⟨cs10, hRcs10, hc14⟩ := h1.el hx11
      have hScs10 := hRcs10
      obtain ⟨A17, n17, c17, A18, n18, c18, rfl, ⟨h17, r17⟩, ⟨h18, r18⟩⟩ := hRcs10
      have e17 := h17.len; subst e17
      have q17 := len_le r17
      have e18 := h18.len; subst e18
      have q18 := len_le r18
      refine RL.y rfl (Y.indexAddr (m := k9) (sz := 5) s10_1 s12_1 hk12 hl13 (by kernel_rfl)) ?_
      refine RL.y rfl (Y.loadN (cs := [.int .i64 x8.kind, .int .i64 x8.level, .int .i64 x8.value, .slice A17 x8.data.length c17, .slice A18 x8.ports.length c18]) rfl (by kernel_rfl) (cells5 (eqC (cellT T (hc14 0 _ rfl))) (eqC (cellT T (hc14 1 _ rfl))) (eqC (cellT T (hc14 2 _ rfl))) (eqC (cellT T (hc14 3 _ rfl))) (eqC (cellT T (hc14 4 _ rfl))))) ?_
      refine RL.alloc (z := .agg #[.int .i64 0, .int .i64 0, .int .i64 0, .slice none 0 0, .slice none 0 0]) rfl (by kernel_rfl) (fun w19 B20 hb21 szw19 => ?_)
      replace B20 : Blk w19 w6.heap.size 89 #[.int .i64 0, .int .i64 0, .int .i64 0, .slice none 0 0, .slice none 0 0] := B20
      have GB20 : w.heap.size ≤ w6.heap.size := T.size
      have Noxs4_ob22 := OwF.far Gxs4 (Nat.le_refl _)
      have Gxs4 := OwF.below Gxs4 hb21
      have T := Tt T hb21
      refine RL.y rfl (Y.assign (v := .int .i64 i5) rfl) ?_
      refine RL.store (v := .agg #[.int .i64 x8.kind, .int .i64 x8.level, .int .i64 x8.value, .slice A17 x8.data.length c17, .slice A18 x8.ports.length c18]) (cs' := #[.int .i64 x8.kind, .int .i64 x8.level, .int .i64 x8.value, .slice A17 x8.data.length c17, .slice A18 x8.ports.length c18]) rfl rfl rfl B20 (by kernel_rfl) (by rfl) (by rfl) (by rfl) (fun w23 B24 ho25 => ?_)
      have szw23 := ho25.size
      have Gxs4 := OwF.only Gxs4 ho25 Noxs4_ob22
      have T := T.trans (ho25.below (by simp; omega))
      refine RL.nil ?_
      refine then_n ?_
      refine wp_seq ?_
      refine wp_rs rfl ?_
      refine RQ.y rfl (Y.fieldAddr (off := 4) rfl (by kernel_rfl)) ?_
      refine RQ.y rfl (Y.load (v := .slice A18 x8.ports.length c18) rfl (by kernel_rfl) (eqC (blkCell B24 (i := 4) rfl))) ?_
      refine RQ.y rfl (Y.len (by kernel_rfl) rfl) ?_
      refine RQ.y rfl (Y.move (v := .int .i64 0) rfl) ?_
      refine RQ.nil ?_
      refine then_n ?_
      refine wp_block ?_
      obtain ⟨K2, hK2, hm⟩ : ∃ K, K = (m_impl_Net_ports_A2 rec1 i5) ∧ m_impl_Net_ports_L2 i5 x8 K (x8.ports.length + 1) xs4 0 = some r := ⟨_, rfl, hm⟩
      refine wp_loopX (fun g f w' => ∃ (xs29 : List DPort) (i30 : Int) (uxs29 : Value), f 4 = .int .i64 i5 ∧ f 10 = .slice (some ⟨b15, o16, none⟩) d0.agents.length c1 ∧ f 11 = .int .i64 (d0.agents.length : Int) ∧ f 12 = .int .i64 i5 ∧ f 19 = .int .i64 (x8.ports.length : Int) ∧ f 3 = uxs29 ∧ OwF 53 encPort 2 w' w.heap.size uxs29 xs29 ∧ f 20 = .int .i64 i30 ∧ 0 ≤ i30 ∧ Below w.heap.size w w' ∧ m_impl_Net_ports_L2 i5 x8 K2 g xs29 i30 = some r) 2 (fun f w' => ∃ (xs26 : List DPort) (uxs26 : Value), f 10 = .slice (some ⟨b15, o16, none⟩) d0.agents.length c1 ∧ f 11 = .int .i64 (d0.agents.length : Int) ∧ f 12 = .int .i64 i5 ∧ f 3 = uxs26 ∧ OwF 53 encPort 2 w' w.heap.size uxs26 xs26 ∧ Below w.heap.size w w' ∧ m_impl_Net_ports_A2 rec1 i5 xs26 = some r) (x8.ports.length + 1) ⟨xs4, 0, (uxs4), rfl, s10_1, s11_1, s12_1, rfl, s3_1, Gxs4, rfl, (by omega), T, hm⟩ ?_ ?_
      · rintro f w27 ⟨xs26, uxs26, s10_2x, s11_2x, s12_2x, s3_2x, Gxs26, T, hm⟩
        unfold m_impl_Net_ports_A2 at hm
        refine blk_hit (blk_n (then_n ?_))
        refine wp_rs rfl ?_
        obtain ⟨s28, ks28, hm⟩ := bnd hm
        replace ks28 := ck_some ks28
        refine RQ.y rfl (Y.binI (v := .int .i64 s28) s12_2x rfl (by rw [binI_add ks28.2, ks28.1])) ?_
        refine RQ.y rfl (Y.move (v := .int .i64 s28) rfl) ?_
        refine RQ.nil ?_
        exact (then_n ⟨g, _, Nat.lt_succ_self _, rfl, ⟨xs26, s28, (uxs26), s10_2x, s11_2x, s3_2x, Gxs26, rfl, (by omega), T, (by rw [← hrec1]; exact hm)⟩⟩)
      · rintro g f w31 ⟨xs29, i30, uxs29, s4_2, s10_2, s11_2, s12_2, s19_2, s3_2, Gxs29, s20_2, nn20_2, T, hm⟩
        rcases g with _ | g
        · simp only [m_impl_Net_ports_L2] at hm; cases hm
        obtain ⟨rec2, hrec2, hm⟩ : ∃ z, z = m_impl_Net_ports_L2 i5 x8 K2 g ∧ m_impl_Net_ports_B2 i5 x8 z K2 xs29 i30 = some r := ⟨_, rfl, hm⟩
        unfold m_impl_Net_ports_B2 at hm
        refine wp_seq ?_
        refine wp_rs rfl ?_
        refine RQ.y rfl (Y.binI (v := .bool (decide (i30 < (x8.ports.length : Int)))) s20_2 s19_2 rfl) ?_
        refine RQ.nil ?_
        refine then_n ?_
        refine wp_seq ?_
        rcases bcases (decide (i30 < (x8.ports.length : Int))) with c32 | c32
        · replace hm := cF c32 hm
          have pc32 := of_decide_eq_false c32
          refine cond_f rfl (vb rfl c32) ?_
          refine wp_exit ?_
          exact (then_x (then_x (hit_x ⟨_, rfl, ⟨xs29, (uxs29), s10_2, s11_2, s12_2, s3_2, Gxs29, T, (by rw [hK2] at hm; exact hm)⟩⟩)))
        · replace hm := cT c32 hm
          have pc32 := of_decide_eq_true c32
          refine cond_t rfl (vb rfl c32) ?_
          refine wp_skip ?_
          refine then_n ?_
          refine wp_seq ?_
          refine wp_block ?_
          refine wp_seq ?_
          refine wp_rs rfl ?_
          refine RQ.y rfl (Y.move (v := .int .i64 i30) s20_2) ?_
          refine RQ.y rfl (Y.assign (v := .int .i64 i30) rfl) ?_
          refine RQ.nil ?_
          refine then_n ?_
          refine wp_rl rfl ?_
          refine RL.y rfl (Y.move (v := uxs29) s3_2) ?_
          refine RL.y rfl (Y.move (v := .int .i64 i5) s4_2) ?_
          refine RL.y rfl (Y.move (v := .int .i64 i30) rfl) ?_
          refine RL.y rfl (Y.build2 (cells := #[.int .i64 i5, .int .i64 i30]) rfl rfl (by kernel_rfl) (by kernel_rfl)) ?_
          refine RL.bslice (e := 53) (cells := #[.int .i64 i5, .int .i64 i30]) rfl (pm1 rfl) (by kernel_rfl) (fun w33 B34 hb35 szw33 => ?_)
          have ZB34 : w.heap.size ≤ w31.heap.size := T.size
          have Do36_oxs29 := Dj.new (v := .slice (some ⟨w31.heap.size, 0, none⟩) 1 1) litGe (OwF.hi Gxs29)
          have Gxs29 := OwF.below Gxs29 hb35
          have T := Tt T hb35
          have G37 := OwF.lit (enc := encPort) (sz := 2) (xs := [(⟨i5, i30⟩ : DPort)]) B34 ZB34 rfl rfl rfl rfl
          obtain ⟨_, m39, hm⟩ := bnd hm
          have hk40 := mustP_some m39
          refine RL.append fPort app_impl_Port rfl rfl rfl Gxs29 (OwF.arg fPort G37) T.size hk40 (fun v41 w42 G43 hgr44 hbl45 hnb46 => ?_)
          have szw42 := hbl45.size
          have T := T.trans hbl45
          refine RL.y rfl (Y.assign (v := v41) rfl) ?_
          refine RL.nil ?_
          refine blk_n (then_n ?_)
          refine wp_rs rfl ?_
          refine RQ.y rfl (Y.binI s20_2 rfl (binI_add (m := i30) (by omega))) ?_
          refine RQ.y rfl (Y.move (v := .int .i64 (i30 + 1)) rfl) ?_
          refine RQ.nil ?_
          exact (then_n ⟨g, _, Nat.lt_succ_self _, rfl, ⟨(xs29 ++ [(⟨i5, i30⟩ : DPort)]), (i30 + 1), (v41), s4_2, s10_2, s11_2, s12_2, s19_2, rfl, G43, rfl, (by omega), T, (by rw [← hrec2]; exact hm)⟩⟩)
def m_impl_Net_pairs_A1 (xs2 : List DPair) : Option (List DPair) :=
  some xs2
def m_impl_Net_pairs_B1 (d0 : DNet) (rec1 : List DPair → Int → Option (List DPair)) (K1 : List DPair → Option (List DPair)) (xs4 : List DPair) (i5 : Int) : Option (List DPair) :=
  (bif (decide (i5 < (d0.agents.length : Int))) then ((getI d0.agents i5).bind fun x8 => ((getI x8.ports 0).bind fun x26 => (bif (x26.slot == 0) then (bif (decide (x26.agent > i5)) then (bif (x8.kind != 1) then ((mustP (xs4.length + ([(⟨i5, x26.agent⟩ : DPair)]).length ≤ 4294967296)).bind fun _ => (rec1 (xs4 ++ [(⟨i5, x26.agent⟩ : DPair)]) (i5 + 1))) else (rec1 xs4 (i5 + 1))) else (rec1 xs4 (i5 + 1))) else (rec1 xs4 (i5 + 1))))) else (K1 xs4))
def m_impl_Net_pairs_L1 (d0 : DNet) (K1 : List DPair → Option (List DPair)) : Nat → List DPair → Int → Option (List DPair)
  | 0, _, _ => none
  | g + 1, xs4, i5 => m_impl_Net_pairs_B1 d0 (m_impl_Net_pairs_L1 d0 K1 g) K1 xs4 i5
def m_impl_Net_pairs (d0 : DNet) : Option (List DPair) :=
  (m_impl_Net_pairs_L1 d0 m_impl_Net_pairs_A1 (d0.agents.length + 1) ([] : List DPair) 0)
set_option maxHeartbeats 2000000 in
theorem c_m_impl_Net_pairs (d0 : DNet) (r : List DPair) (hm : m_impl_Net_pairs d0 = some r) (v0 : Value) (w : World) (hv0 : Pt netRd w v0 d0) :
    Calls Try.prog 69 #[v0] w fun e w' => (∃ v, e = .returned v ∧ OwF 81 encPair 2 w' w.heap.size v r) ∧ Below w.heap.size w w' := by
  obtain ⟨ba0, oa0, csa0, rfl, hba0, hRa0, hca0⟩ := hv0
  have hSa0 := hRa0
  obtain ⟨A1, n1, c1, rfl, ⟨h1, r1⟩⟩ := hRa0
  have e1 := h1.len; subst e1
  have q1 := len_le r1
  have T := Below.refl w.heap.size w
  unfold m_impl_Net_pairs at hm
  refine enter 44 Try.func69 rfl rfl rfl ?_
  intro f hf
  have s0 : f 0 = .pointer (some ⟨ba0, oa0, none⟩) := hf 0 _ rfl
  refine wp_seq ?_
  refine wp_rs rfl ?_
  refine RQ.y rfl (Y.assign (v := .slice none 0 0) rfl) ?_
  refine RQ.nil ?_
  refine then_n ?_
  refine wp_seq ?_
  refine wp_rs rfl ?_
  refine RQ.y rfl (Y.assign (v := .slice none 0 0) rfl) ?_
  refine RQ.nil ?_
  refine then_n ?_
  refine wp_seq ?_
  refine wp_seq ?_
  refine wp_rs rfl ?_
  refine RQ.y rfl (Y.move (v := .pointer (some ⟨ba0, oa0, none⟩)) s0) ?_
  refine RQ.y rfl (Y.nilCheck rfl) ?_
  refine RQ.y rfl (Y.fieldAddr (off := 0) rfl (by kernel_rfl)) ?_
  refine RQ.y rfl (Y.load (v := .slice A1 d0.agents.length c1) rfl (by kernel_rfl) (eqC (cellT T (hca0 0 _ rfl)))) ?_
  refine RQ.y rfl (Y.len (by kernel_rfl) rfl) ?_
  refine RQ.y rfl (Y.move (v := .int .i64 0) rfl) ?_
  refine RQ.nil ?_
  refine then_n ?_
  refine wp_block ?_
  have G61 : OwF 81 encPair 2 w w.heap.size (.slice none 0 0) ([] : List DPair) := OwF.nil
  obtain ⟨K1, hK1, hm⟩ : ∃ K, K = m_impl_Net_pairs_A1 ∧ m_impl_Net_pairs_L1 d0 K (d0.agents.length + 1) ([] : List DPair) 0 = some r := ⟨_, rfl, hm⟩
  refine wp_loopX (fun g f w' => ∃ (xs4 : List DPair) (i5 : Int) (uxs4 : Value), f 10 = .slice A1 d0.agents.length c1 ∧ f 11 = .int .i64 (d0.agents.length : Int) ∧ f 3 = uxs4 ∧ OwF 81 encPair 2 w' w.heap.size uxs4 xs4 ∧ f 12 = .int .i64 i5 ∧ 0 ≤ i5 ∧ Below w.heap.size w w' ∧ m_impl_Net_pairs_L1 d0 K1 g xs4 i5 = some r) 0 (fun f w' => ∃ (xs2 : List DPair) (uxs2 : Value), f 3 = uxs2 ∧ OwF 81 encPair 2 w' w.heap.size uxs2 xs2 ∧ Below w.heap.size w w' ∧ m_impl_Net_pairs_A1 xs2 = some r) (d0.agents.length + 1) ⟨([] : List DPair), 0, ((.slice none 0 0)), rfl, rfl, rfl, G61, rfl, (by omega), T, hm⟩ ?_ ?_
  · rintro f w3 ⟨xs2, uxs2, s3_1x, Gxs2, T, hm⟩
    unfold m_impl_Net_pairs_A1 at hm
    refine blk_hit (then_n ?_)
    refine wp_seq ?_
    refine wp_rs rfl ?_
    refine RQ.y rfl (Y.move (v := uxs2) s3_1x) ?_
    refine RQ.y rfl (Y.assign (v := uxs2) rfl) ?_
    refine RQ.nil ?_
    refine then_n ?_
    refine wp_ret ?_
    obtain rfl := Option.some.inj hm
    exact (ret1 rfl rfl rfl ⟨⟨_, rfl, Gxs2⟩, T⟩)
  · rintro g f w6 ⟨xs4, i5, uxs4, s10_1, s11_1, s3_1, Gxs4, s12_1, nn12_1, T, hm⟩
    rcases g with _ | g
    · simp only [m_impl_Net_pairs_L1] at hm; cases hm
    obtain ⟨rec1, hrec1, hm⟩ : ∃ z, z = m_impl_Net_pairs_L1 d0 K1 g ∧ m_impl_Net_pairs_B1 d0 z K1 xs4 i5 = some r := ⟨_, rfl, hm⟩
    unfold m_impl_Net_pairs_B1 at hm
    refine wp_seq ?_
    refine wp_rs rfl ?_
    refine RQ.y rfl (Y.binI (v := .bool (decide (i5 < (d0.agents.length : Int)))) s12_1 s11_1 rfl) ?_
    refine RQ.nil ?_
    refine then_n ?_
    refine wp_seq ?_
    rcases bcases (decide (i5 < (d0.agents.length : Int))) with c7 | c7
    · replace hm := cF c7 hm
      have pc7 := of_decide_eq_false c7
      refine cond_f rfl (vb rfl c7) ?_
      refine wp_exit ?_
      exact (then_x (then_x (hit_x ⟨_, rfl, ⟨xs4, (uxs4), s3_1, Gxs4, T, (by rw [hK1] at hm; exact hm)⟩⟩)))
    · replace hm := cT c7 hm
      have pc7 := of_decide_eq_true c7
      refine cond_t rfl (vb rfl c7) ?_
      refine wp_skip ?_
      refine then_n ?_
      refine wp_seq ?_
      refine wp_block ?_
      refine wp_seq ?_
      refine wp_rl rfl ?_
      refine RL.y rfl (Y.move (v := .int .i64 i5) s12_1) ?_
      obtain ⟨x8, hx11, hm⟩ := bnd hm
      obtain ⟨k9, hk12, hl13, hx11⟩ := getI_some hx11
      obtain ⟨b15, o16, rfl, hbb15⟩ := h1.addr (by omega)
      obtain ⟨cs10, hRcs10, hc14⟩ := h1.el hx11
      have hScs10 := hRcs10
      obtain ⟨A17, n17, c17, A18, n18, c18, rfl, ⟨h17, r17⟩, ⟨h18, r18⟩⟩ := hRcs10
      have e17 := h17.len; subst e17
      have q17 := len_le r17
      have e18 := h18.len; subst e18
      have q18 := len_le r18
      refine RL.y rfl (Y.indexAddr (m := k9) (sz := 5) s10_1 s12_1 hk12 hl13 (by kernel_rfl)) ?_
      refine RL.y rfl (Y.loadN (cs := [.int .i64 x8.kind, .int .i64 x8.level, .int .i64 x8.value, .slice A17 x8.data.length c17, .slice A18 x8.ports.length c18]) rfl (by kernel_rfl) (cells5 (eqC (cellT T (hc14 0 _ rfl))) (eqC (cellT T (hc14 1 _ rfl))) (eqC (cellT T (hc14 2 _ rfl))) (eqC (cellT T (hc14 3 _ rfl))) (eqC (cellT T (hc14 4 _ rfl))))) ?_
      refine RL.alloc (z := .agg #[.int .i64 0, .int .i64 0, .int .i64 0, .slice none 0 0, .slice none 0 0]) rfl (by kernel_rfl) (fun w19 B20 hb21 szw19 => ?_)
      replace B20 : Blk w19 w6.heap.size 89 #[.int .i64 0, .int .i64 0, .int .i64 0, .slice none 0 0, .slice none 0 0] := B20
      have GB20 : w.heap.size ≤ w6.heap.size := T.size
      have Noxs4_ob22 := OwF.far Gxs4 (Nat.le_refl _)
      have Gxs4 := OwF.below Gxs4 hb21
      have T := Tt T hb21
      refine RL.y rfl (Y.assign (v := .int .i64 i5) rfl) ?_
      refine RL.store (v := .agg #[.int .i64 x8.kind, .int .i64 x8.level, .int .i64 x8.value, .slice A17 x8.data.length c17, .slice A18 x8.ports.length c18]) (cs' := #[.int .i64 x8.kind, .int .i64 x8.level, .int .i64 x8.value, .slice A17 x8.data.length c17, .slice A18 x8.ports.length c18]) rfl rfl rfl B20 (by kernel_rfl) (by rfl) (by rfl) (by rfl) (fun w23 B24 ho25 => ?_)
      have szw23 := ho25.size
      have Gxs4 := OwF.only Gxs4 ho25 Noxs4_ob22
      have T := T.trans (ho25.below (by simp; omega))
      refine RL.nil ?_
      refine then_n ?_
      refine wp_seq ?_
      refine wp_rl rfl ?_
      refine RL.y rfl (Y.fieldAddr (off := 4) rfl (by kernel_rfl)) ?_
      refine RL.y rfl (Y.load (v := .slice A18 x8.ports.length c18) rfl (by kernel_rfl) (eqC (blkCell B24 (i := 4) rfl))) ?_
      obtain ⟨x26, hx29, hm⟩ := bnd hm
      obtain ⟨k27, hk30, hl31, hx29⟩ := getI_some hx29
      obtain ⟨b33, o34, rfl, hbb33⟩ := h18.addr (by omega)
      obtain ⟨cs28, hRcs28, hc32⟩ := h18.el hx29
      have hScs28 := hRcs28
      obtain rfl := hRcs28
      refine RL.y rfl (Y.indexAddr (m := k27) (sz := 2) rfl rfl hk30 hl31 (by kernel_rfl)) ?_
      refine RL.y rfl (Y.loadN (cs := [.int .i64 x26.agent, .int .i64 x26.slot]) rfl (by kernel_rfl) (cells2 (eqC (cellT T (hc32 0 _ rfl))) (eqC (cellT T (hc32 1 _ rfl))))) ?_
      refine RL.alloc (z := .agg #[.int .i64 0, .int .i64 0]) rfl (by kernel_rfl) (fun w35 B36 hb37 szw35 => ?_)
      replace B36 : Blk w35 w23.heap.size 53 #[.int .i64 0, .int .i64 0] := B36
      have GB36 : w.heap.size ≤ w23.heap.size := T.size
      have Eob38_ob22 := Nat.ne_of_lt B24.lt
      have Noxs4_ob38 := OwF.far Gxs4 (Nat.le_refl _)
      have B24 := blkT B24 hb37
      have Gxs4 := OwF.below Gxs4 hb37
      have T := Tt T hb37
      refine RL.store (v := .agg #[.int .i64 x26.agent, .int .i64 x26.slot]) (cs' := #[.int .i64 x26.agent, .int .i64 x26.slot]) rfl rfl rfl B36 (by kernel_rfl) (by rfl) (by rfl) (by rfl) (fun w39 B40 ho41 => ?_)
      have szw39 := ho41.size
      have B24 := B24.only_ ho41 (by intro hin; simp at hin; exact Eob38_ob22 hin)
      have Gxs4 := OwF.only Gxs4 ho41 Noxs4_ob38
      have T := T.trans (ho41.below (by simp; omega))
      refine RL.nil ?_
      refine then_n ?_
      refine wp_seq ?_
      refine wp_rs rfl ?_
      refine RQ.y rfl (Y.fieldAddr (off := 1) rfl (by kernel_rfl)) ?_
      refine RQ.y rfl (Y.load (v := .int .i64 x26.slot) rfl (by kernel_rfl) (eqC (blkCell B40 (i := 1) rfl))) ?_
      refine RQ.y rfl (Y.binI (v := .bool (x26.slot == 0)) rfl rfl rfl) ?_
      refine RQ.y rfl (Y.move (v := .bool (x26.slot == 0)) rfl) ?_
      rcases bcases (x26.slot == 0) with c42 | c42
      · replace hm := cF c42 hm
        refine RQ.skip (wantN (dj := 24) rfl (vb rfl c42) rfl) ?_
        refine RQ.skip (wantN (dj := 24) rfl (vb rfl c42) rfl) ?_
        refine RQ.skip (wantN (dj := 24) rfl (vb rfl c42) rfl) ?_
        refine RQ.skip (wantN (dj := 24) rfl (vb rfl c42) rfl) ?_
        refine RQ.y rfl (Y.pick (b := false) (v := .bool false) (vb rfl c42) rfl) ?_
        refine RQ.y rfl (Y.move (v := .bool false) rfl) ?_
        refine RQ.skip (wantN (dj := 30) rfl rfl rfl) ?_
        refine RQ.skip (wantN (dj := 30) rfl rfl rfl) ?_
        refine RQ.skip (wantN (dj := 30) rfl rfl rfl) ?_
        refine RQ.y rfl (Y.pick (b := false) (v := .bool false) rfl rfl) ?_
        refine RQ.nil ?_
        refine then_n ?_
        refine cond_f rfl rfl ?_
        refine wp_skip ?_
        refine blk_n (then_n ?_)
        refine wp_rs rfl ?_
        refine RQ.y rfl (Y.binI s12_1 rfl (binI_add (m := i5) (by omega))) ?_
        refine RQ.y rfl (Y.move (v := .int .i64 (i5 + 1)) rfl) ?_
        refine RQ.nil ?_
        exact (then_n ⟨g, _, Nat.lt_succ_self _, rfl, ⟨xs4, (i5 + 1), (uxs4), s10_1, s11_1, s3_1, Gxs4, rfl, (by omega), T, (by rw [← hrec1]; exact hm)⟩⟩)
      · replace hm := cT c42 hm
        refine RQ.y (wantT (dj := 24) rfl (vb rfl c42)) (Y.fieldAddr (off := 0) rfl (by kernel_rfl)) ?_
        refine RQ.y (wantT (dj := 24) rfl (vb rfl c42)) (Y.load (v := .int .i64 x26.agent) rfl (by kernel_rfl) (eqC (blkCell B40 (i := 0) rfl))) ?_
        refine RQ.y (wantT (dj := 24) rfl (vb rfl c42)) (Y.move (v := .int .i64 i5) rfl) ?_
        refine RQ.y (wantT (dj := 24) rfl (vb rfl c42)) (Y.binI (v := .bool (decide (x26.agent > i5))) rfl rfl rfl) ?_
        refine RQ.y rfl (Y.pick (b := true) (v := .bool (decide (x26.agent > i5))) (vb rfl c42) rfl) ?_
        refine RQ.y rfl (Y.move (v := .bool (decide (x26.agent > i5))) rfl) ?_
        rcases bcases (decide (x26.agent > i5)) with c43 | c43
        · replace hm := cF c43 hm
          have pc43 := of_decide_eq_false c43
          refine RQ.skip (wantN (dj := 30) rfl (vb rfl c43) rfl) ?_
          refine RQ.skip (wantN (dj := 30) rfl (vb rfl c43) rfl) ?_
          refine RQ.skip (wantN (dj := 30) rfl (vb rfl c43) rfl) ?_
          refine RQ.y rfl (Y.pick (b := false) (v := .bool false) (vb rfl c43) rfl) ?_
          refine RQ.nil ?_
          refine then_n ?_
          refine cond_f rfl rfl ?_
          refine wp_skip ?_
          refine blk_n (then_n ?_)
          refine wp_rs rfl ?_
          refine RQ.y rfl (Y.binI s12_1 rfl (binI_add (m := i5) (by omega))) ?_
          refine RQ.y rfl (Y.move (v := .int .i64 (i5 + 1)) rfl) ?_
          refine RQ.nil ?_
          exact (then_n ⟨g, _, Nat.lt_succ_self _, rfl, ⟨xs4, (i5 + 1), (uxs4), s10_1, s11_1, s3_1, Gxs4, rfl, (by omega), T, (by rw [← hrec1]; exact hm)⟩⟩)
        · replace hm := cT c43 hm
          have pc43 := of_decide_eq_true c43
          refine RQ.y (wantT (dj := 30) rfl (vb rfl c43)) (Y.fieldAddr (off := 0) rfl (by kernel_rfl)) ?_
          refine RQ.y (wantT (dj := 30) rfl (vb rfl c43)) (Y.load (v := .int .i64 x8.kind) rfl (by kernel_rfl) (eqC (blkCell B24 (i := 0) rfl))) ?_
          refine RQ.y (wantT (dj := 30) rfl (vb rfl c43)) (Y.binI (v := .bool (x8.kind != 1)) rfl rfl rfl) ?_
          refine RQ.y rfl (Y.pick (b := true) (v := .bool (x8.kind != 1)) (vb rfl c43) rfl) ?_
          refine RQ.nil ?_
          refine then_n ?_
          rcases bcases (x8.kind != 1) with c44 | c44
          · replace hm := cF c44 hm
            refine cond_f rfl (vb rfl c44) ?_
            refine wp_skip ?_
            refine blk_n (then_n ?_)
            refine wp_rs rfl ?_
            refine RQ.y rfl (Y.binI s12_1 rfl (binI_add (m := i5) (by omega))) ?_
            refine RQ.y rfl (Y.move (v := .int .i64 (i5 + 1)) rfl) ?_
            refine RQ.nil ?_
            exact (then_n ⟨g, _, Nat.lt_succ_self _, rfl, ⟨xs4, (i5 + 1), (uxs4), s10_1, s11_1, s3_1, Gxs4, rfl, (by omega), T, (by rw [← hrec1]; exact hm)⟩⟩)
          · replace hm := cT c44 hm
            refine cond_t rfl (vb rfl c44) ?_
            refine wp_rl rfl ?_
            refine RL.y rfl (Y.move (v := uxs4) s3_1) ?_
            refine RL.y rfl (Y.move (v := .int .i64 i5) rfl) ?_
            refine RL.y rfl (Y.fieldAddr (off := 0) rfl (by kernel_rfl)) ?_
            refine RL.y rfl (Y.load (v := .int .i64 x26.agent) rfl (by kernel_rfl) (eqC (blkCell B40 (i := 0) rfl))) ?_
            refine RL.y rfl (Y.build2 (cells := #[.int .i64 i5, .int .i64 x26.agent]) rfl rfl (by kernel_rfl) (by kernel_rfl)) ?_
            refine RL.bslice (e := 81) (cells := #[.int .i64 i5, .int .i64 x26.agent]) rfl (pm1 rfl) (by kernel_rfl) (fun w45 B46 hb47 szw45 => ?_)
            have ZB46 : w.heap.size ≤ w39.heap.size := T.size
            have No48_ob38 := litNe (n := 1) (c := 1) B40.lt
            have Do48_oxs4 := Dj.new (v := .slice (some ⟨w39.heap.size, 0, none⟩) 1 1) litGe (OwF.hi Gxs4)
            have B40 := blkT B40 hb47
            have Gxs4 := OwF.below Gxs4 hb47
            have T := Tt T hb47
            have G49 := OwF.lit (enc := encPair) (sz := 2) (xs := [(⟨i5, x26.agent⟩ : DPair)]) B46 ZB46 rfl rfl rfl rfl
            obtain ⟨_, m51, hm⟩ := bnd hm
            have hk52 := mustP_some m51
            refine RL.append fPair app_impl_Pair rfl rfl rfl Gxs4 (OwF.arg fPair G49) T.size hk52 (fun v53 w54 G55 hgr56 hbl57 hnb58 => ?_)
            have szw54 := hbl57.size
            have No59_ob38 := ne_app hnb58 Noxs4_ob38 B40.lt
            have B40 := Blk.kept B40 hgr56 Noxs4_ob38
            have T := T.trans hbl57
            refine RL.y rfl (Y.assign (v := v53) rfl) ?_
            refine RL.nil ?_
            refine blk_n (then_n ?_)
            refine wp_rs rfl ?_
            refine RQ.y rfl (Y.binI s12_1 rfl (binI_add (m := i5) (by omega))) ?_
            refine RQ.y rfl (Y.move (v := .int .i64 (i5 + 1)) rfl) ?_
            refine RQ.nil ?_
            exact (then_n ⟨g, _, Nat.lt_succ_self _, rfl, ⟨(xs4 ++ [(⟨i5, x26.agent⟩ : DPair)]), (i5 + 1), (v53), s10_1, s11_1, rfl, G55, rfl, (by omega), T, (by rw [← hrec1]; exact hm)⟩⟩)
def m_spec_l11Pairs_A1 (xs8 : List DPair) : Option (List DPair) :=
  some xs8
def m_spec_l11Pairs_B1 (d0 : DNet) (rec1 : List DPair → Int → Option (List DPair)) (K1 : List DPair → Option (List DPair)) (xs10 : List DPair) (i11 : Int) : Option (List DPair) :=
  (bif (decide (i11 < (d0.agents.length : Int))) then ((getI d0.agents i11).bind fun x14 => (bif (x14.kind == 0) then (rec1 xs10 (i11 + 1)) else ((getI d0.agents i11).bind fun x26 => ((getI x26.ports 0).bind fun x35 => (bif (x35.slot == 0) then (bif (decide (x35.agent > i11)) then ((mustP (xs10.length + ([(⟨i11, x35.agent⟩ : DPair)]).length ≤ 4294967296)).bind fun _ => (rec1 (xs10 ++ [(⟨i11, x35.agent⟩ : DPair)]) (i11 + 1))) else (rec1 xs10 (i11 + 1))) else (rec1 xs10 (i11 + 1))))))) else (K1 xs10))
def m_spec_l11Pairs_L1 (d0 : DNet) (K1 : List DPair → Option (List DPair)) : Nat → List DPair → Int → Option (List DPair)
  | 0, _, _ => none
  | g + 1, xs10, i11 => m_spec_l11Pairs_B1 d0 (m_spec_l11Pairs_L1 d0 K1 g) K1 xs10 i11
def m_spec_l11Pairs (d0 : DNet) : Option (List DPair) :=
  (m_spec_l11Pairs_L1 d0 m_spec_l11Pairs_A1 (d0.agents.length + 1) ([] : List DPair) 1)
set_option maxHeartbeats 2000000 in
theorem c_m_spec_l11Pairs (d0 : DNet) (r : List DPair) (hm : m_spec_l11Pairs d0 = some r) (v0 : Value) (w : World) (hv0 : Pt netRd w v0 d0) :
    Calls Try.prog 67 #[v0] w fun e w' => (∃ v, e = .returned v ∧ OwF 81 encPair 2 w' w.heap.size v r) ∧ Below w.heap.size w w' := by
  obtain ⟨ba0, oa0, csa0, rfl, hba0, hRa0, hca0⟩ := hv0
  have hSa0 := hRa0
  obtain ⟨A1, n1, c1, rfl, ⟨h1, r1⟩⟩ := hRa0
  have e1 := h1.len; subst e1
  have q1 := len_le r1
  have T := Below.refl w.heap.size w
  unfold m_spec_l11Pairs at hm
  refine enter 52 Try.func67 rfl rfl rfl ?_
  intro f hf
  have s0 : f 0 = .pointer (some ⟨ba0, oa0, none⟩) := hf 0 _ rfl
  refine wp_seq ?_
  refine wp_rs rfl ?_
  refine RQ.y rfl (Y.assign (v := .slice none 0 0) rfl) ?_
  refine RQ.nil ?_
  refine then_n ?_
  refine wp_seq ?_
  refine wp_rl rfl ?_
  refine RL.bslice (e := 81) (cells := #[]) rfl pm0 (by kernel_rfl) (fun w2 B3 hb4 szw2 => ?_)
  have ZB3 : w.heap.size ≤ w.heap.size := T.size
  have T := Tt T hb4
  have G6 := OwF.lit (enc := encPair) (sz := 2) (xs := ([] : List DPair)) B3 ZB3 rfl rfl rfl rfl
  refine RL.y rfl (Y.assign (v := .slice (some ⟨w.heap.size, 0, none⟩) 0 0) rfl) ?_
  refine RL.nil ?_
  refine then_n ?_
  refine wp_seq ?_
  refine wp_seq ?_
  refine wp_rs rfl ?_
  refine RQ.y rfl (Y.assign (v := .int .i64 1) rfl) ?_
  refine RQ.nil ?_
  refine then_n ?_
  refine wp_block ?_
  obtain ⟨K1, hK1, hm⟩ : ∃ K, K = m_spec_l11Pairs_A1 ∧ m_spec_l11Pairs_L1 d0 K (d0.agents.length + 1) ([] : List DPair) 1 = some r := ⟨_, rfl, hm⟩
  refine wp_loopX (fun g f w' => ∃ (xs10 : List DPair) (i11 : Int) (uxs10 : Value), f 0 = .pointer (some ⟨ba0, oa0, none⟩) ∧ f 3 = uxs10 ∧ OwF 81 encPair 2 w' w.heap.size uxs10 xs10 ∧ f 4 = .int .i64 i11 ∧ 0 ≤ i11 ∧ Below w.heap.size w w' ∧ m_spec_l11Pairs_L1 d0 K1 g xs10 i11 = some r) 0 (fun f w' => ∃ (xs8 : List DPair) (uxs8 : Value), f 3 = uxs8 ∧ OwF 81 encPair 2 w' w.heap.size uxs8 xs8 ∧ Below w.heap.size w w' ∧ m_spec_l11Pairs_A1 xs8 = some r) (d0.agents.length + 1) ⟨([] : List DPair), 1, (.slice (some ⟨w.heap.size, 0, none⟩) 0 0), s0, rfl, G6, rfl, (by omega), T, hm⟩ ?_ ?_
  · rintro f w9 ⟨xs8, uxs8, s3_1x, Gxs8, T, hm⟩
    unfold m_spec_l11Pairs_A1 at hm
    refine blk_hit (then_n ?_)
    refine wp_seq ?_
    refine wp_rs rfl ?_
    refine RQ.y rfl (Y.move (v := uxs8) s3_1x) ?_
    refine RQ.y rfl (Y.assign (v := uxs8) rfl) ?_
    refine RQ.nil ?_
    refine then_n ?_
    refine wp_ret ?_
    obtain rfl := Option.some.inj hm
    exact (ret1 rfl rfl rfl ⟨⟨_, rfl, Gxs8⟩, T⟩)
  · rintro g f w12 ⟨xs10, i11, uxs10, s0_1, s3_1, Gxs10, s4_1, nn4_1, T, hm⟩
    rcases g with _ | g
    · simp only [m_spec_l11Pairs_L1] at hm; cases hm
    obtain ⟨rec1, hrec1, hm⟩ : ∃ z, z = m_spec_l11Pairs_L1 d0 K1 g ∧ m_spec_l11Pairs_B1 d0 z K1 xs10 i11 = some r := ⟨_, rfl, hm⟩
    unfold m_spec_l11Pairs_B1 at hm
    refine wp_seq ?_
    refine wp_seq ?_
    refine wp_rs rfl ?_
    refine RQ.y rfl (Y.move (v := .int .i64 i11) s4_1) ?_
    refine RQ.y rfl (Y.move (v := .pointer (some ⟨ba0, oa0, none⟩)) s0_1) ?_
    refine RQ.y rfl (Y.nilCheck rfl) ?_
    refine RQ.y rfl (Y.fieldAddr (off := 0) rfl (by kernel_rfl)) ?_
    refine RQ.y rfl (Y.load (v := .slice A1 d0.agents.length c1) rfl (by kernel_rfl) (eqC (cellT T (hca0 0 _ rfl)))) ?_
    refine RQ.y rfl (Y.len (by kernel_rfl) rfl) ?_
    refine RQ.y rfl (Y.binI (v := .bool (decide (i11 < (d0.agents.length : Int)))) rfl rfl rfl) ?_
    refine RQ.nil ?_
    refine then_n ?_
    rcases bcases (decide (i11 < (d0.agents.length : Int))) with c13 | c13
    · replace hm := cF c13 hm
      have pc13 := of_decide_eq_false c13
      refine cond_f rfl (vb rfl c13) ?_
      refine wp_exit ?_
      exact (then_x (then_x (hit_x ⟨_, rfl, ⟨xs10, (uxs10), s3_1, Gxs10, T, (by rw [hK1] at hm; exact hm)⟩⟩)))
    · replace hm := cT c13 hm
      have pc13 := of_decide_eq_true c13
      refine cond_t rfl (vb rfl c13) ?_
      refine wp_skip ?_
      refine then_n ?_
      refine wp_seq ?_
      refine wp_block ?_
      refine wp_seq ?_
      refine wp_seq ?_
      refine wp_rs rfl ?_
      refine RQ.y rfl (Y.move (v := .pointer (some ⟨ba0, oa0, none⟩)) s0_1) ?_
      refine RQ.y rfl (Y.nilCheck rfl) ?_
      refine RQ.y rfl (Y.fieldAddr (off := 0) rfl (by kernel_rfl)) ?_
      refine RQ.y rfl (Y.load (v := .slice A1 d0.agents.length c1) rfl (by kernel_rfl) (eqC (cellT T (hca0 0 _ rfl)))) ?_
      refine RQ.y rfl (Y.move (v := .int .i64 i11) s4_1) ?_
      obtain ⟨x14, hx17, hm⟩ := bnd hm
      obtain ⟨k15, hk18, hl19, hx17⟩ := getI_some hx17
      obtain ⟨b21, o22, rfl, hbb21⟩ := h1.addr (by omega)
      obtain ⟨cs16, hRcs16, hc20⟩ := h1.el hx17
      have hScs16 := hRcs16
      obtain ⟨A23, n23, c23, A24, n24, c24, rfl, ⟨h23, r23⟩, ⟨h24, r24⟩⟩ := hRcs16
      have e23 := h23.len; subst e23
      have q23 := len_le r23
      have e24 := h24.len; subst e24
      have q24 := len_le r24
      refine RQ.y rfl (Y.indexAddr (m := k15) (sz := 5) rfl rfl hk18 hl19 (by kernel_rfl)) ?_
      refine RQ.y rfl (Y.fieldAddr (off := 0) rfl (by kernel_rfl)) ?_
      refine RQ.y rfl (Y.load (v := .int .i64 x14.kind) rfl (by kernel_rfl) (eqC (cellT T (hc20 0 _ rfl)))) ?_
      refine RQ.y rfl (Y.binI (v := .bool (x14.kind == 0)) rfl rfl rfl) ?_
      refine RQ.nil ?_
      refine then_n ?_
      rcases bcases (x14.kind == 0) with c25 | c25
      · replace hm := cF c25 hm
        refine cond_f rfl (vb rfl c25) ?_
        refine wp_skip ?_
        refine then_n ?_
        refine wp_seq ?_
        refine wp_rl rfl ?_
        refine RL.y rfl (Y.move (v := .pointer (some ⟨ba0, oa0, none⟩)) s0_1) ?_
        refine RL.y rfl (Y.nilCheck rfl) ?_
        refine RL.y rfl (Y.fieldAddr (off := 0) rfl (by kernel_rfl)) ?_
        refine RL.y rfl (Y.load (v := .slice (some ⟨b21, o22, none⟩) d0.agents.length c1) rfl (by kernel_rfl) (eqC (cellT T (hca0 0 _ rfl)))) ?_
        refine RL.y rfl (Y.move (v := .int .i64 i11) s4_1) ?_
        obtain ⟨x26, hx29, hm⟩ := bnd hm
        obtain ⟨k27, hk30, hl31, hx29⟩ := getI_some hx29
        obtain ⟨cs28, hRcs28, hc32⟩ := h1.el hx29
        have hScs28 := hRcs28
        obtain ⟨A33, n33, c33, A34, n34, c34, rfl, ⟨h33, r33⟩, ⟨h34, r34⟩⟩ := hRcs28
        have e33 := h33.len; subst e33
        have q33 := len_le r33
        have e34 := h34.len; subst e34
        have q34 := len_le r34
        refine RL.y rfl (Y.indexAddr (m := k27) (sz := 5) rfl rfl hk30 hl31 (by kernel_rfl)) ?_
        refine RL.y rfl (Y.fieldAddr (off := 4) rfl (by kernel_rfl)) ?_
        refine RL.y rfl (Y.load (v := .slice A34 x26.ports.length c34) rfl (by kernel_rfl) (eqC (cellT T (hc32 4 _ rfl)))) ?_
        obtain ⟨x35, hx38, hm⟩ := bnd hm
        obtain ⟨k36, hk39, hl40, hx38⟩ := getI_some hx38
        obtain ⟨b42, o43, rfl, hbb42⟩ := h34.addr (by omega)
        obtain ⟨cs37, hRcs37, hc41⟩ := h34.el hx38
        have hScs37 := hRcs37
        obtain rfl := hRcs37
        refine RL.y rfl (Y.indexAddr (m := k36) (sz := 2) rfl rfl hk39 hl40 (by kernel_rfl)) ?_
        refine RL.y rfl (Y.loadN (cs := [.int .i64 x35.agent, .int .i64 x35.slot]) rfl (by kernel_rfl) (cells2 (eqC (cellT T (hc41 0 _ rfl))) (eqC (cellT T (hc41 1 _ rfl))))) ?_
        refine RL.alloc (z := .agg #[.int .i64 0, .int .i64 0]) rfl (by kernel_rfl) (fun w44 B45 hb46 szw44 => ?_)
        replace B45 : Blk w44 w12.heap.size 53 #[.int .i64 0, .int .i64 0] := B45
        have GB45 : w.heap.size ≤ w12.heap.size := T.size
        have Noxs10_ob47 := OwF.far Gxs10 (Nat.le_refl _)
        have Gxs10 := OwF.below Gxs10 hb46
        have T := Tt T hb46
        refine RL.store (v := .agg #[.int .i64 x35.agent, .int .i64 x35.slot]) (cs' := #[.int .i64 x35.agent, .int .i64 x35.slot]) rfl rfl rfl B45 (by kernel_rfl) (by rfl) (by rfl) (by rfl) (fun w48 B49 ho50 => ?_)
        have szw48 := ho50.size
        have Gxs10 := OwF.only Gxs10 ho50 Noxs10_ob47
        have T := T.trans (ho50.below (by simp; omega))
        refine RL.nil ?_
        refine then_n ?_
        refine wp_seq ?_
        refine wp_rs rfl ?_
        refine RQ.y rfl (Y.fieldAddr (off := 1) rfl (by kernel_rfl)) ?_
        refine RQ.y rfl (Y.load (v := .int .i64 x35.slot) rfl (by kernel_rfl) (eqC (blkCell B49 (i := 1) rfl))) ?_
        refine RQ.y rfl (Y.binI (v := .bool (x35.slot == 0)) rfl rfl rfl) ?_
        refine RQ.y rfl (Y.move (v := .bool (x35.slot == 0)) rfl) ?_
        rcases bcases (x35.slot == 0) with c51 | c51
        · replace hm := cF c51 hm
          refine RQ.skip (wantN (dj := 38) rfl (vb rfl c51) rfl) ?_
          refine RQ.skip (wantN (dj := 38) rfl (vb rfl c51) rfl) ?_
          refine RQ.skip (wantN (dj := 38) rfl (vb rfl c51) rfl) ?_
          refine RQ.skip (wantN (dj := 38) rfl (vb rfl c51) rfl) ?_
          refine RQ.y rfl (Y.pick (b := false) (v := .bool false) (vb rfl c51) rfl) ?_
          refine RQ.nil ?_
          refine then_n ?_
          refine cond_f rfl rfl ?_
          refine wp_skip ?_
          refine blk_n (then_n ?_)
          refine wp_rs rfl ?_
          refine RQ.y rfl (Y.move (v := .int .i64 i11) s4_1) ?_
          refine RQ.y rfl (Y.binI rfl rfl (binI_add (m := i11) (by omega))) ?_
          refine RQ.y rfl (Y.assign (v := .int .i64 (i11 + 1)) rfl) ?_
          refine RQ.nil ?_
          exact (then_n ⟨g, _, Nat.lt_succ_self _, rfl, ⟨xs10, (i11 + 1), (uxs10), s0_1, s3_1, Gxs10, rfl, (by omega), T, (by rw [← hrec1]; exact hm)⟩⟩)
        · replace hm := cT c51 hm
          refine RQ.y (wantT (dj := 38) rfl (vb rfl c51)) (Y.fieldAddr (off := 0) rfl (by kernel_rfl)) ?_
          refine RQ.y (wantT (dj := 38) rfl (vb rfl c51)) (Y.load (v := .int .i64 x35.agent) rfl (by kernel_rfl) (eqC (blkCell B49 (i := 0) rfl))) ?_
          refine RQ.y (wantT (dj := 38) rfl (vb rfl c51)) (Y.move (v := .int .i64 i11) s4_1) ?_
          refine RQ.y (wantT (dj := 38) rfl (vb rfl c51)) (Y.binI (v := .bool (decide (x35.agent > i11))) rfl rfl rfl) ?_
          refine RQ.y rfl (Y.pick (b := true) (v := .bool (decide (x35.agent > i11))) (vb rfl c51) rfl) ?_
          refine RQ.nil ?_
          refine then_n ?_
          rcases bcases (decide (x35.agent > i11)) with c52 | c52
          · replace hm := cF c52 hm
            have pc52 := of_decide_eq_false c52
            refine cond_f rfl (vb rfl c52) ?_
            refine wp_skip ?_
            refine blk_n (then_n ?_)
            refine wp_rs rfl ?_
            refine RQ.y rfl (Y.move (v := .int .i64 i11) s4_1) ?_
            refine RQ.y rfl (Y.binI rfl rfl (binI_add (m := i11) (by omega))) ?_
            refine RQ.y rfl (Y.assign (v := .int .i64 (i11 + 1)) rfl) ?_
            refine RQ.nil ?_
            exact (then_n ⟨g, _, Nat.lt_succ_self _, rfl, ⟨xs10, (i11 + 1), (uxs10), s0_1, s3_1, Gxs10, rfl, (by omega), T, (by rw [← hrec1]; exact hm)⟩⟩)
          · replace hm := cT c52 hm
            have pc52 := of_decide_eq_true c52
            refine cond_t rfl (vb rfl c52) ?_
            refine wp_rl rfl ?_
            refine RL.y rfl (Y.move (v := uxs10) s3_1) ?_
            refine RL.y rfl (Y.move (v := .int .i64 i11) s4_1) ?_
            refine RL.y rfl (Y.fieldAddr (off := 0) rfl (by kernel_rfl)) ?_
            refine RL.y rfl (Y.load (v := .int .i64 x35.agent) rfl (by kernel_rfl) (eqC (blkCell B49 (i := 0) rfl))) ?_
            refine RL.y rfl (Y.build2 (cells := #[.int .i64 i11, .int .i64 x35.agent]) rfl rfl (by kernel_rfl) (by kernel_rfl)) ?_
            refine RL.bslice (e := 81) (cells := #[.int .i64 i11, .int .i64 x35.agent]) rfl (pm1 rfl) (by kernel_rfl) (fun w53 B54 hb55 szw53 => ?_)
            have ZB54 : w.heap.size ≤ w48.heap.size := T.size
            have No56_ob47 := litNe (n := 1) (c := 1) B49.lt
            have Do56_oxs10 := Dj.new (v := .slice (some ⟨w48.heap.size, 0, none⟩) 1 1) litGe (OwF.hi Gxs10)
            have B49 := blkT B49 hb55
            have Gxs10 := OwF.below Gxs10 hb55
            have T := Tt T hb55
            have G57 := OwF.lit (enc := encPair) (sz := 2) (xs := [(⟨i11, x35.agent⟩ : DPair)]) B54 ZB54 rfl rfl rfl rfl
            obtain ⟨_, m59, hm⟩ := bnd hm
            have hk60 := mustP_some m59
            refine RL.append fPair app_impl_Pair rfl rfl rfl Gxs10 (OwF.arg fPair G57) T.size hk60 (fun v61 w62 G63 hgr64 hbl65 hnb66 => ?_)
            have szw62 := hbl65.size
            have No67_ob47 := ne_app hnb66 Noxs10_ob47 B49.lt
            have B49 := Blk.kept B49 hgr64 Noxs10_ob47
            have T := T.trans hbl65
            refine RL.y rfl (Y.assign (v := v61) rfl) ?_
            refine RL.nil ?_
            refine blk_n (then_n ?_)
            refine wp_rs rfl ?_
            refine RQ.y rfl (Y.move (v := .int .i64 i11) s4_1) ?_
            refine RQ.y rfl (Y.binI rfl rfl (binI_add (m := i11) (by omega))) ?_
            refine RQ.y rfl (Y.assign (v := .int .i64 (i11 + 1)) rfl) ?_
            refine RQ.nil ?_
            exact (then_n ⟨g, _, Nat.lt_succ_self _, rfl, ⟨(xs10 ++ [(⟨i11, x35.agent⟩ : DPair)]), (i11 + 1), (v61), s0_1, rfl, G63, rfl, (by omega), T, (by rw [← hrec1]; exact hm)⟩⟩)
      · replace hm := cT c25 hm
        refine cond_t rfl (vb rfl c25) ?_
        refine wp_exit ?_
        refine then_x (blk_hit (then_n ?_))
        refine wp_rs rfl ?_
        refine RQ.y rfl (Y.move (v := .int .i64 i11) s4_1) ?_
        refine RQ.y rfl (Y.binI rfl rfl (binI_add (m := i11) (by omega))) ?_
        refine RQ.y rfl (Y.assign (v := .int .i64 (i11 + 1)) rfl) ?_
        refine RQ.nil ?_
        exact (then_n ⟨g, _, Nat.lt_succ_self _, rfl, ⟨xs10, (i11 + 1), (uxs10), s0_1, s3_1, Gxs10, rfl, (by omega), T, (by rw [← hrec1]; exact hm)⟩⟩)
end
end Go.Proofs.Ytampijkiidjcmaa
