/- Lemmas of the proof of ShiftLevels, part 4. No condition. -/
import Derived.Test.YtampijkiidjcmaaZShiftLevels3
namespace Go.Proofs.Ytampijkiidjcmaa
section
open Go.RowKit
set_option linter.unusedVariables false
set_option linter.unusedSimpArgs false
set_option maxRecDepth 100000
def m_spec_l00Own (d0 : List Int) : Option (List Int) :=
  ((mustP (([] : List Int).length + d0.length ≤ 4294967296)).bind fun _ => some (([] : List Int) ++ d0))
set_option maxHeartbeats 2000000 in
theorem c_m_spec_l00Own (d0 : List Int) (r : List Int) (hm : m_spec_l00Own d0 = some r) (v0 : Value) (w : World) (hv0 : Sl intRd 1 w v0 d0) :
    Calls Try.prog 135 #[v0] w fun e w' => (∃ (v0 : Value), e = .returned (v0) ∧ OwF 2 encI 1 w' w.heap.size v0 r) ∧ Below w.heap.size w w' := by
  obtain ⟨Aa0, na0, ca0, rfl, ha0, ra0⟩ := hv0
  have ea0 := ha0.len; subst ea0
  have qa0 := len_le ra0
  have T := Below.refl w.heap.size w
  unfold m_spec_l00Own at hm
  refine enter 6 Try.func135 rfl rfl rfl ?_
  intro f hf
  have s0 : f 0 = .slice Aa0 d0.length ca0 := hf 0 _ rfl
  refine wp_seq ?_
  refine wp_rs rfl ?_
  refine RQ.y rfl (Y.assign (v := .slice none 0 0) rfl) ?_
  refine RQ.nil ?_
  refine then_n ?_
  refine wp_seq ?_
  refine wp_rl rfl ?_
  refine RL.bslice (e := 2) (cells := #[]) rfl pm0 (by kernel_rfl) (fun w1 B2 hb3 szw1 => ?_)
  have ZB2 : w.heap.size ≤ w.heap.size := T.size
  have T := Tt T hb3
  have G5 := OwF.lit (enc := encI) (sz := 1) (xs := ([] : List Int)) B2 ZB2 rfl rfl rfl rfl
  refine RL.y rfl (Y.move (v := .slice Aa0 d0.length ca0) s0) ?_
  obtain ⟨_, m7, hm⟩ := bnd hm
  have hk8 := mustP_some m7
  refine RL.append fI app_int64 rfl rfl rfl G5 (slArg intRd_ok ha0 ra0 T) T.size hk8 (fun v9 w10 G11 hgr12 hbl13 hnb14 => ?_)
  have szw10 := hbl13.size
  have T := T.trans hbl13
  refine RL.y rfl (Y.assign (v := v9) rfl) ?_
  refine RL.nil ?_
  refine then_n ?_
  refine wp_ret ?_
  obtain rfl := Option.some.inj hm
  exact (ret1 rfl rfl rfl ⟨⟨_, rfl, G11⟩, T⟩)
def m_spec_l11OwnAgent (d0 : DAgent) : Option DAgent :=
  ((m_spec_l00Own d0.data).bind fun y9 => ((mustP (([] : List DPort).length + d0.ports.length ≤ 4294967296)).bind fun _ => some (⟨d0.kind, d0.level, d0.value, y9, (([] : List DPort) ++ d0.ports)⟩ : DAgent)))
set_option maxHeartbeats 2000000 in
theorem c_m_spec_l11OwnAgent (d0 : DAgent) (r : DAgent) (hm : m_spec_l11OwnAgent d0 = some r) (v0 : Value) (w : World) (hv0 : Pt agentRd w v0 d0) :
    Calls Try.prog 131 #[v0] w fun e w' => (∃ (v0 : Value) (v1 : Value), e = .returned (.agg #[.int .i64 r.kind, .int .i64 r.level, .int .i64 r.value, v0, v1]) ∧ OwF 2 encI 1 w' w.heap.size v0 r.data ∧ OwF 53 encPort 2 w' w.heap.size v1 r.ports ∧ Dj v0 v1) ∧ Below w.heap.size w w' := by
  obtain ⟨ba0, oa0, csa0, rfl, hba0, hRa0, hca0⟩ := hv0
  have hSa0 := hRa0
  obtain ⟨A1, n1, c1, A2, n2, c2, rfl, ⟨h1, r1⟩, ⟨h2, r2⟩⟩ := hRa0
  have e1 := h1.len; subst e1
  have q1 := len_le r1
  have e2 := h2.len; subst e2
  have q2 := len_le r2
  have T := Below.refl w.heap.size w
  unfold m_spec_l11OwnAgent at hm
  refine enter 27 Try.func131 rfl rfl rfl ?_
  intro f hf
  have s0 : f 0 = .pointer (some ⟨ba0, oa0, none⟩) := hf 0 _ rfl
  refine wp_seq ?_
  refine wp_rl rfl ?_
  refine RL.alloc (z := .agg #[.int .i64 0, .int .i64 0, .int .i64 0, .slice none 0 0, .slice none 0 0]) rfl (by kernel_rfl) (fun w3 B4 hb5 szw3 => ?_)
  replace B4 : Blk w3 w.heap.size 89 #[.int .i64 0, .int .i64 0, .int .i64 0, .slice none 0 0, .slice none 0 0] := B4
  have GB4 : w.heap.size ≤ w.heap.size := T.size
  have T := Tt T hb5
  refine RL.nil ?_
  refine then_n ?_
  refine wp_seq ?_
  refine wp_rgt (fun w' => Below w.heap.size w w') (.q 0 (.q 1 (.q 2 (.q 3 (.q 4 (.q 5 (.q 6 (.q 7 (.q 8 (.q 9 (.q 10 (.q 11 (.q 12 (.q 13 (.q 14 (.q 15 (.q 18 (.q 19 (.q 20 (.q 21 (.two 16 (.a 17 (.a 22 (.q 23 (.a 24 .nil)))) 17 (.a 16 (.a 22 (.q 23 (.a 24 .nil))))))))))))))))))))))))) (by kernel_rfl) (by kernel_rfl) (fun w7 hb8 szw7 => ?_)
  have B4 := blkT B4 hb8
  have T := Tt T hb8
  refine ⟨T, ?_⟩
  refine RT.y rfl rfl (Y.move (v := .pointer (some ⟨ba0, oa0, none⟩)) s0) ?_
  refine RT.y rfl rfl (Y.nilCheck rfl) ?_
  refine RT.y rfl rfl (Y.fieldAddr (off := 0) rfl (by kernel_rfl)) ?_
  refine RT.y rfl rfl (Y.load (v := .int .i64 d0.kind) rfl (by kernel_rfl) (fun w' hS => (cellT hS (hca0 0 _ rfl)))) ?_
  refine RT.y rfl rfl (Y.move (v := .pointer (some ⟨ba0, oa0, none⟩)) s0) ?_
  refine RT.y rfl rfl (Y.nilCheck rfl) ?_
  refine RT.y rfl rfl (Y.fieldAddr (off := 1) rfl (by kernel_rfl)) ?_
  refine RT.y rfl rfl (Y.load (v := .int .i64 d0.level) rfl (by kernel_rfl) (fun w' hS => (cellT hS (hca0 1 _ rfl)))) ?_
  refine RT.y rfl rfl (Y.move (v := .pointer (some ⟨ba0, oa0, none⟩)) s0) ?_
  refine RT.y rfl rfl (Y.nilCheck rfl) ?_
  refine RT.y rfl rfl (Y.fieldAddr (off := 2) rfl (by kernel_rfl)) ?_
  refine RT.y rfl rfl (Y.load (v := .int .i64 d0.value) rfl (by kernel_rfl) (fun w' hS => (cellT hS (hca0 2 _ rfl)))) ?_
  refine RT.y rfl rfl (Y.move (v := .pointer (some ⟨ba0, oa0, none⟩)) s0) ?_
  refine RT.y rfl rfl (Y.nilCheck rfl) ?_
  refine RT.y rfl rfl (Y.fieldAddr (off := 3) rfl (by kernel_rfl)) ?_
  refine RT.y rfl rfl (Y.load (v := .slice A1 d0.data.length c1) rfl (by kernel_rfl) (fun w' hS => (cellT hS (hca0 3 _ rfl)))) ?_
  refine RT.y rfl rfl (Y.move (v := .pointer (some ⟨ba0, oa0, none⟩)) s0) ?_
  refine RT.y rfl rfl (Y.nilCheck rfl) ?_
  refine RT.y rfl rfl (Y.fieldAddr (off := 4) rfl (by kernel_rfl)) ?_
  refine RT.y rfl rfl (Y.load (v := .slice A2 d0.ports.length c2) rfl (by kernel_rfl) (fun w' hS => (cellT hS (hca0 4 _ rfl)))) ?_
  refine RT.both rfl rfl ?_ ?_
  · obtain ⟨y9, e10, hm⟩ := bnd hm
    refine RL.call rfl (am1 rfl) (by kernel_rfl) ((c_m_spec_l00Own d0.data _ e10 _ _ (slArg intRd_ok h1 r1 T)).mono ?_)
    rintro _ w14 ⟨⟨v11, rfl, G12⟩, hb15⟩
    refine ⟨_, rfl, ?_⟩
    have szw14 := hb15.size
    have T0w14 := T.size
    have Zo13_ob6 := ap_ne (Ap.new (OwF.flo G12) (one_hi B4.lt))
    have B4 := blkT B4 hb15
    have T := Tt T hb15
    replace G12 := OwF.mono G12 T0w14
    refine RL.nil ⟨T, ?_⟩
    refine RT.act rfl ?_
    refine RL.bslice (e := 53) (cells := #[]) rfl pm0 (by kernel_rfl) (fun w16 B17 hb18 szw16 => ?_)
    have ZB17 : w.heap.size ≤ w14.heap.size := T.size
    have No19_ob6 := litNe (n := 0) (c := 0) B4.lt
    have Do19_o13 := Dj.new (v := .slice (some ⟨w14.heap.size, 0, none⟩) 0 0) litGe (OwF.hi G12)
    have B4 := blkT B4 hb18
    have G12 := OwF.below G12 hb18
    have T := Tt T hb18
    have G20 := OwF.lit (enc := encPort) (sz := 2) (xs := ([] : List DPort)) B17 ZB17 rfl rfl rfl rfl
    refine RL.nil ⟨T, ?_⟩
    refine RT.act rfl ?_
    obtain ⟨_, m22, hm⟩ := bnd hm
    have hk23 := mustP_some m22
    refine RL.append fPort app_impl_Port rfl rfl rfl G20 (slArg portRd_ok h2 r2 T) T.size hk23 (fun v24 w25 G26 hgr27 hbl28 hnb29 => ?_)
    have szw25 := hbl28.size
    have No30_ob6 := ne_app hnb29 No19_ob6 B4.lt
    have Do30_o13 := Dj.app Do19_o13 hnb29 (OwF.hi G12)
    have B4 := Blk.kept B4 hgr27 No19_ob6
    have G12 := OwF.keptD G12 hgr27 (Dj.symm Do19_o13)
    have T := T.trans hbl28
    refine RL.nil ⟨T, ?_⟩
    obtain ⟨A31, c32, rfl⟩ := OwF.form G12
    have qbA31 := OwF.bound G12
    obtain ⟨A33, c34, rfl⟩ := OwF.form G26
    have qbA33 := OwF.bound G26
    refine RT.y rfl rfl (Y.build5 (cells := #[.int .i64 d0.kind, .int .i64 d0.level, .int .i64 d0.value, .slice A31 y9.length c32, .slice A33 ((([] : List DPort) ++ d0.ports).length) c34]) rfl rfl rfl rfl rfl (by kernel_rfl) (by kernel_rfl)) ?_
    refine RT.act rfl ?_
    refine RL.store (v := .agg #[.int .i64 d0.kind, .int .i64 d0.level, .int .i64 d0.value, .slice A31 y9.length c32, .slice A33 ((([] : List DPort) ++ d0.ports).length) c34]) (cs' := #[.int .i64 d0.kind, .int .i64 d0.level, .int .i64 d0.value, .slice A31 y9.length c32, .slice A33 ((([] : List DPort) ++ d0.ports).length) c34]) rfl rfl rfl B4 (by kernel_rfl) (by rfl) (by rfl) (by rfl) (fun w35 B36 ho37 => ?_)
    have szw35 := ho37.size
    have G12 := OwF.only G12 ho37 Zo13_ob6
    have G26 := OwF.only G26 ho37 No30_ob6
    have T := T.trans (ho37.below (by first | (simp; done) | (simp; omega)))
    refine RL.nil ⟨T, ?_⟩
    refine RT.nil_ ?_
    refine then_n ?_
    refine wp_ret ?_
    obtain rfl := Option.some.inj hm
    exact (retc (cs := [.int .i64 d0.kind, .int .i64 d0.level, .int .i64 d0.value, .slice A31 y9.length c32, .slice A33 ((([] : List DPort) ++ d0.ports).length) c34]) rfl rfl rfl (by kernel_rfl) (blkCells B36) ⟨⟨_, _, rfl, G12, G26, (Ap.dj (Ap.symm (Dj.ap Do30_o13)))⟩, T⟩)
  · refine RL.bslice (e := 53) (cells := #[]) rfl pm0 (by kernel_rfl) (fun w38 B39 hb40 szw38 => ?_)
    have ZB39 : w.heap.size ≤ w7.heap.size := T.size
    have No41_ob6 := litNe (n := 0) (c := 0) B4.lt
    have B4 := blkT B4 hb40
    have T := Tt T hb40
    have G42 := OwF.lit (enc := encPort) (sz := 2) (xs := ([] : List DPort)) B39 ZB39 rfl rfl rfl rfl
    refine RL.nil ⟨T, ?_⟩
    refine RT.act rfl ?_
    obtain ⟨y44, e45, hm⟩ := bnd hm
    refine RL.call rfl (am1 rfl) (by kernel_rfl) ((c_m_spec_l00Own d0.data _ e45 _ _ (slArg intRd_ok h1 r1 T)).mono ?_)
    rintro _ w49 ⟨⟨v46, rfl, G47⟩, hb50⟩
    refine ⟨_, rfl, ?_⟩
    have szw49 := hb50.size
    have T0w49 := T.size
    have Zo48_ob6 := ap_ne (Ap.new (OwF.flo G47) (one_hi B4.lt))
    have Zo48_o41 := Ap.dj (Ap.new (OwF.flo G47) (OwF.fhi G42))
    have B4 := blkT B4 hb50
    have G42 := OwF.below G42 hb50
    have T := Tt T hb50
    replace G47 := OwF.mono G47 T0w49
    refine RL.nil ⟨T, ?_⟩
    refine RT.act rfl ?_
    obtain ⟨_, m51, hm⟩ := bnd hm
    have hk52 := mustP_some m51
    refine RL.append fPort app_impl_Port rfl rfl rfl G42 (slArg portRd_ok h2 r2 T) T.size hk52 (fun v53 w54 G55 hgr56 hbl57 hnb58 => ?_)
    have szw54 := hbl57.size
    have No59_ob6 := ne_app hnb58 No41_ob6 B4.lt
    have Do59_o48 := Dj.app (Dj.symm Zo48_o41) hnb58 (OwF.hi G47)
    have B4 := Blk.kept B4 hgr56 No41_ob6
    have G47 := OwF.keptD G47 hgr56 Zo48_o41
    have T := T.trans hbl57
    refine RL.nil ⟨T, ?_⟩
    obtain ⟨A60, c61, rfl⟩ := OwF.form G47
    have qbA60 := OwF.bound G47
    obtain ⟨A62, c63, rfl⟩ := OwF.form G55
    have qbA62 := OwF.bound G55
    refine RT.y rfl rfl (Y.build5 (cells := #[.int .i64 d0.kind, .int .i64 d0.level, .int .i64 d0.value, .slice A60 y44.length c61, .slice A62 ((([] : List DPort) ++ d0.ports).length) c63]) rfl rfl rfl rfl rfl (by kernel_rfl) (by kernel_rfl)) ?_
    refine RT.act rfl ?_
    refine RL.store (v := .agg #[.int .i64 d0.kind, .int .i64 d0.level, .int .i64 d0.value, .slice A60 y44.length c61, .slice A62 ((([] : List DPort) ++ d0.ports).length) c63]) (cs' := #[.int .i64 d0.kind, .int .i64 d0.level, .int .i64 d0.value, .slice A60 y44.length c61, .slice A62 ((([] : List DPort) ++ d0.ports).length) c63]) rfl rfl rfl B4 (by kernel_rfl) (by rfl) (by rfl) (by rfl) (fun w64 B65 ho66 => ?_)
    have szw64 := ho66.size
    have G47 := OwF.only G47 ho66 Zo48_ob6
    have G55 := OwF.only G55 ho66 No59_ob6
    have T := T.trans (ho66.below (by first | (simp; done) | (simp; omega)))
    refine RL.nil ⟨T, ?_⟩
    refine RT.nil_ ?_
    refine then_n ?_
    refine wp_ret ?_
    obtain rfl := Option.some.inj hm
    exact (retc (cs := [.int .i64 d0.kind, .int .i64 d0.level, .int .i64 d0.value, .slice A60 y44.length c61, .slice A62 ((([] : List DPort) ++ d0.ports).length) c63]) rfl rfl rfl (by kernel_rfl) (blkCells B65) ⟨⟨_, _, rfl, G47, G55, (Ap.dj (Ap.symm (Dj.ap Do59_o48)))⟩, T⟩)
def m_spec_l11Own_A1 (z13 : DNet) : Option DNet :=
  some z13
def m_spec_l11Own_B1 (d0 : DNet) (rec1 : Int → DNet → Option DNet) (K1 : DNet → Option DNet) (i20 : Int) (z21 : DNet) : Option DNet :=
  (bif (decide (i20 < (d0.agents.length : Int))) then ((getI d0.agents i20).bind fun x26 => ((m_spec_l11OwnAgent x26).bind fun y37 => ((mustP (z21.agents.length + ([y37]).length ≤ 4294967296)).bind fun _ => (rec1 (i20 + 1) (⟨(z21.agents ++ [y37])⟩ : DNet))))) else (K1 z21))
def m_spec_l11Own_L1 (d0 : DNet) (K1 : DNet → Option DNet) : Nat → Int → DNet → Option DNet
  | 0, _, _ => none
  | g + 1, i20, z21 => m_spec_l11Own_B1 d0 (m_spec_l11Own_L1 d0 K1 g) K1 i20 z21
def m_spec_l11Own (d0 : DNet) : Option DNet :=
  (m_spec_l11Own_L1 d0 m_spec_l11Own_A1 (d0.agents.length + 1) 0 (⟨[]⟩ : DNet))
set_option maxHeartbeats 2000000 in
theorem c_m_spec_l11Own (d0 : DNet) (r : DNet) (hm : m_spec_l11Own d0 = some r) (v0 : Value) (w : World) (hv0 : Pt netRd w v0 d0) :
    Calls Try.prog 77 #[v0] w fun e w' => (∃ (v0 : Value) (bs0 : List Nat), e = .returned (.agg #[v0]) ∧ OwN 89 agentOw 5 w' w.heap.size v0 r.agents bs0) ∧ Below w.heap.size w w' := by
  obtain ⟨ba0, oa0, csa0, rfl, hba0, hRa0, hca0⟩ := hv0
  have hSa0 := hRa0
  obtain ⟨A1, n1, c1, rfl, ⟨h1, r1⟩⟩ := hRa0
  have e1 := h1.len; subst e1
  have q1 := len_le r1
  have T := Below.refl w.heap.size w
  unfold m_spec_l11Own at hm
  refine enter 28 Try.func77 rfl rfl rfl ?_
  intro f hf
  have s0 : f 0 = .pointer (some ⟨ba0, oa0, none⟩) := hf 0 _ rfl
  refine wp_seq ?_
  refine wp_rl rfl ?_
  refine RL.alloc (z := .agg #[.slice none 0 0]) rfl (by kernel_rfl) (fun w2 B3 hb4 szw2 => ?_)
  replace B3 : Blk w2 w.heap.size 30 #[.slice none 0 0] := B3
  have GB3 : w.heap.size ≤ w.heap.size := T.size
  have T := Tt T hb4
  refine RL.nil ?_
  refine then_n ?_
  refine wp_seq ?_
  refine wp_rl rfl ?_
  refine RL.y rfl (Y.build0 (cells := #[.slice none 0 0])  (by kernel_rfl) (by kernel_rfl)) ?_
  refine RL.alloc (z := .agg #[.slice none 0 0]) rfl (by kernel_rfl) (fun w6 B7 hb8 szw6 => ?_)
  replace B7 : Blk w6 w2.heap.size 30 #[.slice none 0 0] := B7
  have GB7 : w.heap.size ≤ w2.heap.size := T.size
  have Eob9_ob5 := Nat.ne_of_lt B3.lt
  have B3 := blkT B3 hb8
  have T := Tt T hb8
  refine RL.store (v := .agg #[.slice none 0 0]) (cs' := #[.slice none 0 0]) rfl rfl rfl B7 (by kernel_rfl) (by rfl) (by rfl) (by rfl) (fun w10 B11 ho12 => ?_)
  have szw10 := ho12.size
  have B3 := B3.only_ ho12 (by intro hin; simp at hin; exact Eob9_ob5 hin)
  have T := T.trans (ho12.below (by first | (simp; done) | (simp; omega)))
  refine RL.nil ?_
  refine then_n ?_
  refine wp_seq ?_
  refine wp_seq ?_
  refine wp_rs rfl ?_
  refine RQ.y rfl (Y.assign (v := .int .i64 0) rfl) ?_
  refine RQ.nil ?_
  refine then_n ?_
  refine wp_block ?_
  obtain ⟨K1, hK1, hm⟩ : ∃ K, K = m_spec_l11Own_A1 ∧ m_spec_l11Own_L1 d0 K (d0.agents.length + 1) 0 (⟨[]⟩ : DNet) = some r := ⟨_, rfl, hm⟩
  refine wp_loopX (fun g f w' => ∃ (i20 : Int) (z21 : DNet) (uz21_0 : Value) (bsz21_0 : List Nat), f 0 = .pointer (some ⟨ba0, oa0, none⟩) ∧ f 2 = .pointer (some ⟨w.heap.size, 0, none⟩) ∧ f 3 = .pointer (some ⟨w2.heap.size, 0, none⟩) ∧ f 4 = .int .i64 i20 ∧ 0 ≤ i20 ∧ Blk w' w2.heap.size 30 #[uz21_0] ∧ OwN 89 agentOw 5 w' w.heap.size uz21_0 z21.agents bsz21_0 ∧ Ap bsz21_0 [w.heap.size] ∧ Ap bsz21_0 [w2.heap.size] ∧ Blk w' w.heap.size 30 #[.slice none 0 0] ∧ Below w.heap.size w w' ∧ m_spec_l11Own_L1 d0 K1 g i20 z21 = some r) 0 (fun f w' => ∃ (z13 : DNet) (uz13_0 : Value) (bsz13_0 : List Nat), f 2 = .pointer (some ⟨w.heap.size, 0, none⟩) ∧ f 3 = .pointer (some ⟨w2.heap.size, 0, none⟩) ∧ Blk w' w2.heap.size 30 #[uz13_0] ∧ OwN 89 agentOw 5 w' w.heap.size uz13_0 z13.agents bsz13_0 ∧ Ap bsz13_0 [w.heap.size] ∧ Ap bsz13_0 [w2.heap.size] ∧ Blk w' w.heap.size 30 #[.slice none 0 0] ∧ Below w.heap.size w w' ∧ m_spec_l11Own_A1 z13 = some r) (d0.agents.length + 1) ⟨0, (⟨[]⟩ : DNet), (.slice none 0 0), [], s0, rfl, rfl, rfl, (by omega), B11, OwN.nil, Ap.nil, Ap.nil, B3, T, hm⟩ ?_ ?_
  · rintro f w14 ⟨z13, uz13_0, bsz13_0, s2_1x, s3_1x, Bz13, Guz13_0, Noz13_0_ob5, Noz13_0_ob9, B3, T, hm⟩
    unfold m_spec_l11Own_A1 at hm
    refine blk_hit (then_n ?_)
    refine wp_seq ?_
    refine wp_rl rfl ?_
    refine RL.y rfl (Y.loadN (cs := [uz13_0]) s3_1x (by kernel_rfl) (cells1 (eqC (blkCell Bz13 (i := 0) rfl)))) ?_
    obtain ⟨A15, c16, rfl⟩ := OwN.form Guz13_0
    have qbA15 := OwN.bound Guz13_0
    refine RL.store (v := .agg #[.slice A15 z13.agents.length c16]) (cs' := #[.slice A15 z13.agents.length c16]) rfl s2_1x rfl B3 (by kernel_rfl) (by rfl) (by rfl) (by rfl) (fun w17 B18 ho19 => ?_)
    have szw17 := ho19.size
    have Bz13 := Bz13.only_ ho19 (by intro hin; simp at hin; exact Eob9_ob5.symm hin)
    have Guz13_0 := OwN.only agentOw_ok Guz13_0 ho19 (Ap.one Noz13_0_ob5)
    have T := T.trans (ho19.below (by first | (simp; done) | (simp; omega)))
    refine RL.nil ?_
    refine then_n ?_
    refine wp_ret ?_
    obtain rfl := Option.some.inj hm
    exact (retc (cs := [.slice A15 z13.agents.length c16]) rfl rfl s2_1x (by kernel_rfl) (blkCells B18) ⟨⟨_, _, rfl, Guz13_0⟩, T⟩)
  · rintro g f w22 ⟨i20, z21, uz21_0, bsz21_0, s0_1, s2_1, s3_1, s4_1, nn4_1, Bz21, Guz21_0, Noz21_0_ob5, Noz21_0_ob9, B3, T, hm⟩
    rcases g with _ | g
    · simp only [m_spec_l11Own_L1] at hm; cases hm
    obtain ⟨rec1, hrec1, hm⟩ : ∃ z, z = m_spec_l11Own_L1 d0 K1 g ∧ m_spec_l11Own_B1 d0 z K1 i20 z21 = some r := ⟨_, rfl, hm⟩
    unfold m_spec_l11Own_B1 at hm
    refine wp_seq ?_
    refine wp_seq ?_
    refine wp_rs rfl ?_
    refine RQ.y rfl (Y.move (v := .int .i64 i20) s4_1) ?_
    refine RQ.y rfl (Y.move (v := .pointer (some ⟨ba0, oa0, none⟩)) s0_1) ?_
    refine RQ.y rfl (Y.nilCheck rfl) ?_
    refine RQ.y rfl (Y.fieldAddr (off := 0) rfl (by kernel_rfl)) ?_
    refine RQ.y rfl (Y.load (v := .slice A1 d0.agents.length c1) rfl (by kernel_rfl) (eqC (cellT T (hca0 0 _ rfl)))) ?_
    refine RQ.y rfl (Y.len (by kernel_rfl) rfl) ?_
    refine RQ.y rfl (Y.binI (v := .bool (decide (i20 < (d0.agents.length : Int)))) rfl rfl rfl) ?_
    refine RQ.nil ?_
    refine then_n ?_
    rcases bcases (decide (i20 < (d0.agents.length : Int))) with c23 | c23
    · replace hm := cF c23 hm
      have pc23 := of_decide_eq_false c23
      refine cond_f rfl (vb rfl c23) ?_
      refine wp_exit ?_
      exact (then_x (then_x (hit_x ⟨_, rfl, ⟨z21, (uz21_0), bsz21_0, s2_1, s3_1, Bz21, Guz21_0, Noz21_0_ob5, Noz21_0_ob9, B3, T, (by rw [hK1] at hm; exact hm)⟩⟩)))
    · replace hm := cT c23 hm
      have pc23 := of_decide_eq_true c23
      refine cond_t rfl (vb rfl c23) ?_
      refine wp_skip ?_
      refine then_n ?_
      refine wp_seq ?_
      refine wp_block ?_
      refine wp_rgt (fun w' => Below w.heap.size w w') (.q 0 (.q 2 (.q 3 (.q 4 (.q 5 (.q 6 (.q 7 (.two 1 (.a 8 (.a 9 (.a 10 (.q 11 (.a 12 .nil))))) 8 (.two 1 (.a 9 (.a 10 (.q 11 (.a 12 .nil)))) 9 (.a 1 (.a 10 (.q 11 (.a 12 .nil))))))))))))) (by kernel_rfl) (by kernel_rfl) (fun w24 hb25 szw24 => ?_)
      have B3 := blkT B3 hb25
      have Bz21 := blkT Bz21 hb25
      have Guz21_0 := OwN.below agentOw_ok Guz21_0 hb25
      have T := Tt T hb25
      refine ⟨T, ?_⟩
      refine RT.y rfl rfl (Y.fieldAddr (off := 0) s3_1 (by kernel_rfl)) ?_
      refine RT.y rfl rfl (Y.move (v := .pointer (some ⟨ba0, oa0, none⟩)) s0_1) ?_
      refine RT.y rfl rfl (Y.nilCheck rfl) ?_
      refine RT.y rfl rfl (Y.fieldAddr (off := 0) rfl (by kernel_rfl)) ?_
      refine RT.y rfl rfl (Y.load (v := .slice A1 d0.agents.length c1) rfl (by kernel_rfl) (fun w' hS => (cellT hS (hca0 0 _ rfl)))) ?_
      refine RT.y rfl rfl (Y.move (v := .int .i64 i20) s4_1) ?_
      obtain ⟨x26, hx29, hm⟩ := bnd hm
      obtain ⟨k27, hk30, hl31, hx29⟩ := getI_some hx29
      obtain ⟨b33, o34, rfl, hbb33⟩ := h1.addr (by omega)
      obtain ⟨cs28, hRcs28, hc32⟩ := h1.el hx29
      have hScs28 := hRcs28
      obtain ⟨A35, n35, c35, A36, n36, c36, rfl, ⟨h35, r35⟩, ⟨h36, r36⟩⟩ := hRcs28
      have e35 := h35.len; subst e35
      have q35 := len_le r35
      have e36 := h36.len; subst e36
      have q36 := len_le r36
      refine RT.y rfl rfl (Y.indexAddr (m := k27) (sz := 5) rfl rfl hk30 hl31 (by kernel_rfl)) ?_
      refine RT.both rfl rfl ?_ ?_
      · refine RL.y rfl (Y.load (v := uz21_0) rfl (by kernel_rfl) (eqC (blkCell Bz21 (i := 0) rfl))) ?_
        refine RL.nil ⟨T, ?_⟩
        refine RT.act rfl ?_
        obtain ⟨y37, e38, hm⟩ := bnd hm
        refine RL.call rfl (am1 rfl) (by kernel_rfl) ((c_m_spec_l11OwnAgent x26 _ e38 _ _ (ptArg agentRd_ok hbb33 hScs28 hc32 T)).mono ?_)
        rintro _ w45 ⟨⟨v39, v42, rfl, G40, G43, Ro41_o44⟩, hb46⟩
        refine ⟨_, rfl, ?_⟩
        have szw45 := hb46.size
        have T0w45 := T.size
        have Zo41_ob5 := ap_ne (Ap.new (OwF.flo G40) (one_hi B3.lt))
        have Zo41_ob9 := ap_ne (Ap.new (OwF.flo G40) (one_hi Bz21.lt))
        have Zo41_oz21_0 : Ap (fb v39) bsz21_0 := (Ap.new (OwF.flo G40) (OwN.hi Guz21_0))
        have Zo44_ob5 := ap_ne (Ap.new (OwF.flo G43) (one_hi B3.lt))
        have Zo44_ob9 := ap_ne (Ap.new (OwF.flo G43) (one_hi Bz21.lt))
        have Zo44_oz21_0 : Ap (fb v42) bsz21_0 := (Ap.new (OwF.flo G43) (OwN.hi Guz21_0))
        have B3 := blkT B3 hb46
        have Bz21 := blkT Bz21 hb46
        have Guz21_0 := OwN.below agentOw_ok Guz21_0 hb46
        have T := Tt T hb46
        replace G40 := OwF.mono G40 T0w45
        replace G43 := OwF.mono G43 T0w45
        refine RL.nil ⟨T, ?_⟩
        refine RT.act rfl ?_
        obtain ⟨A51, c52, rfl⟩ := OwF.form G40
        have qbA51 := OwF.bound G40
        obtain ⟨A53, c54, rfl⟩ := OwF.form G43
        have qbA53 := OwF.bound G43
        refine RL.bslice (e := 89) (cells := #[.int .i64 y37.kind, .int .i64 y37.level, .int .i64 y37.value, .slice A51 y37.data.length c52, .slice A53 y37.ports.length c54]) rfl (pm1 rfl) (by kernel_rfl) (fun w47 B48 hb49 szw47 => ?_)
        have ZB48 : w.heap.size ≤ w45.heap.size := T.size
        have q55 := OwF.fboth G40 (Nat.le_refl _)
        have q56 := OwF.fboth G43 (Nat.le_refl _)
        have z57 := Ap.cons (Ap.farL (one_hi B3.lt)) (Ap.append (ne_ap Zo41_ob5) (ne_ap Zo44_ob5))
        have z58 := Ap.cons (Ap.farL (one_hi Bz21.lt)) (Ap.append (ne_ap Zo41_ob9) (ne_ap Zo44_ob9))
        have z59 := Ap.cons (Ap.farL (OwN.hi Guz21_0)) (Ap.append Zo41_oz21_0 Zo44_oz21_0)
        have B3 := blkT B3 hb49
        have Bz21 := blkT Bz21 hb49
        have Guz21_0 := OwN.below agentOw_ok Guz21_0 hb49
        have G40 := OwF.below G40 hb49
        have G43 := OwF.below G43 hb49
        have T := Tt T hb49
        obtain ⟨l61, a60, nd62, sb63, r64⟩ := OwF.own2 fI G40
        obtain ⟨l66, a65, nd67, sb68, r69⟩ := OwF.own2 fPort G43
        have G70 : OwN 89 agentOw 5 w47 w.heap.size (.slice (some ⟨w45.heap.size, 0, none⟩) 1 1) [y37] (w45.heap.size :: ((fb (.slice A51 y37.data.length c52)) ++ (fb (.slice A53 y37.ports.length c54)))) := OwN.lit1 (b1 := (l61 ++ l66)) B48 ZB48 ⟨_, _, _, _, _, _, l61, l66, rfl, ⟨a60, r64⟩, ⟨a65, r69⟩, rfl⟩ agentOw_ok (nodup2 nd62 nd67 sb63 sb68 (Dj.ap Ro41_o44)) (sub2 sb63 sb68) (all2 q55 q56)
        refine RL.nil ⟨T, ?_⟩
        refine RT.act rfl ?_
        obtain ⟨_, m72, hm⟩ := bnd hm
        have hk73 := mustP_some m72
        refine RL.appendN agentOw_ok agentOw_one (by decide) app_impl_Agent rfl rfl rfl Guz21_0 G70 (Ap.symm z59) T.size hk73 (fun v74 w75 bs76 G77 hgr78 hbl79 hnb80 => ?_)
        have szw75 := hbl79.size
        have z82 := Ap.app hnb80 Noz21_0_ob5 z57 (one_hi B3.lt)
        have z83 := Ap.app hnb80 Noz21_0_ob9 z58 (one_hi Bz21.lt)
        have B3 := Blk.kept B3 hgr78 (OwN.neB Guz21_0 Noz21_0_ob5)
        have Bz21 := Blk.kept Bz21 hgr78 (OwN.neB Guz21_0 Noz21_0_ob9)
        have T := T.trans hbl79
        refine RL.nil ⟨T, ?_⟩
        refine RT.y rfl rfl (Y.fieldAddr (off := 0) s3_1 (by kernel_rfl)) ?_
        refine RT.act rfl ?_
        obtain ⟨A84, c85, rfl⟩ := OwN.form G77
        have qbA84 := OwN.bound G77
        refine RL.store (v := .slice A84 ((z21.agents ++ [y37]).length) c85) (cs' := #[.slice A84 ((z21.agents ++ [y37]).length) c85]) rfl rfl rfl Bz21 (by kernel_rfl) (by rfl) (by rfl) (by rfl) (fun w86 B87 ho88 => ?_)
        have szw86 := ho88.size
        have B3 := B3.only_ ho88 (by intro hin; simp at hin; exact Eob9_ob5 hin)
        have G77 := OwN.only agentOw_ok G77 ho88 (Ap.one z83)
        have T := T.trans (ho88.below (by first | (simp; done) | (simp; omega)))
        refine RL.nil ⟨T, ?_⟩
        refine RT.nil_ ?_
        refine blk_n (then_n ?_)
        refine wp_rs rfl ?_
        refine RQ.y rfl (Y.move (v := .int .i64 i20) s4_1) ?_
        refine RQ.y rfl (Y.binI rfl rfl (binI_add (m := i20) (by omega))) ?_
        refine RQ.y rfl (Y.assign (v := .int .i64 (i20 + 1)) rfl) ?_
        refine RQ.nil ?_
        exact (then_n ⟨g, _, Nat.lt_succ_self _, rfl, ⟨(i20 + 1), (⟨(z21.agents ++ [y37])⟩ : DNet), (.slice A84 ((z21.agents ++ [y37]).length) c85), bs76, s0_1, s2_1, s3_1, rfl, (by omega), B87, G77, z82, z83, B3, T, (by rw [← hrec1]; exact hm)⟩⟩)
      · obtain ⟨y89, e90, hm⟩ := bnd hm
        refine RL.call rfl (am1 rfl) (by kernel_rfl) ((c_m_spec_l11OwnAgent x26 _ e90 _ _ (ptArg agentRd_ok hbb33 hScs28 hc32 T)).mono ?_)
        rintro _ w97 ⟨⟨v91, v94, rfl, G92, G95, Ro93_o96⟩, hb98⟩
        refine ⟨_, rfl, ?_⟩
        have szw97 := hb98.size
        have T0w97 := T.size
        have Zo93_ob5 := ap_ne (Ap.new (OwF.flo G92) (one_hi B3.lt))
        have Zo93_ob9 := ap_ne (Ap.new (OwF.flo G92) (one_hi Bz21.lt))
        have Zo93_oz21_0 : Ap (fb v91) bsz21_0 := (Ap.new (OwF.flo G92) (OwN.hi Guz21_0))
        have Zo96_ob5 := ap_ne (Ap.new (OwF.flo G95) (one_hi B3.lt))
        have Zo96_ob9 := ap_ne (Ap.new (OwF.flo G95) (one_hi Bz21.lt))
        have Zo96_oz21_0 : Ap (fb v94) bsz21_0 := (Ap.new (OwF.flo G95) (OwN.hi Guz21_0))
        have B3 := blkT B3 hb98
        have Bz21 := blkT Bz21 hb98
        have Guz21_0 := OwN.below agentOw_ok Guz21_0 hb98
        have T := Tt T hb98
        replace G92 := OwF.mono G92 T0w97
        replace G95 := OwF.mono G95 T0w97
        refine RL.nil ⟨T, ?_⟩
        refine RT.both rfl rfl ?_ ?_
        · refine RL.y rfl (Y.load (v := uz21_0) rfl (by kernel_rfl) (eqC (blkCell Bz21 (i := 0) rfl))) ?_
          refine RL.nil ⟨T, ?_⟩
          refine RT.act rfl ?_
          obtain ⟨A103, c104, rfl⟩ := OwF.form G92
          have qbA103 := OwF.bound G92
          obtain ⟨A105, c106, rfl⟩ := OwF.form G95
          have qbA105 := OwF.bound G95
          refine RL.bslice (e := 89) (cells := #[.int .i64 y89.kind, .int .i64 y89.level, .int .i64 y89.value, .slice A103 y89.data.length c104, .slice A105 y89.ports.length c106]) rfl (pm1 rfl) (by kernel_rfl) (fun w99 B100 hb101 szw99 => ?_)
          have ZB100 : w.heap.size ≤ w97.heap.size := T.size
          have q107 := OwF.fboth G92 (Nat.le_refl _)
          have q108 := OwF.fboth G95 (Nat.le_refl _)
          have z109 := Ap.cons (Ap.farL (one_hi B3.lt)) (Ap.append (ne_ap Zo93_ob5) (ne_ap Zo96_ob5))
          have z110 := Ap.cons (Ap.farL (one_hi Bz21.lt)) (Ap.append (ne_ap Zo93_ob9) (ne_ap Zo96_ob9))
          have z111 := Ap.cons (Ap.farL (OwN.hi Guz21_0)) (Ap.append Zo93_oz21_0 Zo96_oz21_0)
          have B3 := blkT B3 hb101
          have Bz21 := blkT Bz21 hb101
          have Guz21_0 := OwN.below agentOw_ok Guz21_0 hb101
          have G92 := OwF.below G92 hb101
          have G95 := OwF.below G95 hb101
          have T := Tt T hb101
          obtain ⟨l113, a112, nd114, sb115, r116⟩ := OwF.own2 fI G92
          obtain ⟨l118, a117, nd119, sb120, r121⟩ := OwF.own2 fPort G95
          have G122 : OwN 89 agentOw 5 w99 w.heap.size (.slice (some ⟨w97.heap.size, 0, none⟩) 1 1) [y89] (w97.heap.size :: ((fb (.slice A103 y89.data.length c104)) ++ (fb (.slice A105 y89.ports.length c106)))) := OwN.lit1 (b1 := (l113 ++ l118)) B100 ZB100 ⟨_, _, _, _, _, _, l113, l118, rfl, ⟨a112, r116⟩, ⟨a117, r121⟩, rfl⟩ agentOw_ok (nodup2 nd114 nd119 sb115 sb120 (Dj.ap Ro93_o96)) (sub2 sb115 sb120) (all2 q107 q108)
          refine RL.nil ⟨T, ?_⟩
          refine RT.act rfl ?_
          obtain ⟨_, m124, hm⟩ := bnd hm
          have hk125 := mustP_some m124
          refine RL.appendN agentOw_ok agentOw_one (by decide) app_impl_Agent rfl rfl rfl Guz21_0 G122 (Ap.symm z111) T.size hk125 (fun v126 w127 bs128 G129 hgr130 hbl131 hnb132 => ?_)
          have szw127 := hbl131.size
          have z134 := Ap.app hnb132 Noz21_0_ob5 z109 (one_hi B3.lt)
          have z135 := Ap.app hnb132 Noz21_0_ob9 z110 (one_hi Bz21.lt)
          have B3 := Blk.kept B3 hgr130 (OwN.neB Guz21_0 Noz21_0_ob5)
          have Bz21 := Blk.kept Bz21 hgr130 (OwN.neB Guz21_0 Noz21_0_ob9)
          have T := T.trans hbl131
          refine RL.nil ⟨T, ?_⟩
          refine RT.y rfl rfl (Y.fieldAddr (off := 0) s3_1 (by kernel_rfl)) ?_
          refine RT.act rfl ?_
          obtain ⟨A136, c137, rfl⟩ := OwN.form G129
          have qbA136 := OwN.bound G129
          refine RL.store (v := .slice A136 ((z21.agents ++ [y89]).length) c137) (cs' := #[.slice A136 ((z21.agents ++ [y89]).length) c137]) rfl rfl rfl Bz21 (by kernel_rfl) (by rfl) (by rfl) (by rfl) (fun w138 B139 ho140 => ?_)
          have szw138 := ho140.size
          have B3 := B3.only_ ho140 (by intro hin; simp at hin; exact Eob9_ob5 hin)
          have G129 := OwN.only agentOw_ok G129 ho140 (Ap.one z135)
          have T := T.trans (ho140.below (by first | (simp; done) | (simp; omega)))
          refine RL.nil ⟨T, ?_⟩
          refine RT.nil_ ?_
          refine blk_n (then_n ?_)
          refine wp_rs rfl ?_
          refine RQ.y rfl (Y.move (v := .int .i64 i20) s4_1) ?_
          refine RQ.y rfl (Y.binI rfl rfl (binI_add (m := i20) (by omega))) ?_
          refine RQ.y rfl (Y.assign (v := .int .i64 (i20 + 1)) rfl) ?_
          refine RQ.nil ?_
          exact (then_n ⟨g, _, Nat.lt_succ_self _, rfl, ⟨(i20 + 1), (⟨(z21.agents ++ [y89])⟩ : DNet), (.slice A136 ((z21.agents ++ [y89]).length) c137), bs128, s0_1, s2_1, s3_1, rfl, (by omega), B139, G129, z134, z135, B3, T, (by rw [← hrec1]; exact hm)⟩⟩)
        · obtain ⟨A145, c146, rfl⟩ := OwF.form G92
          have qbA145 := OwF.bound G92
          obtain ⟨A147, c148, rfl⟩ := OwF.form G95
          have qbA147 := OwF.bound G95
          refine RL.bslice (e := 89) (cells := #[.int .i64 y89.kind, .int .i64 y89.level, .int .i64 y89.value, .slice A145 y89.data.length c146, .slice A147 y89.ports.length c148]) rfl (pm1 rfl) (by kernel_rfl) (fun w141 B142 hb143 szw141 => ?_)
          have ZB142 : w.heap.size ≤ w97.heap.size := T.size
          have q149 := OwF.fboth G92 (Nat.le_refl _)
          have q150 := OwF.fboth G95 (Nat.le_refl _)
          have z151 := Ap.cons (Ap.farL (one_hi B3.lt)) (Ap.append (ne_ap Zo93_ob5) (ne_ap Zo96_ob5))
          have z152 := Ap.cons (Ap.farL (one_hi Bz21.lt)) (Ap.append (ne_ap Zo93_ob9) (ne_ap Zo96_ob9))
          have z153 := Ap.cons (Ap.farL (OwN.hi Guz21_0)) (Ap.append Zo93_oz21_0 Zo96_oz21_0)
          have B3 := blkT B3 hb143
          have Bz21 := blkT Bz21 hb143
          have Guz21_0 := OwN.below agentOw_ok Guz21_0 hb143
          have G92 := OwF.below G92 hb143
          have G95 := OwF.below G95 hb143
          have T := Tt T hb143
          obtain ⟨l155, a154, nd156, sb157, r158⟩ := OwF.own2 fI G92
          obtain ⟨l160, a159, nd161, sb162, r163⟩ := OwF.own2 fPort G95
          have G164 : OwN 89 agentOw 5 w141 w.heap.size (.slice (some ⟨w97.heap.size, 0, none⟩) 1 1) [y89] (w97.heap.size :: ((fb (.slice A145 y89.data.length c146)) ++ (fb (.slice A147 y89.ports.length c148)))) := OwN.lit1 (b1 := (l155 ++ l160)) B142 ZB142 ⟨_, _, _, _, _, _, l155, l160, rfl, ⟨a154, r158⟩, ⟨a159, r163⟩, rfl⟩ agentOw_ok (nodup2 nd156 nd161 sb157 sb162 (Dj.ap Ro93_o96)) (sub2 sb157 sb162) (all2 q149 q150)
          refine RL.nil ⟨T, ?_⟩
          refine RT.act rfl ?_
          refine RL.y rfl (Y.load (v := uz21_0) rfl (by kernel_rfl) (eqC (blkCell Bz21 (i := 0) rfl))) ?_
          refine RL.nil ⟨T, ?_⟩
          refine RT.act rfl ?_
          obtain ⟨_, m166, hm⟩ := bnd hm
          have hk167 := mustP_some m166
          refine RL.appendN agentOw_ok agentOw_one (by decide) app_impl_Agent rfl rfl rfl Guz21_0 G164 (Ap.symm z153) T.size hk167 (fun v168 w169 bs170 G171 hgr172 hbl173 hnb174 => ?_)
          have szw169 := hbl173.size
          have z176 := Ap.app hnb174 Noz21_0_ob5 z151 (one_hi B3.lt)
          have z177 := Ap.app hnb174 Noz21_0_ob9 z152 (one_hi Bz21.lt)
          have B3 := Blk.kept B3 hgr172 (OwN.neB Guz21_0 Noz21_0_ob5)
          have Bz21 := Blk.kept Bz21 hgr172 (OwN.neB Guz21_0 Noz21_0_ob9)
          have T := T.trans hbl173
          refine RL.nil ⟨T, ?_⟩
          refine RT.y rfl rfl (Y.fieldAddr (off := 0) s3_1 (by kernel_rfl)) ?_
          refine RT.act rfl ?_
          obtain ⟨A178, c179, rfl⟩ := OwN.form G171
          have qbA178 := OwN.bound G171
          refine RL.store (v := .slice A178 ((z21.agents ++ [y89]).length) c179) (cs' := #[.slice A178 ((z21.agents ++ [y89]).length) c179]) rfl rfl rfl Bz21 (by kernel_rfl) (by rfl) (by rfl) (by rfl) (fun w180 B181 ho182 => ?_)
          have szw180 := ho182.size
          have B3 := B3.only_ ho182 (by intro hin; simp at hin; exact Eob9_ob5 hin)
          have G171 := OwN.only agentOw_ok G171 ho182 (Ap.one z177)
          have T := T.trans (ho182.below (by first | (simp; done) | (simp; omega)))
          refine RL.nil ⟨T, ?_⟩
          refine RT.nil_ ?_
          refine blk_n (then_n ?_)
          refine wp_rs rfl ?_
          refine RQ.y rfl (Y.move (v := .int .i64 i20) s4_1) ?_
          refine RQ.y rfl (Y.binI rfl rfl (binI_add (m := i20) (by omega))) ?_
          refine RQ.y rfl (Y.assign (v := .int .i64 (i20 + 1)) rfl) ?_
          refine RQ.nil ?_
          exact (then_n ⟨g, _, Nat.lt_succ_self _, rfl, ⟨(i20 + 1), (⟨(z21.agents ++ [y89])⟩ : DNet), (.slice A178 ((z21.agents ++ [y89]).length) c179), bs170, s0_1, s2_1, s3_1, rfl, (by omega), B181, G171, z176, z177, B3, T, (by rw [← hrec1]; exact hm)⟩⟩)
def m_spec_l13Highest_A1 (i2 : Int) : Option Int :=
  some i2
def m_spec_l13Highest_B1 (d0 : DNet) (rec1 : Int → Int → Option Int) (K1 : Int → Option Int) (i4 : Int) (i5 : Int) : Option Int :=
  (bif (decide (i5 < (d0.agents.length : Int))) then ((getI d0.agents i5).bind fun x8 => ((m_spec_l00Max i4 x8.level).bind fun y19 => (rec1 y19 (i5 + 1)))) else (K1 i4))
def m_spec_l13Highest_L1 (d0 : DNet) (K1 : Int → Option Int) : Nat → Int → Int → Option Int
  | 0, _, _ => none
  | g + 1, i4, i5 => m_spec_l13Highest_B1 d0 (m_spec_l13Highest_L1 d0 K1 g) K1 i4 i5
def m_spec_l13Highest (d0 : DNet) : Option Int :=
  (m_spec_l13Highest_L1 d0 m_spec_l13Highest_A1 (d0.agents.length + 1) 0 0)
set_option maxHeartbeats 2000000 in
theorem c_m_spec_l13Highest (d0 : DNet) (r : Int) (hm : m_spec_l13Highest d0 = some r) (v0 : Value) (w : World) (hv0 : Pt netRd w v0 d0) :
    Calls Try.prog 76 #[v0] w fun e w' => e = .returned (.int .i64 r) ∧ Below w.heap.size w w' := by
  obtain ⟨ba0, oa0, csa0, rfl, hba0, hRa0, hca0⟩ := hv0
  have hSa0 := hRa0
  obtain ⟨A1, n1, c1, rfl, ⟨h1, r1⟩⟩ := hRa0
  have e1 := h1.len; subst e1
  have q1 := len_le r1
  have T := Below.refl w.heap.size w
  unfold m_spec_l13Highest at hm
  refine enter 25 Try.func76 rfl rfl rfl ?_
  intro f hf
  have s0 : f 0 = .pointer (some ⟨ba0, oa0, none⟩) := hf 0 _ rfl
  refine wp_seq ?_
  refine wp_rs rfl ?_
  refine RQ.y rfl (Y.assign (v := .int .i64 0) rfl) ?_
  refine RQ.nil ?_
  refine then_n ?_
  refine wp_seq ?_
  refine wp_rs rfl ?_
  refine RQ.y rfl (Y.assign (v := .int .i64 0) rfl) ?_
  refine RQ.nil ?_
  refine then_n ?_
  refine wp_seq ?_
  refine wp_seq ?_
  refine wp_rs rfl ?_
  refine RQ.y rfl (Y.assign (v := .int .i64 0) rfl) ?_
  refine RQ.nil ?_
  refine then_n ?_
  refine wp_block ?_
  obtain ⟨K1, hK1, hm⟩ : ∃ K, K = m_spec_l13Highest_A1 ∧ m_spec_l13Highest_L1 d0 K (d0.agents.length + 1) 0 0 = some r := ⟨_, rfl, hm⟩
  refine wp_loopX (fun g f w' => ∃ (i4 : Int) (i5 : Int), f 0 = .pointer (some ⟨ba0, oa0, none⟩) ∧ f 3 = .int .i64 i4 ∧ f 4 = .int .i64 i5 ∧ 0 ≤ i5 ∧ Below w.heap.size w w' ∧ m_spec_l13Highest_L1 d0 K1 g i4 i5 = some r) 0 (fun f w' => ∃ (i2 : Int), f 3 = .int .i64 i2 ∧ Below w.heap.size w w' ∧ m_spec_l13Highest_A1 i2 = some r) (d0.agents.length + 1) ⟨0, 0, s0, rfl, rfl, (by omega), T, hm⟩ ?_ ?_
  · rintro f w3 ⟨i2, s3_1x, T, hm⟩
    unfold m_spec_l13Highest_A1 at hm
    refine blk_hit (then_n ?_)
    refine wp_seq ?_
    refine wp_rs rfl ?_
    refine RQ.y rfl (Y.move (v := .int .i64 i2) s3_1x) ?_
    refine RQ.y rfl (Y.assign (v := .int .i64 i2) rfl) ?_
    refine RQ.nil ?_
    refine then_n ?_
    refine wp_ret ?_
    obtain rfl := Option.some.inj hm
    exact (ret1 rfl rfl rfl ⟨rfl, T⟩)
  · rintro g f w6 ⟨i4, i5, s0_1, s3_1, s4_1, nn4_1, T, hm⟩
    rcases g with _ | g
    · simp only [m_spec_l13Highest_L1] at hm; cases hm
    obtain ⟨rec1, hrec1, hm⟩ : ∃ z, z = m_spec_l13Highest_L1 d0 K1 g ∧ m_spec_l13Highest_B1 d0 z K1 i4 i5 = some r := ⟨_, rfl, hm⟩
    unfold m_spec_l13Highest_B1 at hm
    refine wp_seq ?_
    refine wp_seq ?_
    refine wp_rs rfl ?_
    refine RQ.y rfl (Y.move (v := .int .i64 i5) s4_1) ?_
    refine RQ.y rfl (Y.move (v := .pointer (some ⟨ba0, oa0, none⟩)) s0_1) ?_
    refine RQ.y rfl (Y.nilCheck rfl) ?_
    refine RQ.y rfl (Y.fieldAddr (off := 0) rfl (by kernel_rfl)) ?_
    refine RQ.y rfl (Y.load (v := .slice A1 d0.agents.length c1) rfl (by kernel_rfl) (eqC (cellT T (hca0 0 _ rfl)))) ?_
    refine RQ.y rfl (Y.len (by kernel_rfl) rfl) ?_
    refine RQ.y rfl (Y.binI (v := .bool (decide (i5 < (d0.agents.length : Int)))) rfl rfl rfl) ?_
    refine RQ.nil ?_
    refine then_n ?_
    rcases bcases (decide (i5 < (d0.agents.length : Int))) with c7 | c7
    · replace hm := cF c7 hm
      have pc7 := of_decide_eq_false c7
      refine cond_f rfl (vb rfl c7) ?_
      refine wp_exit ?_
      exact (then_x (then_x (hit_x ⟨_, rfl, ⟨i4, s3_1, T, (by rw [hK1] at hm; exact hm)⟩⟩)))
    · replace hm := cT c7 hm
      have pc7 := of_decide_eq_true c7
      refine cond_t rfl (vb rfl c7) ?_
      refine wp_skip ?_
      refine then_n ?_
      refine wp_seq ?_
      refine wp_block ?_
      refine wp_rb rfl ?_
      refine RQ.y rfl (Y.move (v := .int .i64 i4) s3_1) ?_
      refine RQ.y rfl (Y.move (v := .pointer (some ⟨ba0, oa0, none⟩)) s0_1) ?_
      refine RQ.y rfl (Y.nilCheck rfl) ?_
      refine RQ.y rfl (Y.fieldAddr (off := 0) rfl (by kernel_rfl)) ?_
      refine RQ.y rfl (Y.load (v := .slice A1 d0.agents.length c1) rfl (by kernel_rfl) (beC (cellT T (hca0 0 _ rfl)))) ?_
      refine RQ.y rfl (Y.move (v := .int .i64 i5) s4_1) ?_
      obtain ⟨x8, hx11, hm⟩ := bnd hm
      obtain ⟨k9, hk12, hl13, hx11⟩ := getI_some hx11
      obtain ⟨b15, o16, rfl, hbb15⟩ := h1.addr (by omega)
      obtain ⟨cs10, hRcs10, hc14⟩ := h1.el hx11
      have hScs10 := hRcs10
      obtain ⟨A17, n17, c17, A18, n18, c18, rfl, ⟨h17, r17⟩, ⟨h18, r18⟩⟩ := hRcs10
      have e17 := h17.len; subst e17
      have q17 := len_le r17
      have e18 := h18.len; subst e18
      have q18 := len_le r18
      refine RQ.y rfl (Y.indexAddr (m := k9) (sz := 5) rfl rfl hk12 hl13 (by kernel_rfl)) ?_
      refine RQ.y rfl (Y.fieldAddr (off := 1) rfl (by kernel_rfl)) ?_
      refine RQ.y rfl (Y.load (v := .int .i64 x8.level) rfl (by kernel_rfl) (beC (cellT T (hc14 1 _ rfl)))) ?_
      obtain ⟨y19, e20, hm⟩ := bnd hm
      refine RQ.call rfl (am2 rfl rfl) (by kernel_rfl) (v := .int .i64 y19) (bel (K := fun _ => True) fun w' hb' => (c_m_spec_l00Max i4 x8.level _ e20  w' )) ?_
      refine RQ.y rfl (Y.assign (v := .int .i64 y19) rfl) ?_
      refine RQ.nil ?_
      intro w21 hb22
      have szw21 := hb22.size
      have T := Tt T hb22
      refine blk_n (then_n ?_)
      refine wp_rs rfl ?_
      refine RQ.y rfl (Y.move (v := .int .i64 i5) s4_1) ?_
      refine RQ.y rfl (Y.binI rfl rfl (binI_add (m := i5) (by omega))) ?_
      refine RQ.y rfl (Y.assign (v := .int .i64 (i5 + 1)) rfl) ?_
      refine RQ.nil ?_
      exact (then_n ⟨g, _, Nat.lt_succ_self _, rfl, ⟨y19, (i5 + 1), s0_1, rfl, rfl, (by omega), T, (by rw [← hrec1]; exact hm)⟩⟩)
def m_spec_ShiftLevels_A1 (z47 : DNet) : Option (DNet × Int) :=
  some (z47, 0)
def m_spec_ShiftLevels_B1 (d1 : Int) (rec1 : Int → DNet → Option (DNet × Int)) (K1 : DNet → Option (DNet × Int)) (i54 : Int) (z55 : DNet) : Option (DNet × Int) :=
  (bif (decide (i54 < (z55.agents.length : Int))) then ((getI z55.agents i54).bind fun x60 => (bif (hasLevel x60.kind) then ((getI z55.agents i54).bind fun x74 => ((ck (x74.level + d1)).bind fun s84 => ((getI z55.agents i54).bind fun x85 => (rec1 (i54 + 1) (⟨(setI z55.agents i54 (⟨x85.kind, s84, x85.value, x85.data, x85.ports⟩ : DAgent))⟩ : DNet))))) else (rec1 (i54 + 1) z55))) else (K1 z55))
def m_spec_ShiftLevels_L1 (d1 : Int) (K1 : DNet → Option (DNet × Int)) : Nat → Int → DNet → Option (DNet × Int)
  | 0, _, _ => none
  | g + 1, i54, z55 => m_spec_ShiftLevels_B1 d1 (m_spec_ShiftLevels_L1 d1 K1 g) K1 i54 z55
def m_spec_ShiftLevels (d0 : DNet) (d1 : Int) : Option (DNet × Int) :=
  ((m_spec_l11Ok d0).bind fun y10 => (bif y10 then (bif (inR d1 0 8) then ((m_spec_l13Highest d0).bind fun y24 => ((ck (y24 + d1)).bind fun s26 => (bif (decide (s26 > 8)) then some ((⟨[]⟩ : DNet), 9) else ((m_spec_l11Own d0).bind fun y30 => (m_spec_ShiftLevels_L1 d1 m_spec_ShiftLevels_A1 (y30.agents.length + 1) 0 y30))))) else some ((⟨[]⟩ : DNet), 2)) else some ((⟨[]⟩ : DNet), 1)))
set_option maxHeartbeats 2000000 in
theorem c_m_spec_ShiftLevels (d0 : DNet) (d1 : Int) (r : DNet × Int) (hm : m_spec_ShiftLevels d0 d1 = some r) (v0 : Value) (w : World) (hv0 : St netRd w v0 d0) :
    Calls Try.prog 28 #[v0, .int .i64 d1] w fun e w' => (∃ (v0 : Value) (bs0 : List Nat), e = .returned (.tuple #[.agg #[v0], .int .i64 r.2]) ∧ OwN 89 agentOw 5 w' w.heap.size v0 r.1.agents bs0) ∧ Below w.heap.size w w' := by
  obtain ⟨csa0, rfl, ⟨A1, n1, c1, rfl, ⟨h1, r1⟩⟩⟩ := hv0
  have e1 := h1.len; subst e1
  have q1 := len_le r1
  have T := Below.refl w.heap.size w
  unfold m_spec_ShiftLevels at hm
  refine enter 46 Try.func28 rfl rfl rfl ?_
  intro f hf
  have s0 : f 0 = .agg #[.slice A1 d0.agents.length c1] := hf 0 _ rfl
  have s1 : f 1 = .int .i64 d1 := hf 1 _ rfl
  refine wp_seq ?_
  refine wp_rl rfl ?_
  refine RL.box rfl s0 (fun w2 B3 hb4 szw2 => ?_)
  replace B3 : Blk w2 w.heap.size 30 #[.slice A1 d0.agents.length c1] := B3
  have GB3 : w.heap.size ≤ w.heap.size := T.size
  have T := Tt T hb4
  refine RL.alloc (z := .agg #[.slice none 0 0]) rfl (by kernel_rfl) (fun w6 B7 hb8 szw6 => ?_)
  replace B7 : Blk w6 w2.heap.size 30 #[.slice none 0 0] := B7
  have GB7 : w.heap.size ≤ w2.heap.size := T.size
  have Eob9_ob5 := Nat.ne_of_lt B3.lt
  have B3 := blkT B3 hb8
  have T := Tt T hb8
  refine RL.y rfl (Y.assign (v := .int .i64 0) rfl) ?_
  refine RL.nil ?_
  refine then_n ?_
  refine wp_seq ?_
  refine wp_seq ?_
  refine wp_rb rfl ?_
  obtain ⟨y10, e11, hm⟩ := bnd hm
  refine RQ.call rfl (am1 rfl) (by kernel_rfl) (v := .bool y10) (bel (K := fun _ => True) fun w' hb' => (c_m_spec_l11Ok d0 _ e11 _ w' (ptBox (R := netRd) (blkT B3 hb') ⟨_, _, _, rfl, ⟨SlAt.now agentRd_ok h1 (Nat.le_refl _) (Tt T hb'), r1⟩⟩))) ?_
  refine RQ.y rfl (Y.not (b' := (!y10)) rfl rfl) ?_
  refine RQ.nil ?_
  intro w12 hb13
  have szw12 := hb13.size
  have B3 := blkT B3 hb13
  have B7 := blkT B7 hb13
  have T := Tt T hb13
  refine then_n ?_
  rcases bcases y10 with c14 | c14
  · replace hm := cF c14 hm
    refine cond_t rfl (vbn rfl c14 rfl) ?_
    refine wp_seq ?_
    refine wp_rl rfl ?_
    refine RL.y rfl (Y.build0 (cells := #[.slice none 0 0])  (by kernel_rfl) (by kernel_rfl)) ?_
    refine RL.store (v := .agg #[.slice none 0 0]) (cs' := #[.slice none 0 0]) rfl rfl rfl B7 (by kernel_rfl) (by rfl) (by rfl) (by rfl) (fun w15 B16 ho17 => ?_)
    have szw15 := ho17.size
    have B3 := B3.only_ ho17 (by intro hin; simp at hin; exact Eob9_ob5 hin)
    have T := T.trans (ho17.below (by first | (simp; done) | (simp; omega)))
    refine RL.y rfl (Y.assign (v := .int .i64 1) rfl) ?_
    refine RL.nil ?_
    refine then_n ?_
    refine wp_ret ?_
    obtain rfl := Option.some.inj hm
    exact (then_r (retct (cs := [.slice none 0 0]) rfl rfl rfl rfl (by kernel_rfl) (blkCells B16) ⟨⟨_, _, rfl, OwN.nil⟩, T⟩))
  · replace hm := cT c14 hm
    refine cond_f rfl (vbn rfl c14 rfl) ?_
    refine wp_skip ?_
    refine then_n ?_
    refine wp_seq ?_
    refine wp_seq ?_
    refine wp_rb rfl ?_
    refine RQ.y rfl (Y.move (v := .int .i64 d1) s1) ?_
    refine RQ.call rfl (am3 rfl rfl rfl) (by kernel_rfl) (v := .bool (inR d1 0 8)) (bel (K := fun _ => True) fun w' hb' => (callB (spec_l00In d1 0 8 w'))) ?_
    refine RQ.y rfl (Y.not (b' := (!(inR d1 0 8))) rfl rfl) ?_
    refine RQ.nil ?_
    intro w18 hb19
    have szw18 := hb19.size
    have B3 := blkT B3 hb19
    have B7 := blkT B7 hb19
    have T := Tt T hb19
    refine then_n ?_
    rcases bcases (inR d1 0 8) with c20 | c20
    · replace hm := cF c20 hm
      refine cond_t rfl (vbn rfl c20 rfl) ?_
      refine wp_seq ?_
      refine wp_rl rfl ?_
      refine RL.y rfl (Y.build0 (cells := #[.slice none 0 0])  (by kernel_rfl) (by kernel_rfl)) ?_
      refine RL.store (v := .agg #[.slice none 0 0]) (cs' := #[.slice none 0 0]) rfl rfl rfl B7 (by kernel_rfl) (by rfl) (by rfl) (by rfl) (fun w21 B22 ho23 => ?_)
      have szw21 := ho23.size
      have B3 := B3.only_ ho23 (by intro hin; simp at hin; exact Eob9_ob5 hin)
      have T := T.trans (ho23.below (by first | (simp; done) | (simp; omega)))
      refine RL.y rfl (Y.assign (v := .int .i64 2) rfl) ?_
      refine RL.nil ?_
      refine then_n ?_
      refine wp_ret ?_
      obtain rfl := Option.some.inj hm
      exact (then_r (retct (cs := [.slice none 0 0]) rfl rfl rfl rfl (by kernel_rfl) (blkCells B22) ⟨⟨_, _, rfl, OwN.nil⟩, T⟩))
    · replace hm := cT c20 hm
      refine cond_f rfl (vbn rfl c20 rfl) ?_
      refine wp_skip ?_
      refine then_n ?_
      refine wp_seq ?_
      refine wp_seq ?_
      refine wp_rb rfl ?_
      obtain ⟨y24, e25, hm⟩ := bnd hm
      refine RQ.call rfl (am1 rfl) (by kernel_rfl) (v := .int .i64 y24) (bel (K := fun _ => True) fun w' hb' => (c_m_spec_l13Highest d0 _ e25 _ w' (ptBox (R := netRd) (blkT B3 hb') ⟨_, _, _, rfl, ⟨SlAt.now agentRd_ok h1 (Nat.le_refl _) (Tt T hb'), r1⟩⟩))) ?_
      refine RQ.y rfl (Y.move (v := .int .i64 d1) s1) ?_
      obtain ⟨s26, ks26, hm⟩ := bnd hm
      replace ks26 := ck_some ks26
      refine RQ.y rfl (Y.binI (v := .int .i64 s26) rfl rfl (by rw [binI_add ks26.2, ks26.1])) ?_
      refine RQ.y rfl (Y.binI (v := .bool (decide (s26 > 8))) rfl rfl rfl) ?_
      refine RQ.nil ?_
      intro w27 hb28
      have szw27 := hb28.size
      have B3 := blkT B3 hb28
      have B7 := blkT B7 hb28
      have T := Tt T hb28
      refine then_n ?_
      rcases bcases (decide (s26 > 8)) with c29 | c29
      · replace hm := cF c29 hm
        have pc29 := of_decide_eq_false c29
        refine cond_f rfl (vb rfl c29) ?_
        refine wp_skip ?_
        refine then_n ?_
        refine wp_seq ?_
        refine wp_rl rfl ?_
        obtain ⟨y30, e31, hm⟩ := bnd hm
        refine RL.call rfl (am1 rfl) (by kernel_rfl) ((c_m_spec_l11Own d0 _ e31 _ _ (ptBox (R := netRd) B3 ⟨_, _, _, rfl, ⟨SlAt.now agentRd_ok h1 (Nat.le_refl _) T, r1⟩⟩)).mono ?_)
        rintro _ w36 ⟨⟨v32, bs35, rfl, G33⟩, hb37⟩
        refine ⟨_, rfl, ?_⟩
        have szw36 := hb37.size
        have T0w36 := T.size
        have Zo34_ob5 : Ap bs35 [w.heap.size] := (Ap.new (OwN.lo_ G33) (one_hi B3.lt))
        have Zo34_ob9 : Ap bs35 [w2.heap.size] := (Ap.new (OwN.lo_ G33) (one_hi B7.lt))
        have B3 := blkT B3 hb37
        have B7 := blkT B7 hb37
        have T := Tt T hb37
        replace G33 := OwN.mono G33 T0w36
        refine RL.alloc (z := .agg #[.slice none 0 0]) rfl (by kernel_rfl) (fun w38 B39 hb40 szw38 => ?_)
        replace B39 : Blk w38 w36.heap.size 30 #[.slice none 0 0] := B39
        have GB39 : w.heap.size ≤ w36.heap.size := T.size
        have Eob41_ob5 := Nat.ne_of_lt B3.lt
        have Eob41_ob9 := Nat.ne_of_lt B7.lt
        have No34_ob41 := Ap.far (OwN.hi G33)
        have B3 := blkT B3 hb40
        have B7 := blkT B7 hb40
        have G33 := OwN.below agentOw_ok G33 hb40
        have T := Tt T hb40
        obtain ⟨A42, c43, rfl⟩ := OwN.form G33
        have qbA42 := OwN.bound G33
        refine RL.store (v := .agg #[.slice A42 y30.agents.length c43]) (cs' := #[.slice A42 y30.agents.length c43]) rfl rfl rfl B39 (by kernel_rfl) (by rfl) (by rfl) (by rfl) (fun w44 B45 ho46 => ?_)
        have szw44 := ho46.size
        have B3 := B3.only_ ho46 (by intro hin; simp at hin; exact Eob41_ob5 hin)
        have B7 := B7.only_ ho46 (by intro hin; simp at hin; exact Eob41_ob9 hin)
        have G33 := OwN.only agentOw_ok G33 ho46 (Ap.one No34_ob41)
        have T := T.trans (ho46.below (by first | (simp; done) | (simp; omega)))
        refine RL.nil ?_
        refine then_n ?_
        refine wp_seq ?_
        refine wp_seq ?_
        refine wp_rs rfl ?_
        refine RQ.y rfl (Y.assign (v := .int .i64 0) rfl) ?_
        refine RQ.nil ?_
        refine then_n ?_
        refine wp_block ?_
        obtain ⟨K1, hK1, hm⟩ : ∃ K, K = m_spec_ShiftLevels_A1 ∧ m_spec_ShiftLevels_L1 d1 K (y30.agents.length + 1) 0 y30 = some r := ⟨_, rfl, hm⟩
        refine wp_loopX (fun g f w' => ∃ (i54 : Int) (z55 : DNet) (uz55_0 : Value) (bsz55_0 : List Nat), f 1 = .int .i64 d1 ∧ f 4 = .pointer (some ⟨w2.heap.size, 0, none⟩) ∧ f 6 = .pointer (some ⟨w36.heap.size, 0, none⟩) ∧ f 7 = .int .i64 i54 ∧ 0 ≤ i54 ∧ Blk w' w36.heap.size 30 #[uz55_0] ∧ OwN 89 agentOw 5 w' w.heap.size uz55_0 z55.agents bsz55_0 ∧ Ap bsz55_0 [w2.heap.size] ∧ Ap bsz55_0 [w36.heap.size] ∧ Blk w' w2.heap.size 30 #[.slice none 0 0] ∧ Below w.heap.size w w' ∧ m_spec_ShiftLevels_L1 d1 K1 g i54 z55 = some r) 0 (fun f w' => ∃ (z47 : DNet) (uz47_0 : Value) (bsz47_0 : List Nat), f 4 = .pointer (some ⟨w2.heap.size, 0, none⟩) ∧ f 6 = .pointer (some ⟨w36.heap.size, 0, none⟩) ∧ Blk w' w36.heap.size 30 #[uz47_0] ∧ OwN 89 agentOw 5 w' w.heap.size uz47_0 z47.agents bsz47_0 ∧ Ap bsz47_0 [w2.heap.size] ∧ Ap bsz47_0 [w36.heap.size] ∧ Blk w' w2.heap.size 30 #[.slice none 0 0] ∧ Below w.heap.size w w' ∧ m_spec_ShiftLevels_A1 z47 = some r) (y30.agents.length + 1) ⟨0, y30, (.slice A42 y30.agents.length c43), bs35, s1, rfl, rfl, rfl, (by omega), B45, G33, Zo34_ob9, No34_ob41, B7, T, hm⟩ ?_ ?_
        · rintro f w48 ⟨z47, uz47_0, bsz47_0, s4_1x, s6_1x, Bz47, Guz47_0, Noz47_0_ob9, Noz47_0_ob41, B7, T, hm⟩
          unfold m_spec_ShiftLevels_A1 at hm
          refine blk_hit (then_n ?_)
          refine wp_seq ?_
          refine wp_rl rfl ?_
          refine RL.y rfl (Y.loadN (cs := [uz47_0]) s6_1x (by kernel_rfl) (cells1 (eqC (blkCell Bz47 (i := 0) rfl)))) ?_
          obtain ⟨A49, c50, rfl⟩ := OwN.form Guz47_0
          have qbA49 := OwN.bound Guz47_0
          refine RL.store (v := .agg #[.slice A49 z47.agents.length c50]) (cs' := #[.slice A49 z47.agents.length c50]) rfl s4_1x rfl B7 (by kernel_rfl) (by rfl) (by rfl) (by rfl) (fun w51 B52 ho53 => ?_)
          have szw51 := ho53.size
          have Bz47 := Bz47.only_ ho53 (by intro hin; simp at hin; exact Eob41_ob9.symm hin)
          have Guz47_0 := OwN.only agentOw_ok Guz47_0 ho53 (Ap.one Noz47_0_ob9)
          have T := T.trans (ho53.below (by first | (simp; done) | (simp; omega)))
          refine RL.y rfl (Y.assign (v := .int .i64 0) rfl) ?_
          refine RL.nil ?_
          refine then_n ?_
          refine wp_ret ?_
          obtain rfl := Option.some.inj hm
          exact (retct (cs := [.slice A49 z47.agents.length c50]) rfl rfl s4_1x rfl (by kernel_rfl) (blkCells B52) ⟨⟨_, _, rfl, Guz47_0⟩, T⟩)
        · rintro g f w56 ⟨i54, z55, uz55_0, bsz55_0, s1_1, s4_1, s6_1, s7_1, nn7_1, Bz55, Guz55_0, Noz55_0_ob9, Noz55_0_ob41, B7, T, hm⟩
          rcases g with _ | g
          · simp only [m_spec_ShiftLevels_L1] at hm; cases hm
          obtain ⟨rec1, hrec1, hm⟩ : ∃ z, z = m_spec_ShiftLevels_L1 d1 K1 g ∧ m_spec_ShiftLevels_B1 d1 z K1 i54 z55 = some r := ⟨_, rfl, hm⟩
          unfold m_spec_ShiftLevels_B1 at hm
          refine wp_seq ?_
          refine wp_seq ?_
          refine wp_rs rfl ?_
          refine RQ.y rfl (Y.move (v := .int .i64 i54) s7_1) ?_
          refine RQ.y rfl (Y.fieldAddr (off := 0) s6_1 (by kernel_rfl)) ?_
          refine RQ.y rfl (Y.load (v := uz55_0) rfl (by kernel_rfl) (eqC (blkCell Bz55 (i := 0) rfl))) ?_
          obtain ⟨A57, c58, rfl⟩ := OwN.form Guz55_0
          have qbA57 := OwN.bound Guz55_0
          refine RQ.y rfl (Y.len (by kernel_rfl) rfl) ?_
          refine RQ.y rfl (Y.binI (v := .bool (decide (i54 < (z55.agents.length : Int)))) rfl rfl rfl) ?_
          refine RQ.nil ?_
          refine then_n ?_
          rcases bcases (decide (i54 < (z55.agents.length : Int))) with c59 | c59
          · replace hm := cF c59 hm
            have pc59 := of_decide_eq_false c59
            refine cond_f rfl (vb rfl c59) ?_
            refine wp_exit ?_
            exact (then_x (then_x (hit_x ⟨_, rfl, ⟨z55, (.slice A57 z55.agents.length c58), bsz55_0, s4_1, s6_1, Bz55, Guz55_0, Noz55_0_ob9, Noz55_0_ob41, B7, T, (by rw [hK1] at hm; exact hm)⟩⟩)))
          · replace hm := cT c59 hm
            have pc59 := of_decide_eq_true c59
            refine cond_t rfl (vb rfl c59) ?_
            refine wp_skip ?_
            refine then_n ?_
            refine wp_seq ?_
            refine wp_block ?_
            refine wp_seq ?_
            refine wp_rb rfl ?_
            refine RQ.y rfl (Y.fieldAddr (off := 0) s6_1 (by kernel_rfl)) ?_
            refine RQ.y rfl (Y.load (v := .slice A57 z55.agents.length c58) rfl (by kernel_rfl) (beC (blkCell Bz55 (i := 0) rfl))) ?_
            refine RQ.y rfl (Y.move (v := .int .i64 i54) s7_1) ?_
            obtain ⟨x60, hx62, hm⟩ := bnd hm
            obtain ⟨k61, hk63, hl64, hx62⟩ := getI_some hx62
            obtain ⟨b65, rfl⟩ := OwN.addr0 Guz55_0 (by omega)
            refine RQ.y rfl (Y.indexAddr (m := k61) (sz := 5) rfl rfl hk63 hl64 (by kernel_rfl)) ?_
            refine RQ.y rfl (Y.fieldAddr (off := 0) rfl (by kernel_rfl)) ?_
            obtain ⟨cs66, hR67, hc68⟩ := OwN.rd agentOw_ok (agentOw_reads _) Guz55_0 hx62
            obtain ⟨A69, n69, c69, A70, n70, c70, rfl, ⟨h69, r69⟩, ⟨h70, r70⟩⟩ := hR67
            have e69 := h69.len; subst e69
            have q69 := len_le r69
            have e70 := h70.len; subst e70
            have q70 := len_le r70
            refine RQ.y rfl (Y.load (v := .int .i64 x60.kind) rfl (by kernel_rfl) (beC (hc68 0 _ rfl))) ?_
            refine RQ.call rfl (am1 rfl) (by kernel_rfl) (v := .bool (hasLevel x60.kind)) (bel (K := fun _ => True) fun w' hb' => (callB (spec_HasLevel x60.kind w'))) ?_
            refine RQ.nil ?_
            intro w71 hb72
            have szw71 := hb72.size
            have B7 := blkT B7 hb72
            have Bz55 := blkT Bz55 hb72
            have Guz55_0 := OwN.below agentOw_ok Guz55_0 hb72
            have T := Tt T hb72
            refine then_n ?_
            rcases bcases (hasLevel x60.kind) with c73 | c73
            · replace hm := cF c73 hm
              refine cond_f rfl (vb rfl c73) ?_
              refine wp_skip ?_
              refine blk_n (then_n ?_)
              refine wp_rs rfl ?_
              refine RQ.y rfl (Y.move (v := .int .i64 i54) s7_1) ?_
              refine RQ.y rfl (Y.binI rfl rfl (binI_add (m := i54) (by omega))) ?_
              refine RQ.y rfl (Y.assign (v := .int .i64 (i54 + 1)) rfl) ?_
              refine RQ.nil ?_
              exact (then_n ⟨g, _, Nat.lt_succ_self _, rfl, ⟨(i54 + 1), z55, (.slice (some ⟨b65, 0, none⟩) z55.agents.length c58), bsz55_0, s1_1, s4_1, s6_1, rfl, (by omega), Bz55, Guz55_0, Noz55_0_ob9, Noz55_0_ob41, B7, T, (by rw [← hrec1]; exact hm)⟩⟩)
            · replace hm := cT c73 hm
              refine cond_t rfl (vb rfl c73) ?_
              refine wp_rl rfl ?_
              refine RL.y rfl (Y.fieldAddr (off := 0) s6_1 (by kernel_rfl)) ?_
              refine RL.y rfl (Y.load (v := .slice (some ⟨b65, 0, none⟩) z55.agents.length c58) rfl (by kernel_rfl) (eqC (blkCell Bz55 (i := 0) rfl))) ?_
              refine RL.y rfl (Y.move (v := .int .i64 i54) s7_1) ?_
              obtain ⟨x74, hx76, hm⟩ := bnd hm
              obtain ⟨k75, hk77, hl78, hx76⟩ := getI_some hx76
              refine RL.y rfl (Y.indexAddr (m := k75) (sz := 5) rfl rfl hk77 hl78 (by kernel_rfl)) ?_
              refine RL.y rfl (Y.fieldAddr (off := 1) rfl (by kernel_rfl)) ?_
              obtain ⟨cs79, hR80, hc81⟩ := OwN.rd agentOw_ok (agentOw_reads _) Guz55_0 hx76
              obtain ⟨A82, n82, c82, A83, n83, c83, rfl, ⟨h82, r82⟩, ⟨h83, r83⟩⟩ := hR80
              have e82 := h82.len; subst e82
              have q82 := len_le r82
              have e83 := h83.len; subst e83
              have q83 := len_le r83
              refine RL.y rfl (Y.load (v := .int .i64 x74.level) rfl (by kernel_rfl) (eqC (hc81 1 _ rfl))) ?_
              refine RL.y rfl (Y.move (v := .int .i64 d1) s1_1) ?_
              obtain ⟨s84, ks84, hm⟩ := bnd hm
              replace ks84 := ck_some ks84
              refine RL.y rfl (Y.binI (v := .int .i64 s84) rfl rfl (by rw [binI_add ks84.2, ks84.1])) ?_
              obtain ⟨x85, hx87, hm⟩ := bnd hm
              obtain ⟨k86, hk88, hl89, hx87⟩ := getI_some hx87
              refine RL.y rfl (Y.indexAddr (m := k86) (sz := 5) rfl rfl hk88 hl89 (by kernel_rfl)) ?_
              refine RL.y rfl (Y.fieldAddr (off := 1) rfl (by kernel_rfl)) ?_
              refine RL.storeN (k := k86) (j := 1) (a := x85) (a' := (⟨x85.kind, s84, x85.value, x85.data, x85.ports⟩ : DAgent)) agentOw_ok rfl rfl rfl Guz55_0 hx87 (by decide) (fun ⟨A0, n0, c0, A1, n1, c1, b0, b1, e, h⟩ => ⟨A0, n0, c0, A1, n1, c1, b0, b1, by rw [e]; rfl, h⟩) rfl rfl (by kernel_rfl) (fun w90 G91 ho92 => ?_)
              have szw90 := ho92.size
              have B7 := Blk.only_ B7 ho92 (by intro hin; have hne := OwN.neB Guz55_0 Noz55_0_ob9; simp at hin; exact hne (by rw [hin]; rfl))
              have Bz55 := Blk.only_ Bz55 ho92 (by intro hin; have hne := OwN.neB Guz55_0 Noz55_0_ob41; simp at hin; exact hne (by rw [hin]; rfl))
              have T := T.trans (ho92.below (by intro b hb; simp at hb; subst hb; exact OwN.lo_ Guz55_0 _ (OwN.row Guz55_0 rfl)))
              have G91 : OwN 89 agentOw 5 w90 w.heap.size (.slice (some ⟨b65, 0, none⟩) z55.agents.length c58) (setI z55.agents i54 (⟨x85.kind, s84, x85.value, x85.data, x85.ports⟩ : DAgent)) bsz55_0 := by rw [hk88, setI_nat]; exact G91
              have hx93 : (setI z55.agents i54 (⟨x85.kind, s84, x85.value, x85.data, x85.ports⟩ : DAgent))[k86]? = some (⟨x85.kind, s84, x85.value, x85.data, x85.ports⟩ : DAgent) := setI_at hk88 hl89
              have hl94 := lt_of_some hx93
              refine RL.nil ?_
              refine blk_n (then_n ?_)
              refine wp_rs rfl ?_
              refine RQ.y rfl (Y.move (v := .int .i64 i54) s7_1) ?_
              refine RQ.y rfl (Y.binI rfl rfl (binI_add (m := i54) (by omega))) ?_
              refine RQ.y rfl (Y.assign (v := .int .i64 (i54 + 1)) rfl) ?_
              refine RQ.nil ?_
              exact (then_n ⟨g, _, Nat.lt_succ_self _, rfl, ⟨(i54 + 1), (⟨(setI z55.agents i54 (⟨x85.kind, s84, x85.value, x85.data, x85.ports⟩ : DAgent))⟩ : DNet), (.slice (some ⟨b65, 0, none⟩) z55.agents.length c58), bsz55_0, s1_1, s4_1, s6_1, rfl, (by omega), Bz55, G91, Noz55_0_ob9, Noz55_0_ob41, B7, T, (by rw [← hrec1]; exact hm)⟩⟩)
      · replace hm := cT c29 hm
        have pc29 := of_decide_eq_true c29
        refine cond_t rfl (vb rfl c29) ?_
        refine wp_seq ?_
        refine wp_rl rfl ?_
        refine RL.y rfl (Y.build0 (cells := #[.slice none 0 0])  (by kernel_rfl) (by kernel_rfl)) ?_
        refine RL.store (v := .agg #[.slice none 0 0]) (cs' := #[.slice none 0 0]) rfl rfl rfl B7 (by kernel_rfl) (by rfl) (by rfl) (by rfl) (fun w96 B97 ho98 => ?_)
        have szw96 := ho98.size
        have B3 := B3.only_ ho98 (by intro hin; simp at hin; exact Eob9_ob5 hin)
        have T := T.trans (ho98.below (by first | (simp; done) | (simp; omega)))
        refine RL.y rfl (Y.assign (v := .int .i64 9) rfl) ?_
        refine RL.nil ?_
        refine then_n ?_
        refine wp_ret ?_
        obtain rfl := Option.some.inj hm
        exact (then_r (retct (cs := [.slice none 0 0]) rfl rfl rfl rfl (by kernel_rfl) (blkCells B97) ⟨⟨_, _, rfl, OwN.nil⟩, T⟩))
def m_slices_Clone_int64_int64 (d0 : List Int) : Option (List Int) :=
  ((mustP (([] : List Int).length + d0.length ≤ 4294967296)).bind fun _ => some (([] : List Int) ++ d0))
set_option maxHeartbeats 2000000 in
theorem c_m_slices_Clone_int64_int64 (d0 : List Int) (r : List Int) (hm : m_slices_Clone_int64_int64 d0 = some r) (v0 : Value) (w : World) (hv0 : Sl intRd 1 w v0 d0) :
    Calls Try.prog 171 #[v0] w fun e w' => (∃ (v0 : Value), e = .returned (v0) ∧ OwF 2 encI 1 w' w.heap.size v0 r) ∧ Below w.heap.size w w' := by
  obtain ⟨Aa0, na0, ca0, rfl, ha0, ra0⟩ := hv0
  have ea0 := ha0.len; subst ea0
  have qa0 := len_le ra0
  have T := Below.refl w.heap.size w
  unfold m_slices_Clone_int64_int64 at hm
  refine enter 8 Try.func171 rfl rfl rfl ?_
  intro f hf
  have s0 : f 0 = .slice Aa0 d0.length ca0 := hf 0 _ rfl
  refine wp_seq ?_
  refine wp_rs rfl ?_
  refine RQ.y rfl (Y.assign (v := .slice none 0 0) rfl) ?_
  refine RQ.nil ?_
  refine then_n ?_
  refine wp_seq ?_
  refine wp_seq ?_
  refine wp_rs rfl ?_
  refine RQ.y rfl (Y.move (v := .slice Aa0 d0.length ca0) s0) ?_
  refine RQ.y rfl (Y.eqNil (e := 2) rfl rfl (by kernel_rfl)) ?_
  refine RQ.nil ?_
  refine then_n ?_
  rcases bcases Aa0.isNone with c1 | c1
  · refine cond_f rfl (vb rfl c1) ?_
    refine wp_skip ?_
    refine then_n ?_
    refine wp_seq ?_
    refine wp_rl rfl ?_
    refine RL.bslice (e := 2) (cells := #[]) rfl pm0 (by kernel_rfl) (fun w2 B3 hb4 szw2 => ?_)
    have ZB3 : w.heap.size ≤ w.heap.size := T.size
    have T := Tt T hb4
    have G6 := OwF.lit (enc := encI) (sz := 1) (xs := ([] : List Int)) B3 ZB3 rfl rfl rfl rfl
    refine RL.y rfl (Y.move (v := .slice Aa0 d0.length ca0) s0) ?_
    obtain ⟨_, m8, hm⟩ := bnd hm
    have hk9 := mustP_some m8
    refine RL.append fI app_int64 rfl rfl rfl G6 (slArg intRd_ok ha0 ra0 T) T.size hk9 (fun v10 w11 G12 hgr13 hbl14 hnb15 => ?_)
    have szw11 := hbl14.size
    have T := T.trans hbl14
    refine RL.y rfl (Y.assign (v := v10) rfl) ?_
    refine RL.nil ?_
    refine then_n ?_
    refine wp_ret ?_
    obtain rfl := Option.some.inj hm
    exact (ret1 rfl rfl rfl ⟨⟨_, rfl, G12⟩, T⟩)
  · have hd17 := SlAt.nilOf ha0 c1
    replace hm : some ([]) = some r := by rw [hd17] at hm; simpa [mustP] using hm
    refine cond_t rfl (vb rfl c1) ?_
    refine wp_seq ?_
    refine wp_rs rfl ?_
    refine RQ.y rfl (Y.assign (v := .slice none 0 0) rfl) ?_
    refine RQ.nil ?_
    refine then_n ?_
    refine wp_ret ?_
    obtain rfl := Option.some.inj hm
    exact (then_r (ret1 rfl rfl rfl ⟨⟨_, rfl, OwF.nil⟩, T⟩))
def m_slices_Clone_impl_Port_impl_Port (d0 : List DPort) : Option (List DPort) :=
  ((mustP (([] : List DPort).length + d0.length ≤ 4294967296)).bind fun _ => some (([] : List DPort) ++ d0))
set_option maxHeartbeats 2000000 in
theorem c_m_slices_Clone_impl_Port_impl_Port (d0 : List DPort) (r : List DPort) (hm : m_slices_Clone_impl_Port_impl_Port d0 = some r) (v0 : Value) (w : World) (hv0 : Sl portRd 2 w v0 d0) :
    Calls Try.prog 172 #[v0] w fun e w' => (∃ (v0 : Value), e = .returned (v0) ∧ OwF 53 encPort 2 w' w.heap.size v0 r) ∧ Below w.heap.size w w' := by
  obtain ⟨Aa0, na0, ca0, rfl, ha0, ra0⟩ := hv0
  have ea0 := ha0.len; subst ea0
  have qa0 := len_le ra0
  have T := Below.refl w.heap.size w
  unfold m_slices_Clone_impl_Port_impl_Port at hm
  refine enter 8 Try.func172 rfl rfl rfl ?_
  intro f hf
  have s0 : f 0 = .slice Aa0 d0.length ca0 := hf 0 _ rfl
  refine wp_seq ?_
  refine wp_rs rfl ?_
  refine RQ.y rfl (Y.assign (v := .slice none 0 0) rfl) ?_
  refine RQ.nil ?_
  refine then_n ?_
  refine wp_seq ?_
  refine wp_seq ?_
  refine wp_rs rfl ?_
  refine RQ.y rfl (Y.move (v := .slice Aa0 d0.length ca0) s0) ?_
  refine RQ.y rfl (Y.eqNil (e := 53) rfl rfl (by kernel_rfl)) ?_
  refine RQ.nil ?_
  refine then_n ?_
  rcases bcases Aa0.isNone with c1 | c1
  · refine cond_f rfl (vb rfl c1) ?_
    refine wp_skip ?_
    refine then_n ?_
    refine wp_seq ?_
    refine wp_rl rfl ?_
    refine RL.bslice (e := 53) (cells := #[]) rfl pm0 (by kernel_rfl) (fun w2 B3 hb4 szw2 => ?_)
    have ZB3 : w.heap.size ≤ w.heap.size := T.size
    have T := Tt T hb4
    have G6 := OwF.lit (enc := encPort) (sz := 2) (xs := ([] : List DPort)) B3 ZB3 rfl rfl rfl rfl
    refine RL.y rfl (Y.move (v := .slice Aa0 d0.length ca0) s0) ?_
    obtain ⟨_, m8, hm⟩ := bnd hm
    have hk9 := mustP_some m8
    refine RL.append fPort app_impl_Port rfl rfl rfl G6 (slArg portRd_ok ha0 ra0 T) T.size hk9 (fun v10 w11 G12 hgr13 hbl14 hnb15 => ?_)
    have szw11 := hbl14.size
    have T := T.trans hbl14
    refine RL.y rfl (Y.assign (v := v10) rfl) ?_
    refine RL.nil ?_
    refine then_n ?_
    refine wp_ret ?_
    obtain rfl := Option.some.inj hm
    exact (ret1 rfl rfl rfl ⟨⟨_, rfl, G12⟩, T⟩)
  · have hd17 := SlAt.nilOf ha0 c1
    replace hm : some ([]) = some r := by rw [hd17] at hm; simpa [mustP] using hm
    refine cond_t rfl (vb rfl c1) ?_
    refine wp_seq ?_
    refine wp_rs rfl ?_
    refine RQ.y rfl (Y.assign (v := .slice none 0 0) rfl) ?_
    refine RQ.nil ?_
    refine then_n ?_
    refine wp_ret ?_
    obtain rfl := Option.some.inj hm
    exact (then_r (ret1 rfl rfl rfl ⟨⟨_, rfl, OwF.nil⟩, T⟩))
def m_impl_copyAgent (d0 : DAgent) : Option DAgent :=
  ((m_slices_Clone_int64_int64 d0.data).bind fun y13 => ((m_slices_Clone_impl_Port_impl_Port d0.ports).bind fun y20 => some (⟨d0.kind, d0.level, d0.value, y13, y20⟩ : DAgent)))
set_option maxHeartbeats 2000000 in
theorem c_m_impl_copyAgent (d0 : DAgent) (r : DAgent) (hm : m_impl_copyAgent d0 = some r) (v0 : Value) (w : World) (hv0 : St agentRd w v0 d0) :
    Calls Try.prog 136 #[v0] w fun e w' => (∃ (v0 : Value) (v1 : Value), e = .returned (.agg #[.int .i64 r.kind, .int .i64 r.level, .int .i64 r.value, v0, v1]) ∧ OwF 2 encI 1 w' w.heap.size v0 r.data ∧ OwF 53 encPort 2 w' w.heap.size v1 r.ports ∧ Dj v0 v1) ∧ Below w.heap.size w w' := by
  obtain ⟨csa0, rfl, ⟨A1, n1, c1, A2, n2, c2, rfl, ⟨h1, r1⟩, ⟨h2, r2⟩⟩⟩ := hv0
  have e1 := h1.len; subst e1
  have q1 := len_le r1
  have e2 := h2.len; subst e2
  have q2 := len_le r2
  have T := Below.refl w.heap.size w
  unfold m_impl_copyAgent at hm
  refine enter 12 Try.func136 rfl rfl rfl ?_
  intro f hf
  have s0 : f 0 = .agg #[.int .i64 d0.kind, .int .i64 d0.level, .int .i64 d0.value, .slice A1 d0.data.length c1, .slice A2 d0.ports.length c2] := hf 0 _ rfl
  refine wp_seq ?_
  refine wp_rl rfl ?_
  refine RL.box rfl s0 (fun w3 B4 hb5 szw3 => ?_)
  replace B4 : Blk w3 w.heap.size 89 #[.int .i64 d0.kind, .int .i64 d0.level, .int .i64 d0.value, .slice A1 d0.data.length c1, .slice A2 d0.ports.length c2] := B4
  have GB4 : w.heap.size ≤ w.heap.size := T.size
  have T := Tt T hb5
  refine RL.alloc (z := .agg #[.int .i64 0, .int .i64 0, .int .i64 0, .slice none 0 0, .slice none 0 0]) rfl (by kernel_rfl) (fun w7 B8 hb9 szw7 => ?_)
  replace B8 : Blk w7 w3.heap.size 89 #[.int .i64 0, .int .i64 0, .int .i64 0, .slice none 0 0, .slice none 0 0] := B8
  have GB8 : w.heap.size ≤ w3.heap.size := T.size
  have Eob10_ob6 := Nat.ne_of_lt B4.lt
  have B4 := blkT B4 hb9
  have T := Tt T hb9
  refine RL.nil ?_
  refine then_n ?_
  refine wp_seq ?_
  refine wp_rgt (fun w' => Below w.heap.size w w') (.q 0 (.q 3 (.two 1 (.two 2 (.a 4 (.q 6 (.a 5 (.a 7 (.q 8 (.a 9 .nil)))))) 4 (.a 2 (.q 6 (.a 5 (.a 7 (.q 8 (.a 9 .nil))))))) 4 (.a 1 (.a 2 (.q 6 (.a 5 (.a 7 (.q 8 (.a 9 .nil)))))))))) (by kernel_rfl) (by kernel_rfl) (fun w11 hb12 szw11 => ?_)
  have B4 := blkT B4 hb12
  have B8 := blkT B8 hb12
  have T := Tt T hb12
  refine ⟨T, ?_⟩
  refine RT.y rfl rfl (Y.fieldAddr (off := 3) rfl (by kernel_rfl)) ?_
  refine RT.y rfl rfl (Y.fieldAddr (off := 4) rfl (by kernel_rfl)) ?_
  refine RT.both rfl rfl ?_ ?_
  · refine RL.y rfl (Y.load (v := .slice A1 d0.data.length c1) rfl (by kernel_rfl) (eqC (blkCell B4 (i := 3) rfl))) ?_
    refine RL.nil ⟨T, ?_⟩
    refine RT.both rfl rfl ?_ ?_
    · obtain ⟨y13, e14, hm⟩ := bnd hm
      refine RL.call rfl (am1 rfl) (by kernel_rfl) ((c_m_slices_Clone_int64_int64 d0.data _ e14 _ _ (slArg intRd_ok h1 r1 T)).mono ?_)
      rintro _ w18 ⟨⟨v15, rfl, G16⟩, hb19⟩
      refine ⟨_, rfl, ?_⟩
      have szw18 := hb19.size
      have T0w18 := T.size
      have Zo17_ob6 := ap_ne (Ap.new (OwF.flo G16) (one_hi B4.lt))
      have Zo17_ob10 := ap_ne (Ap.new (OwF.flo G16) (one_hi B8.lt))
      have B4 := blkT B4 hb19
      have B8 := blkT B8 hb19
      have T := Tt T hb19
      replace G16 := OwF.mono G16 T0w18
      refine RL.nil ⟨T, ?_⟩
      refine RT.act rfl ?_
      refine RL.y rfl (Y.load (v := .slice A2 d0.ports.length c2) rfl (by kernel_rfl) (eqC (blkCell B4 (i := 4) rfl))) ?_
      refine RL.nil ⟨T, ?_⟩
      refine RT.y rfl rfl (Y.fieldAddr (off := 3) rfl (by kernel_rfl)) ?_
      refine RT.act rfl ?_
      obtain ⟨y20, e21, hm⟩ := bnd hm
      refine RL.call rfl (am1 rfl) (by kernel_rfl) ((c_m_slices_Clone_impl_Port_impl_Port d0.ports _ e21 _ _ (slArg portRd_ok h2 r2 T)).mono ?_)
      rintro _ w25 ⟨⟨v22, rfl, G23⟩, hb26⟩
      refine ⟨_, rfl, ?_⟩
      have szw25 := hb26.size
      have T0w25 := T.size
      have Zo24_ob6 := ap_ne (Ap.new (OwF.flo G23) (one_hi B4.lt))
      have Zo24_ob10 := ap_ne (Ap.new (OwF.flo G23) (one_hi B8.lt))
      have Zo24_o17 := Ap.dj (Ap.new (OwF.flo G23) (OwF.fhi G16))
      have B4 := blkT B4 hb26
      have B8 := blkT B8 hb26
      have G16 := OwF.below G16 hb26
      have T := Tt T hb26
      replace G23 := OwF.mono G23 T0w25
      refine RL.nil ⟨T, ?_⟩
      refine RT.act rfl ?_
      obtain ⟨A27, c28, rfl⟩ := OwF.form G16
      have qbA27 := OwF.bound G16
      refine RL.store (v := .slice A27 y13.length c28) (cs' := #[.int .i64 d0.kind, .int .i64 d0.level, .int .i64 d0.value, .slice A27 y13.length c28, .slice A2 d0.ports.length c2]) rfl rfl rfl B4 (by kernel_rfl) (by rfl) (by rfl) (by rfl) (fun w29 B30 ho31 => ?_)
      have szw29 := ho31.size
      have B8 := B8.only_ ho31 (by intro hin; simp at hin; exact Eob10_ob6.symm hin)
      have G16 := OwF.only G16 ho31 Zo17_ob6
      have G23 := OwF.only G23 ho31 Zo24_ob6
      have T := T.trans (ho31.below (by first | (simp; done) | (simp; omega)))
      refine RL.nil ⟨T, ?_⟩
      refine RT.y rfl rfl (Y.fieldAddr (off := 4) rfl (by kernel_rfl)) ?_
      refine RT.act rfl ?_
      obtain ⟨A32, c33, rfl⟩ := OwF.form G23
      have qbA32 := OwF.bound G23
      refine RL.store (v := .slice A32 y20.length c33) (cs' := #[.int .i64 d0.kind, .int .i64 d0.level, .int .i64 d0.value, .slice A27 y13.length c28, .slice A32 y20.length c33]) rfl rfl rfl B30 (by kernel_rfl) (by rfl) (by rfl) (by rfl) (fun w34 B35 ho36 => ?_)
      have szw34 := ho36.size
      have B8 := B8.only_ ho36 (by intro hin; simp at hin; exact Eob10_ob6.symm hin)
      have G16 := OwF.only G16 ho36 Zo17_ob6
      have G23 := OwF.only G23 ho36 Zo24_ob6
      have T := T.trans (ho36.below (by first | (simp; done) | (simp; omega)))
      refine RL.nil ⟨T, ?_⟩
      refine RT.nil_ ?_
      refine then_n ?_
      refine wp_seq ?_
      refine wp_rl rfl ?_
      refine RL.y rfl (Y.loadN (cs := [.int .i64 d0.kind, .int .i64 d0.level, .int .i64 d0.value, .slice A27 y13.length c28, .slice A32 y20.length c33]) rfl (by kernel_rfl) (cells5 (eqC (blkCell B35 (i := 0) rfl)) (eqC (blkCell B35 (i := 1) rfl)) (eqC (blkCell B35 (i := 2) rfl)) (eqC (blkCell B35 (i := 3) rfl)) (eqC (blkCell B35 (i := 4) rfl)))) ?_
      refine RL.store (v := .agg #[.int .i64 d0.kind, .int .i64 d0.level, .int .i64 d0.value, .slice A27 y13.length c28, .slice A32 y20.length c33]) (cs' := #[.int .i64 d0.kind, .int .i64 d0.level, .int .i64 d0.value, .slice A27 y13.length c28, .slice A32 y20.length c33]) rfl rfl rfl B8 (by kernel_rfl) (by rfl) (by rfl) (by rfl) (fun w37 B38 ho39 => ?_)
      have szw37 := ho39.size
      have B35 := B35.only_ ho39 (by intro hin; simp at hin; exact Eob10_ob6 hin)
      have G16 := OwF.only G16 ho39 Zo17_ob10
      have G23 := OwF.only G23 ho39 Zo24_ob10
      have T := T.trans (ho39.below (by first | (simp; done) | (simp; omega)))
      refine RL.nil ?_
      refine then_n ?_
      refine wp_ret ?_
      obtain rfl := Option.some.inj hm
      exact (retc (cs := [.int .i64 d0.kind, .int .i64 d0.level, .int .i64 d0.value, .slice A27 y13.length c28, .slice A32 y20.length c33]) rfl rfl rfl (by kernel_rfl) (blkCells B38) ⟨⟨_, _, rfl, G16, G23, (Ap.dj (Ap.symm (Dj.ap Zo24_o17)))⟩, T⟩)
    · refine RL.y rfl (Y.load (v := .slice A2 d0.ports.length c2) rfl (by kernel_rfl) (eqC (blkCell B4 (i := 4) rfl))) ?_
      refine RL.nil ⟨T, ?_⟩
      refine RT.act rfl ?_
      obtain ⟨y40, e41, hm⟩ := bnd hm
      refine RL.call rfl (am1 rfl) (by kernel_rfl) ((c_m_slices_Clone_int64_int64 d0.data _ e41 _ _ (slArg intRd_ok h1 r1 T)).mono ?_)
      rintro _ w45 ⟨⟨v42, rfl, G43⟩, hb46⟩
      refine ⟨_, rfl, ?_⟩
      have szw45 := hb46.size
      have T0w45 := T.size
      have Zo44_ob6 := ap_ne (Ap.new (OwF.flo G43) (one_hi B4.lt))
      have Zo44_ob10 := ap_ne (Ap.new (OwF.flo G43) (one_hi B8.lt))
      have B4 := blkT B4 hb46
      have B8 := blkT B8 hb46
      have T := Tt T hb46
      replace G43 := OwF.mono G43 T0w45
      refine RL.nil ⟨T, ?_⟩
      refine RT.y rfl rfl (Y.fieldAddr (off := 3) rfl (by kernel_rfl)) ?_
      refine RT.act rfl ?_
      obtain ⟨y47, e48, hm⟩ := bnd hm
      refine RL.call rfl (am1 rfl) (by kernel_rfl) ((c_m_slices_Clone_impl_Port_impl_Port d0.ports _ e48 _ _ (slArg portRd_ok h2 r2 T)).mono ?_)
      rintro _ w52 ⟨⟨v49, rfl, G50⟩, hb53⟩
      refine ⟨_, rfl, ?_⟩
      have szw52 := hb53.size
      have T0w52 := T.size
      have Zo51_ob6 := ap_ne (Ap.new (OwF.flo G50) (one_hi B4.lt))
      have Zo51_ob10 := ap_ne (Ap.new (OwF.flo G50) (one_hi B8.lt))
      have Zo51_o44 := Ap.dj (Ap.new (OwF.flo G50) (OwF.fhi G43))
      have B4 := blkT B4 hb53
      have B8 := blkT B8 hb53
      have G43 := OwF.below G43 hb53
      have T := Tt T hb53
      replace G50 := OwF.mono G50 T0w52
      refine RL.nil ⟨T, ?_⟩
      refine RT.act rfl ?_
      obtain ⟨A54, c55, rfl⟩ := OwF.form G43
      have qbA54 := OwF.bound G43
      refine RL.store (v := .slice A54 y40.length c55) (cs' := #[.int .i64 d0.kind, .int .i64 d0.level, .int .i64 d0.value, .slice A54 y40.length c55, .slice A2 d0.ports.length c2]) rfl rfl rfl B4 (by kernel_rfl) (by rfl) (by rfl) (by rfl) (fun w56 B57 ho58 => ?_)
      have szw56 := ho58.size
      have B8 := B8.only_ ho58 (by intro hin; simp at hin; exact Eob10_ob6.symm hin)
      have G43 := OwF.only G43 ho58 Zo44_ob6
      have G50 := OwF.only G50 ho58 Zo51_ob6
      have T := T.trans (ho58.below (by first | (simp; done) | (simp; omega)))
      refine RL.nil ⟨T, ?_⟩
      refine RT.y rfl rfl (Y.fieldAddr (off := 4) rfl (by kernel_rfl)) ?_
      refine RT.act rfl ?_
      obtain ⟨A59, c60, rfl⟩ := OwF.form G50
      have qbA59 := OwF.bound G50
      refine RL.store (v := .slice A59 y47.length c60) (cs' := #[.int .i64 d0.kind, .int .i64 d0.level, .int .i64 d0.value, .slice A54 y40.length c55, .slice A59 y47.length c60]) rfl rfl rfl B57 (by kernel_rfl) (by rfl) (by rfl) (by rfl) (fun w61 B62 ho63 => ?_)
      have szw61 := ho63.size
      have B8 := B8.only_ ho63 (by intro hin; simp at hin; exact Eob10_ob6.symm hin)
      have G43 := OwF.only G43 ho63 Zo44_ob6
      have G50 := OwF.only G50 ho63 Zo51_ob6
      have T := T.trans (ho63.below (by first | (simp; done) | (simp; omega)))
      refine RL.nil ⟨T, ?_⟩
      refine RT.nil_ ?_
      refine then_n ?_
      refine wp_seq ?_
      refine wp_rl rfl ?_
      refine RL.y rfl (Y.loadN (cs := [.int .i64 d0.kind, .int .i64 d0.level, .int .i64 d0.value, .slice A54 y40.length c55, .slice A59 y47.length c60]) rfl (by kernel_rfl) (cells5 (eqC (blkCell B62 (i := 0) rfl)) (eqC (blkCell B62 (i := 1) rfl)) (eqC (blkCell B62 (i := 2) rfl)) (eqC (blkCell B62 (i := 3) rfl)) (eqC (blkCell B62 (i := 4) rfl)))) ?_
      refine RL.store (v := .agg #[.int .i64 d0.kind, .int .i64 d0.level, .int .i64 d0.value, .slice A54 y40.length c55, .slice A59 y47.length c60]) (cs' := #[.int .i64 d0.kind, .int .i64 d0.level, .int .i64 d0.value, .slice A54 y40.length c55, .slice A59 y47.length c60]) rfl rfl rfl B8 (by kernel_rfl) (by rfl) (by rfl) (by rfl) (fun w64 B65 ho66 => ?_)
      have szw64 := ho66.size
      have B62 := B62.only_ ho66 (by intro hin; simp at hin; exact Eob10_ob6 hin)
      have G43 := OwF.only G43 ho66 Zo44_ob10
      have G50 := OwF.only G50 ho66 Zo51_ob10
      have T := T.trans (ho66.below (by first | (simp; done) | (simp; omega)))
      refine RL.nil ?_
      refine then_n ?_
      refine wp_ret ?_
      obtain rfl := Option.some.inj hm
      exact (retc (cs := [.int .i64 d0.kind, .int .i64 d0.level, .int .i64 d0.value, .slice A54 y40.length c55, .slice A59 y47.length c60]) rfl rfl rfl (by kernel_rfl) (blkCells B65) ⟨⟨_, _, rfl, G43, G50, (Ap.dj (Ap.symm (Dj.ap Zo51_o44)))⟩, T⟩)
  · refine RL.y rfl (Y.load (v := .slice A2 d0.ports.length c2) rfl (by kernel_rfl) (eqC (blkCell B4 (i := 4) rfl))) ?_
    refine RL.nil ⟨T, ?_⟩
    refine RT.act rfl ?_
    refine RL.y rfl (Y.load (v := .slice A1 d0.data.length c1) rfl (by kernel_rfl) (eqC (blkCell B4 (i := 3) rfl))) ?_
    refine RL.nil ⟨T, ?_⟩
    refine RT.act rfl ?_
    obtain ⟨y67, e68, hm⟩ := bnd hm
    refine RL.call rfl (am1 rfl) (by kernel_rfl) ((c_m_slices_Clone_int64_int64 d0.data _ e68 _ _ (slArg intRd_ok h1 r1 T)).mono ?_)
    rintro _ w72 ⟨⟨v69, rfl, G70⟩, hb73⟩
    refine ⟨_, rfl, ?_⟩
    have szw72 := hb73.size
    have T0w72 := T.size
    have Zo71_ob6 := ap_ne (Ap.new (OwF.flo G70) (one_hi B4.lt))
    have Zo71_ob10 := ap_ne (Ap.new (OwF.flo G70) (one_hi B8.lt))
    have B4 := blkT B4 hb73
    have B8 := blkT B8 hb73
    have T := Tt T hb73
    replace G70 := OwF.mono G70 T0w72
    refine RL.nil ⟨T, ?_⟩
    refine RT.y rfl rfl (Y.fieldAddr (off := 3) rfl (by kernel_rfl)) ?_
    refine RT.act rfl ?_
    obtain ⟨y74, e75, hm⟩ := bnd hm
    refine RL.call rfl (am1 rfl) (by kernel_rfl) ((c_m_slices_Clone_impl_Port_impl_Port d0.ports _ e75 _ _ (slArg portRd_ok h2 r2 T)).mono ?_)
    rintro _ w79 ⟨⟨v76, rfl, G77⟩, hb80⟩
    refine ⟨_, rfl, ?_⟩
    have szw79 := hb80.size
    have T0w79 := T.size
    have Zo78_ob6 := ap_ne (Ap.new (OwF.flo G77) (one_hi B4.lt))
    have Zo78_ob10 := ap_ne (Ap.new (OwF.flo G77) (one_hi B8.lt))
    have Zo78_o71 := Ap.dj (Ap.new (OwF.flo G77) (OwF.fhi G70))
    have B4 := blkT B4 hb80
    have B8 := blkT B8 hb80
    have G70 := OwF.below G70 hb80
    have T := Tt T hb80
    replace G77 := OwF.mono G77 T0w79
    refine RL.nil ⟨T, ?_⟩
    refine RT.act rfl ?_
    obtain ⟨A81, c82, rfl⟩ := OwF.form G70
    have qbA81 := OwF.bound G70
    refine RL.store (v := .slice A81 y67.length c82) (cs' := #[.int .i64 d0.kind, .int .i64 d0.level, .int .i64 d0.value, .slice A81 y67.length c82, .slice A2 d0.ports.length c2]) rfl rfl rfl B4 (by kernel_rfl) (by rfl) (by rfl) (by rfl) (fun w83 B84 ho85 => ?_)
    have szw83 := ho85.size
    have B8 := B8.only_ ho85 (by intro hin; simp at hin; exact Eob10_ob6.symm hin)
    have G70 := OwF.only G70 ho85 Zo71_ob6
    have G77 := OwF.only G77 ho85 Zo78_ob6
    have T := T.trans (ho85.below (by first | (simp; done) | (simp; omega)))
    refine RL.nil ⟨T, ?_⟩
    refine RT.y rfl rfl (Y.fieldAddr (off := 4) rfl (by kernel_rfl)) ?_
    refine RT.act rfl ?_
    obtain ⟨A86, c87, rfl⟩ := OwF.form G77
    have qbA86 := OwF.bound G77
    refine RL.store (v := .slice A86 y74.length c87) (cs' := #[.int .i64 d0.kind, .int .i64 d0.level, .int .i64 d0.value, .slice A81 y67.length c82, .slice A86 y74.length c87]) rfl rfl rfl B84 (by kernel_rfl) (by rfl) (by rfl) (by rfl) (fun w88 B89 ho90 => ?_)
    have szw88 := ho90.size
    have B8 := B8.only_ ho90 (by intro hin; simp at hin; exact Eob10_ob6.symm hin)
    have G70 := OwF.only G70 ho90 Zo71_ob6
    have G77 := OwF.only G77 ho90 Zo78_ob6
    have T := T.trans (ho90.below (by first | (simp; done) | (simp; omega)))
    refine RL.nil ⟨T, ?_⟩
    refine RT.nil_ ?_
    refine then_n ?_
    refine wp_seq ?_
    refine wp_rl rfl ?_
    refine RL.y rfl (Y.loadN (cs := [.int .i64 d0.kind, .int .i64 d0.level, .int .i64 d0.value, .slice A81 y67.length c82, .slice A86 y74.length c87]) rfl (by kernel_rfl) (cells5 (eqC (blkCell B89 (i := 0) rfl)) (eqC (blkCell B89 (i := 1) rfl)) (eqC (blkCell B89 (i := 2) rfl)) (eqC (blkCell B89 (i := 3) rfl)) (eqC (blkCell B89 (i := 4) rfl)))) ?_
    refine RL.store (v := .agg #[.int .i64 d0.kind, .int .i64 d0.level, .int .i64 d0.value, .slice A81 y67.length c82, .slice A86 y74.length c87]) (cs' := #[.int .i64 d0.kind, .int .i64 d0.level, .int .i64 d0.value, .slice A81 y67.length c82, .slice A86 y74.length c87]) rfl rfl rfl B8 (by kernel_rfl) (by rfl) (by rfl) (by rfl) (fun w91 B92 ho93 => ?_)
    have szw91 := ho93.size
    have B89 := B89.only_ ho93 (by intro hin; simp at hin; exact Eob10_ob6 hin)
    have G70 := OwF.only G70 ho93 Zo71_ob10
    have G77 := OwF.only G77 ho93 Zo78_ob10
    have T := T.trans (ho93.below (by first | (simp; done) | (simp; omega)))
    refine RL.nil ?_
    refine then_n ?_
    refine wp_ret ?_
    obtain rfl := Option.some.inj hm
    exact (retc (cs := [.int .i64 d0.kind, .int .i64 d0.level, .int .i64 d0.value, .slice A81 y67.length c82, .slice A86 y74.length c87]) rfl rfl rfl (by kernel_rfl) (blkCells B92) ⟨⟨_, _, rfl, G70, G77, (Ap.dj (Ap.symm (Dj.ap Zo78_o71)))⟩, T⟩)
def m_impl_copyNet_A1 (z26 : DNet) : Option DNet :=
  some z26
def m_impl_copyNet_B1 (d0 : DNet) (rec1 : Int → DNet → Option DNet) (K1 : DNet → Option DNet) (i33 : Int) (z34 : DNet) : Option DNet :=
  (bif (decide (i33 < (d0.agents.length : Int))) then ((getI d0.agents i33).bind fun x37 => ((m_impl_copyAgent x37).bind fun y57 => ((mustP (z34.agents.length + ([y57]).length ≤ 4294967296)).bind fun _ => (rec1 (i33 + 1) (⟨(z34.agents ++ [y57])⟩ : DNet))))) else (K1 z34))
def m_impl_copyNet_L1 (d0 : DNet) (K1 : DNet → Option DNet) : Nat → Int → DNet → Option DNet
  | 0, _, _ => none
  | g + 1, i33, z34 => m_impl_copyNet_B1 d0 (m_impl_copyNet_L1 d0 K1 g) K1 i33 z34
def m_impl_copyNet (d0 : DNet) : Option DNet :=
  ((mustP (d0.agents.length ≤ 4294967296)).bind fun _ => (m_impl_copyNet_L1 d0 m_impl_copyNet_A1 (d0.agents.length + 1) 0 (⟨([] : List DAgent)⟩ : DNet)))
set_option maxHeartbeats 2000000 in
theorem c_m_impl_copyNet (d0 : DNet) (r : DNet) (hm : m_impl_copyNet d0 = some r) (v0 : Value) (w : World) (hv0 : St netRd w v0 d0) :
    Calls Try.prog 132 #[v0] w fun e w' => (∃ (v0 : Value) (bs0 : List Nat), e = .returned (.agg #[v0]) ∧ OwN 89 agentOw 5 w' w.heap.size v0 r.agents bs0) ∧ Below w.heap.size w w' := by
  obtain ⟨csa0, rfl, ⟨A1, n1, c1, rfl, ⟨h1, r1⟩⟩⟩ := hv0
  have e1 := h1.len; subst e1
  have q1 := len_le r1
  have T := Below.refl w.heap.size w
  unfold m_impl_copyNet at hm
  refine enter 27 Try.func132 rfl rfl rfl ?_
  intro f hf
  have s0 : f 0 = .agg #[.slice A1 d0.agents.length c1] := hf 0 _ rfl
  refine wp_seq ?_
  refine wp_rl rfl ?_
  refine RL.box rfl s0 (fun w2 B3 hb4 szw2 => ?_)
  replace B3 : Blk w2 w.heap.size 30 #[.slice A1 d0.agents.length c1] := B3
  have GB3 : w.heap.size ≤ w.heap.size := T.size
  have T := Tt T hb4
  refine RL.alloc (z := .agg #[.slice none 0 0]) rfl (by kernel_rfl) (fun w6 B7 hb8 szw6 => ?_)
  replace B7 : Blk w6 w2.heap.size 30 #[.slice none 0 0] := B7
  have GB7 : w.heap.size ≤ w2.heap.size := T.size
  have Eob9_ob5 := Nat.ne_of_lt B3.lt
  have B3 := blkT B3 hb8
  have T := Tt T hb8
  refine RL.nil ?_
  refine then_n ?_
  refine wp_seq ?_
  refine wp_rl rfl ?_
  refine RL.y rfl (Y.fieldAddr (off := 0) rfl (by kernel_rfl)) ?_
  refine RL.y rfl (Y.load (v := .slice A1 d0.agents.length c1) rfl (by kernel_rfl) (eqC (blkCell B3 (i := 0) rfl))) ?_
  refine RL.y rfl (Y.len (by kernel_rfl) rfl) ?_
  obtain ⟨_, m10, hm⟩ := bnd hm
  have hk11 := mustP_some m10
  refine RL.make0N (O := agentOw) (n := d0.agents.length) app_impl_Agent rfl rfl rfl hk11 (fun w12 G13 hb14 szw12 => ?_)
  replace G13 := OwN.mono G13 T.size
  have z17 := Ap.farL (g := w6.heap.size) (one_hi B3.lt)
  have z18 := Ap.farL (g := w6.heap.size) (one_hi B7.lt)
  have B3 := blkT B3 hb14
  have B7 := blkT B7 hb14
  have T := Tt T hb14
  refine RL.y rfl (Y.build1 (cells := #[.slice (some ⟨w6.heap.size, 0, none⟩) 0 d0.agents.length]) rfl (by kernel_rfl) (by kernel_rfl)) ?_
  refine RL.alloc (z := .agg #[.slice none 0 0]) rfl (by kernel_rfl) (fun w19 B20 hb21 szw19 => ?_)
  replace B20 : Blk w19 w12.heap.size 30 #[.slice none 0 0] := B20
  have GB20 : w.heap.size ≤ w12.heap.size := T.size
  have Eob22_ob5 := Nat.ne_of_lt B3.lt
  have Eob22_ob9 := Nat.ne_of_lt B7.lt
  have No15_ob22 := Ap.far (OwN.hi G13)
  have B3 := blkT B3 hb21
  have B7 := blkT B7 hb21
  have G13 := OwN.below agentOw_ok G13 hb21
  have T := Tt T hb21
  refine RL.store (v := .agg #[.slice (some ⟨w6.heap.size, 0, none⟩) 0 d0.agents.length]) (cs' := #[.slice (some ⟨w6.heap.size, 0, none⟩) 0 d0.agents.length]) rfl rfl rfl B20 (by kernel_rfl) (by rfl) (by rfl) (by rfl) (fun w23 B24 ho25 => ?_)
  have szw23 := ho25.size
  have B3 := B3.only_ ho25 (by intro hin; simp at hin; exact Eob22_ob5 hin)
  have B7 := B7.only_ ho25 (by intro hin; simp at hin; exact Eob22_ob9 hin)
  have G13 := OwN.only agentOw_ok G13 ho25 (Ap.one No15_ob22)
  have T := T.trans (ho25.below (by first | (simp; done) | (simp; omega)))
  refine RL.nil ?_
  refine then_n ?_
  refine wp_seq ?_
  refine wp_seq ?_
  refine wp_rs rfl ?_
  refine RQ.y rfl (Y.fieldAddr (off := 0) rfl (by kernel_rfl)) ?_
  refine RQ.y rfl (Y.load (v := .slice A1 d0.agents.length c1) rfl (by kernel_rfl) (eqC (blkCell B3 (i := 0) rfl))) ?_
  refine RQ.y rfl (Y.len (by kernel_rfl) rfl) ?_
  refine RQ.y rfl (Y.move (v := .int .i64 0) rfl) ?_
  refine RQ.nil ?_
  refine then_n ?_
  refine wp_block ?_
  obtain ⟨K1, hK1, hm⟩ : ∃ K, K = m_impl_copyNet_A1 ∧ m_impl_copyNet_L1 d0 K (d0.agents.length + 1) 0 (⟨([] : List DAgent)⟩ : DNet) = some r := ⟨_, rfl, hm⟩
  refine wp_loopX (fun g f w' => ∃ (i33 : Int) (z34 : DNet) (uz34_0 : Value) (bsz34_0 : List Nat), f 2 = .pointer (some ⟨w2.heap.size, 0, none⟩) ∧ f 3 = .pointer (some ⟨w12.heap.size, 0, none⟩) ∧ f 12 = .slice A1 d0.agents.length c1 ∧ f 13 = .int .i64 (d0.agents.length : Int) ∧ f 14 = .int .i64 i33 ∧ 0 ≤ i33 ∧ Blk w' w12.heap.size 30 #[uz34_0] ∧ OwN 89 agentOw 5 w' w.heap.size uz34_0 z34.agents bsz34_0 ∧ Ap bsz34_0 [w2.heap.size] ∧ Ap bsz34_0 [w12.heap.size] ∧ Blk w' w2.heap.size 30 #[.slice none 0 0] ∧ Below w.heap.size w w' ∧ m_impl_copyNet_L1 d0 K1 g i33 z34 = some r) 0 (fun f w' => ∃ (z26 : DNet) (uz26_0 : Value) (bsz26_0 : List Nat), f 2 = .pointer (some ⟨w2.heap.size, 0, none⟩) ∧ f 3 = .pointer (some ⟨w12.heap.size, 0, none⟩) ∧ Blk w' w12.heap.size 30 #[uz26_0] ∧ OwN 89 agentOw 5 w' w.heap.size uz26_0 z26.agents bsz26_0 ∧ Ap bsz26_0 [w2.heap.size] ∧ Ap bsz26_0 [w12.heap.size] ∧ Blk w' w2.heap.size 30 #[.slice none 0 0] ∧ Below w.heap.size w w' ∧ m_impl_copyNet_A1 z26 = some r) (d0.agents.length + 1) ⟨0, (⟨([] : List DAgent)⟩ : DNet), (.slice (some ⟨w6.heap.size, 0, none⟩) 0 d0.agents.length), ([w6.heap.size]), rfl, rfl, rfl, rfl, rfl, (by omega), B24, G13, z18, No15_ob22, B7, T, hm⟩ ?_ ?_
  · rintro f w27 ⟨z26, uz26_0, bsz26_0, s2_1x, s3_1x, Bz26, Guz26_0, Noz26_0_ob9, Noz26_0_ob22, B7, T, hm⟩
    unfold m_impl_copyNet_A1 at hm
    refine blk_hit (then_n ?_)
    refine wp_seq ?_
    refine wp_rl rfl ?_
    refine RL.y rfl (Y.loadN (cs := [uz26_0]) s3_1x (by kernel_rfl) (cells1 (eqC (blkCell Bz26 (i := 0) rfl)))) ?_
    obtain ⟨A28, c29, rfl⟩ := OwN.form Guz26_0
    have qbA28 := OwN.bound Guz26_0
    refine RL.store (v := .agg #[.slice A28 z26.agents.length c29]) (cs' := #[.slice A28 z26.agents.length c29]) rfl s2_1x rfl B7 (by kernel_rfl) (by rfl) (by rfl) (by rfl) (fun w30 B31 ho32 => ?_)
    have szw30 := ho32.size
    have Bz26 := Bz26.only_ ho32 (by intro hin; simp at hin; exact Eob22_ob9.symm hin)
    have Guz26_0 := OwN.only agentOw_ok Guz26_0 ho32 (Ap.one Noz26_0_ob9)
    have T := T.trans (ho32.below (by first | (simp; done) | (simp; omega)))
    refine RL.nil ?_
    refine then_n ?_
    refine wp_ret ?_
    obtain rfl := Option.some.inj hm
    exact (retc (cs := [.slice A28 z26.agents.length c29]) rfl rfl s2_1x (by kernel_rfl) (blkCells B31) ⟨⟨_, _, rfl, Guz26_0⟩, T⟩)
  · rintro g f w35 ⟨i33, z34, uz34_0, bsz34_0, s2_1, s3_1, s12_1, s13_1, s14_1, nn14_1, Bz34, Guz34_0, Noz34_0_ob9, Noz34_0_ob22, B7, T, hm⟩
    rcases g with _ | g
    · simp only [m_impl_copyNet_L1] at hm; cases hm
    obtain ⟨rec1, hrec1, hm⟩ : ∃ z, z = m_impl_copyNet_L1 d0 K1 g ∧ m_impl_copyNet_B1 d0 z K1 i33 z34 = some r := ⟨_, rfl, hm⟩
    unfold m_impl_copyNet_B1 at hm
    refine wp_seq ?_
    refine wp_rs rfl ?_
    refine RQ.y rfl (Y.binI (v := .bool (decide (i33 < (d0.agents.length : Int)))) s14_1 s13_1 rfl) ?_
    refine RQ.nil ?_
    refine then_n ?_
    refine wp_seq ?_
    rcases bcases (decide (i33 < (d0.agents.length : Int))) with c36 | c36
    · replace hm := cF c36 hm
      have pc36 := of_decide_eq_false c36
      refine cond_f rfl (vb rfl c36) ?_
      refine wp_exit ?_
      exact (then_x (then_x (hit_x ⟨_, rfl, ⟨z34, (uz34_0), bsz34_0, s2_1, s3_1, Bz34, Guz34_0, Noz34_0_ob9, Noz34_0_ob22, B7, T, (by rw [hK1] at hm; exact hm)⟩⟩)))
    · replace hm := cT c36 hm
      have pc36 := of_decide_eq_true c36
      refine cond_t rfl (vb rfl c36) ?_
      refine wp_skip ?_
      refine then_n ?_
      refine wp_seq ?_
      refine wp_block ?_
      refine wp_seq ?_
      refine wp_rl rfl ?_
      obtain ⟨x37, hx40, hm⟩ := bnd hm
      obtain ⟨k38, hk41, hl42, hx40⟩ := getI_some hx40
      obtain ⟨b44, o45, rfl, hbb44⟩ := h1.addr (by omega)
      obtain ⟨cs39, hRcs39, hc43⟩ := h1.el hx40
      have hScs39 := hRcs39
      obtain ⟨A46, n46, c46, A47, n47, c47, rfl, ⟨h46, r46⟩, ⟨h47, r47⟩⟩ := hRcs39
      have e46 := h46.len; subst e46
      have q46 := len_le r46
      have e47 := h47.len; subst e47
      have q47 := len_le r47
      refine RL.y rfl (Y.indexAddr (m := k38) (sz := 5) s12_1 s14_1 hk41 hl42 (by kernel_rfl)) ?_
      refine RL.y rfl (Y.loadN (cs := [.int .i64 x37.kind, .int .i64 x37.level, .int .i64 x37.value, .slice A46 x37.data.length c46, .slice A47 x37.ports.length c47]) rfl (by kernel_rfl) (cells5 (eqC (cellT T (hc43 0 _ rfl))) (eqC (cellT T (hc43 1 _ rfl))) (eqC (cellT T (hc43 2 _ rfl))) (eqC (cellT T (hc43 3 _ rfl))) (eqC (cellT T (hc43 4 _ rfl))))) ?_
      refine RL.alloc (z := .agg #[.int .i64 0, .int .i64 0, .int .i64 0, .slice none 0 0, .slice none 0 0]) rfl (by kernel_rfl) (fun w48 B49 hb50 szw48 => ?_)
      replace B49 : Blk w48 w35.heap.size 89 #[.int .i64 0, .int .i64 0, .int .i64 0, .slice none 0 0, .slice none 0 0] := B49
      have GB49 : w.heap.size ≤ w35.heap.size := T.size
      have Eob51_ob9 := Nat.ne_of_lt B7.lt
      have Eob51_ob22 := Nat.ne_of_lt Bz34.lt
      have Noz34_0_ob51 := Ap.far (OwN.hi Guz34_0)
      have B7 := blkT B7 hb50
      have Bz34 := blkT Bz34 hb50
      have Guz34_0 := OwN.below agentOw_ok Guz34_0 hb50
      have T := Tt T hb50
      refine RL.store (v := .agg #[.int .i64 x37.kind, .int .i64 x37.level, .int .i64 x37.value, .slice A46 x37.data.length c46, .slice A47 x37.ports.length c47]) (cs' := #[.int .i64 x37.kind, .int .i64 x37.level, .int .i64 x37.value, .slice A46 x37.data.length c46, .slice A47 x37.ports.length c47]) rfl rfl rfl B49 (by kernel_rfl) (by rfl) (by rfl) (by rfl) (fun w52 B53 ho54 => ?_)
      have szw52 := ho54.size
      have B7 := B7.only_ ho54 (by intro hin; simp at hin; exact Eob51_ob9 hin)
      have Bz34 := Bz34.only_ ho54 (by intro hin; simp at hin; exact Eob51_ob22 hin)
      have Guz34_0 := OwN.only agentOw_ok Guz34_0 ho54 (Ap.one Noz34_0_ob51)
      have T := T.trans (ho54.below (by first | (simp; done) | (simp; omega)))
      refine RL.nil ?_
      refine then_n ?_
      refine wp_rgt (fun w' => Below w.heap.size w w' ∧ Blk w' w35.heap.size 89 #[.int .i64 x37.kind, .int .i64 x37.level, .int .i64 x37.value, .slice A46 x37.data.length c46, .slice A47 x37.ports.length c47]) (.q 0 (.q 2 (.two 1 (.a 3 (.a 4 (.a 5 (.q 6 (.a 7 .nil))))) 3 (.two 1 (.a 4 (.a 5 (.q 6 (.a 7 .nil)))) 4 (.a 1 (.a 5 (.q 6 (.a 7 .nil)))))))) (by kernel_rfl) (by kernel_rfl) (fun w55 hb56 szw55 => ?_)
      have B7 := blkT B7 hb56
      have Bz34 := blkT Bz34 hb56
      have B53 := blkT B53 hb56
      have Guz34_0 := OwN.below agentOw_ok Guz34_0 hb56
      have T := Tt T hb56
      refine ⟨⟨T, B53⟩, ?_⟩
      refine RT.y rfl rfl (Y.fieldAddr (off := 0) s3_1 (by kernel_rfl)) ?_
      refine RT.y rfl rfl (Y.loadN (cs := [.int .i64 x37.kind, .int .i64 x37.level, .int .i64 x37.value, .slice A46 x37.data.length c46, .slice A47 x37.ports.length c47]) rfl (by kernel_rfl) (cells5 (fun w' hS => (blkCell hS.2 (i := 0) rfl)) (fun w' hS => (blkCell hS.2 (i := 1) rfl)) (fun w' hS => (blkCell hS.2 (i := 2) rfl)) (fun w' hS => (blkCell hS.2 (i := 3) rfl)) (fun w' hS => (blkCell hS.2 (i := 4) rfl)))) ?_
      refine RT.both rfl rfl ?_ ?_
      · refine RL.y rfl (Y.load (v := uz34_0) rfl (by kernel_rfl) (eqC (blkCell Bz34 (i := 0) rfl))) ?_
        refine RL.nil ⟨⟨T, B53⟩, ?_⟩
        refine RT.act rfl ?_
        obtain ⟨y57, e58, hm⟩ := bnd hm
        refine RL.call rfl (am1 rfl) (by kernel_rfl) ((c_m_impl_copyAgent x37 _ e58 _ _ (stArg (R := agentRd) ⟨_, _, _, _, _, _, rfl, ⟨SlAt.now intRd_ok h46 (Nat.le_refl _) T, r46⟩, ⟨SlAt.now portRd_ok h47 (Nat.le_refl _) T, r47⟩⟩)).mono ?_)
        rintro _ w65 ⟨⟨v59, v62, rfl, G60, G63, Ro61_o64⟩, hb66⟩
        refine ⟨_, rfl, ?_⟩
        have szw65 := hb66.size
        have T0w65 := T.size
        have Zo61_ob9 := ap_ne (Ap.new (OwF.flo G60) (one_hi B7.lt))
        have Zo61_ob22 := ap_ne (Ap.new (OwF.flo G60) (one_hi Bz34.lt))
        have Zo61_ob51 := ap_ne (Ap.new (OwF.flo G60) (one_hi B53.lt))
        have Zo61_oz34_0 : Ap (fb v59) bsz34_0 := (Ap.new (OwF.flo G60) (OwN.hi Guz34_0))
        have Zo64_ob9 := ap_ne (Ap.new (OwF.flo G63) (one_hi B7.lt))
        have Zo64_ob22 := ap_ne (Ap.new (OwF.flo G63) (one_hi Bz34.lt))
        have Zo64_ob51 := ap_ne (Ap.new (OwF.flo G63) (one_hi B53.lt))
        have Zo64_oz34_0 : Ap (fb v62) bsz34_0 := (Ap.new (OwF.flo G63) (OwN.hi Guz34_0))
        have B7 := blkT B7 hb66
        have Bz34 := blkT Bz34 hb66
        have B53 := blkT B53 hb66
        have Guz34_0 := OwN.below agentOw_ok Guz34_0 hb66
        have T := Tt T hb66
        replace G60 := OwF.mono G60 T0w65
        replace G63 := OwF.mono G63 T0w65
        refine RL.nil ⟨⟨T, B53⟩, ?_⟩
        refine RT.act rfl ?_
        obtain ⟨A71, c72, rfl⟩ := OwF.form G60
        have qbA71 := OwF.bound G60
        obtain ⟨A73, c74, rfl⟩ := OwF.form G63
        have qbA73 := OwF.bound G63
        refine RL.bslice (e := 89) (cells := #[.int .i64 y57.kind, .int .i64 y57.level, .int .i64 y57.value, .slice A71 y57.data.length c72, .slice A73 y57.ports.length c74]) rfl (pm1 rfl) (by kernel_rfl) (fun w67 B68 hb69 szw67 => ?_)
        have ZB68 : w.heap.size ≤ w65.heap.size := T.size
        have q75 := OwF.fboth G60 (Nat.le_refl _)
        have q76 := OwF.fboth G63 (Nat.le_refl _)
        have z77 := Ap.cons (Ap.farL (one_hi B7.lt)) (Ap.append (ne_ap Zo61_ob9) (ne_ap Zo64_ob9))
        have z78 := Ap.cons (Ap.farL (one_hi Bz34.lt)) (Ap.append (ne_ap Zo61_ob22) (ne_ap Zo64_ob22))
        have z79 := Ap.cons (Ap.farL (one_hi B53.lt)) (Ap.append (ne_ap Zo61_ob51) (ne_ap Zo64_ob51))
        have z80 := Ap.cons (Ap.farL (OwN.hi Guz34_0)) (Ap.append Zo61_oz34_0 Zo64_oz34_0)
        have B7 := blkT B7 hb69
        have Bz34 := blkT Bz34 hb69
        have B53 := blkT B53 hb69
        have Guz34_0 := OwN.below agentOw_ok Guz34_0 hb69
        have G60 := OwF.below G60 hb69
        have G63 := OwF.below G63 hb69
        have T := Tt T hb69
        obtain ⟨l82, a81, nd83, sb84, r85⟩ := OwF.own2 fI G60
        obtain ⟨l87, a86, nd88, sb89, r90⟩ := OwF.own2 fPort G63
        have G91 : OwN 89 agentOw 5 w67 w.heap.size (.slice (some ⟨w65.heap.size, 0, none⟩) 1 1) [y57] (w65.heap.size :: ((fb (.slice A71 y57.data.length c72)) ++ (fb (.slice A73 y57.ports.length c74)))) := OwN.lit1 (b1 := (l82 ++ l87)) B68 ZB68 ⟨_, _, _, _, _, _, l82, l87, rfl, ⟨a81, r85⟩, ⟨a86, r90⟩, rfl⟩ agentOw_ok (nodup2 nd83 nd88 sb84 sb89 (Dj.ap Ro61_o64)) (sub2 sb84 sb89) (all2 q75 q76)
        refine RL.nil ⟨⟨T, B53⟩, ?_⟩
        refine RT.act rfl ?_
        obtain ⟨_, m93, hm⟩ := bnd hm
        have hk94 := mustP_some m93
        refine RL.appendN agentOw_ok agentOw_one (by decide) app_impl_Agent rfl rfl rfl Guz34_0 G91 (Ap.symm z80) T.size hk94 (fun v95 w96 bs97 G98 hgr99 hbl100 hnb101 => ?_)
        have szw96 := hbl100.size
        have z103 := Ap.app hnb101 Noz34_0_ob9 z77 (one_hi B7.lt)
        have z104 := Ap.app hnb101 Noz34_0_ob22 z78 (one_hi Bz34.lt)
        have z105 := Ap.app hnb101 Noz34_0_ob51 z79 (one_hi B53.lt)
        have B7 := Blk.kept B7 hgr99 (OwN.neB Guz34_0 Noz34_0_ob9)
        have Bz34 := Blk.kept Bz34 hgr99 (OwN.neB Guz34_0 Noz34_0_ob22)
        have B53 := Blk.kept B53 hgr99 (OwN.neB Guz34_0 Noz34_0_ob51)
        have T := T.trans hbl100
        refine RL.nil ⟨⟨T, B53⟩, ?_⟩
        refine RT.y rfl rfl (Y.fieldAddr (off := 0) s3_1 (by kernel_rfl)) ?_
        refine RT.act rfl ?_
        obtain ⟨A106, c107, rfl⟩ := OwN.form G98
        have qbA106 := OwN.bound G98
        refine RL.store (v := .slice A106 ((z34.agents ++ [y57]).length) c107) (cs' := #[.slice A106 ((z34.agents ++ [y57]).length) c107]) rfl rfl rfl Bz34 (by kernel_rfl) (by rfl) (by rfl) (by rfl) (fun w108 B109 ho110 => ?_)
        have szw108 := ho110.size
        have B7 := B7.only_ ho110 (by intro hin; simp at hin; exact Eob22_ob9 hin)
        have B53 := B53.only_ ho110 (by intro hin; simp at hin; exact Eob51_ob22.symm hin)
        have G98 := OwN.only agentOw_ok G98 ho110 (Ap.one z104)
        have T := T.trans (ho110.below (by first | (simp; done) | (simp; omega)))
        refine RL.nil ⟨⟨T, B53⟩, ?_⟩
        refine RT.nil_ ?_
        refine blk_n (then_n ?_)
        refine wp_rs rfl ?_
        refine RQ.y rfl (Y.binI s14_1 rfl (binI_add (m := i33) (by omega))) ?_
        refine RQ.y rfl (Y.move (v := .int .i64 (i33 + 1)) rfl) ?_
        refine RQ.nil ?_
        exact (then_n ⟨g, _, Nat.lt_succ_self _, rfl, ⟨(i33 + 1), (⟨(z34.agents ++ [y57])⟩ : DNet), (.slice A106 ((z34.agents ++ [y57]).length) c107), bs97, s2_1, s3_1, s12_1, s13_1, rfl, (by omega), B109, G98, z103, z104, B7, T, (by rw [← hrec1]; exact hm)⟩⟩)
      · obtain ⟨y111, e112, hm⟩ := bnd hm
        refine RL.call rfl (am1 rfl) (by kernel_rfl) ((c_m_impl_copyAgent x37 _ e112 _ _ (stArg (R := agentRd) ⟨_, _, _, _, _, _, rfl, ⟨SlAt.now intRd_ok h46 (Nat.le_refl _) T, r46⟩, ⟨SlAt.now portRd_ok h47 (Nat.le_refl _) T, r47⟩⟩)).mono ?_)
        rintro _ w119 ⟨⟨v113, v116, rfl, G114, G117, Ro115_o118⟩, hb120⟩
        refine ⟨_, rfl, ?_⟩
        have szw119 := hb120.size
        have T0w119 := T.size
        have Zo115_ob9 := ap_ne (Ap.new (OwF.flo G114) (one_hi B7.lt))
        have Zo115_ob22 := ap_ne (Ap.new (OwF.flo G114) (one_hi Bz34.lt))
        have Zo115_ob51 := ap_ne (Ap.new (OwF.flo G114) (one_hi B53.lt))
        have Zo115_oz34_0 : Ap (fb v113) bsz34_0 := (Ap.new (OwF.flo G114) (OwN.hi Guz34_0))
        have Zo118_ob9 := ap_ne (Ap.new (OwF.flo G117) (one_hi B7.lt))
        have Zo118_ob22 := ap_ne (Ap.new (OwF.flo G117) (one_hi Bz34.lt))
        have Zo118_ob51 := ap_ne (Ap.new (OwF.flo G117) (one_hi B53.lt))
        have Zo118_oz34_0 : Ap (fb v116) bsz34_0 := (Ap.new (OwF.flo G117) (OwN.hi Guz34_0))
        have B7 := blkT B7 hb120
        have Bz34 := blkT Bz34 hb120
        have B53 := blkT B53 hb120
        have Guz34_0 := OwN.below agentOw_ok Guz34_0 hb120
        have T := Tt T hb120
        replace G114 := OwF.mono G114 T0w119
        replace G117 := OwF.mono G117 T0w119
        refine RL.nil ⟨⟨T, B53⟩, ?_⟩
        refine RT.both rfl rfl ?_ ?_
        · refine RL.y rfl (Y.load (v := uz34_0) rfl (by kernel_rfl) (eqC (blkCell Bz34 (i := 0) rfl))) ?_
          refine RL.nil ⟨⟨T, B53⟩, ?_⟩
          refine RT.act rfl ?_
          obtain ⟨A125, c126, rfl⟩ := OwF.form G114
          have qbA125 := OwF.bound G114
          obtain ⟨A127, c128, rfl⟩ := OwF.form G117
          have qbA127 := OwF.bound G117
          refine RL.bslice (e := 89) (cells := #[.int .i64 y111.kind, .int .i64 y111.level, .int .i64 y111.value, .slice A125 y111.data.length c126, .slice A127 y111.ports.length c128]) rfl (pm1 rfl) (by kernel_rfl) (fun w121 B122 hb123 szw121 => ?_)
          have ZB122 : w.heap.size ≤ w119.heap.size := T.size
          have q129 := OwF.fboth G114 (Nat.le_refl _)
          have q130 := OwF.fboth G117 (Nat.le_refl _)
          have z131 := Ap.cons (Ap.farL (one_hi B7.lt)) (Ap.append (ne_ap Zo115_ob9) (ne_ap Zo118_ob9))
          have z132 := Ap.cons (Ap.farL (one_hi Bz34.lt)) (Ap.append (ne_ap Zo115_ob22) (ne_ap Zo118_ob22))
          have z133 := Ap.cons (Ap.farL (one_hi B53.lt)) (Ap.append (ne_ap Zo115_ob51) (ne_ap Zo118_ob51))
          have z134 := Ap.cons (Ap.farL (OwN.hi Guz34_0)) (Ap.append Zo115_oz34_0 Zo118_oz34_0)
          have B7 := blkT B7 hb123
          have Bz34 := blkT Bz34 hb123
          have B53 := blkT B53 hb123
          have Guz34_0 := OwN.below agentOw_ok Guz34_0 hb123
          have G114 := OwF.below G114 hb123
          have G117 := OwF.below G117 hb123
          have T := Tt T hb123
          obtain ⟨l136, a135, nd137, sb138, r139⟩ := OwF.own2 fI G114
          obtain ⟨l141, a140, nd142, sb143, r144⟩ := OwF.own2 fPort G117
          have G145 : OwN 89 agentOw 5 w121 w.heap.size (.slice (some ⟨w119.heap.size, 0, none⟩) 1 1) [y111] (w119.heap.size :: ((fb (.slice A125 y111.data.length c126)) ++ (fb (.slice A127 y111.ports.length c128)))) := OwN.lit1 (b1 := (l136 ++ l141)) B122 ZB122 ⟨_, _, _, _, _, _, l136, l141, rfl, ⟨a135, r139⟩, ⟨a140, r144⟩, rfl⟩ agentOw_ok (nodup2 nd137 nd142 sb138 sb143 (Dj.ap Ro115_o118)) (sub2 sb138 sb143) (all2 q129 q130)
          refine RL.nil ⟨⟨T, B53⟩, ?_⟩
          refine RT.act rfl ?_
          obtain ⟨_, m147, hm⟩ := bnd hm
          have hk148 := mustP_some m147
          refine RL.appendN agentOw_ok agentOw_one (by decide) app_impl_Agent rfl rfl rfl Guz34_0 G145 (Ap.symm z134) T.size hk148 (fun v149 w150 bs151 G152 hgr153 hbl154 hnb155 => ?_)
          have szw150 := hbl154.size
          have z157 := Ap.app hnb155 Noz34_0_ob9 z131 (one_hi B7.lt)
          have z158 := Ap.app hnb155 Noz34_0_ob22 z132 (one_hi Bz34.lt)
          have z159 := Ap.app hnb155 Noz34_0_ob51 z133 (one_hi B53.lt)
          have B7 := Blk.kept B7 hgr153 (OwN.neB Guz34_0 Noz34_0_ob9)
          have Bz34 := Blk.kept Bz34 hgr153 (OwN.neB Guz34_0 Noz34_0_ob22)
          have B53 := Blk.kept B53 hgr153 (OwN.neB Guz34_0 Noz34_0_ob51)
          have T := T.trans hbl154
          refine RL.nil ⟨⟨T, B53⟩, ?_⟩
          refine RT.y rfl rfl (Y.fieldAddr (off := 0) s3_1 (by kernel_rfl)) ?_
          refine RT.act rfl ?_
          obtain ⟨A160, c161, rfl⟩ := OwN.form G152
          have qbA160 := OwN.bound G152
          refine RL.store (v := .slice A160 ((z34.agents ++ [y111]).length) c161) (cs' := #[.slice A160 ((z34.agents ++ [y111]).length) c161]) rfl rfl rfl Bz34 (by kernel_rfl) (by rfl) (by rfl) (by rfl) (fun w162 B163 ho164 => ?_)
          have szw162 := ho164.size
          have B7 := B7.only_ ho164 (by intro hin; simp at hin; exact Eob22_ob9 hin)
          have B53 := B53.only_ ho164 (by intro hin; simp at hin; exact Eob51_ob22.symm hin)
          have G152 := OwN.only agentOw_ok G152 ho164 (Ap.one z158)
          have T := T.trans (ho164.below (by first | (simp; done) | (simp; omega)))
          refine RL.nil ⟨⟨T, B53⟩, ?_⟩
          refine RT.nil_ ?_
          refine blk_n (then_n ?_)
          refine wp_rs rfl ?_
          refine RQ.y rfl (Y.binI s14_1 rfl (binI_add (m := i33) (by omega))) ?_
          refine RQ.y rfl (Y.move (v := .int .i64 (i33 + 1)) rfl) ?_
          refine RQ.nil ?_
          exact (then_n ⟨g, _, Nat.lt_succ_self _, rfl, ⟨(i33 + 1), (⟨(z34.agents ++ [y111])⟩ : DNet), (.slice A160 ((z34.agents ++ [y111]).length) c161), bs151, s2_1, s3_1, s12_1, s13_1, rfl, (by omega), B163, G152, z157, z158, B7, T, (by rw [← hrec1]; exact hm)⟩⟩)
        · obtain ⟨A169, c170, rfl⟩ := OwF.form G114
          have qbA169 := OwF.bound G114
          obtain ⟨A171, c172, rfl⟩ := OwF.form G117
          have qbA171 := OwF.bound G117
          refine RL.bslice (e := 89) (cells := #[.int .i64 y111.kind, .int .i64 y111.level, .int .i64 y111.value, .slice A169 y111.data.length c170, .slice A171 y111.ports.length c172]) rfl (pm1 rfl) (by kernel_rfl) (fun w165 B166 hb167 szw165 => ?_)
          have ZB166 : w.heap.size ≤ w119.heap.size := T.size
          have q173 := OwF.fboth G114 (Nat.le_refl _)
          have q174 := OwF.fboth G117 (Nat.le_refl _)
          have z175 := Ap.cons (Ap.farL (one_hi B7.lt)) (Ap.append (ne_ap Zo115_ob9) (ne_ap Zo118_ob9))
          have z176 := Ap.cons (Ap.farL (one_hi Bz34.lt)) (Ap.append (ne_ap Zo115_ob22) (ne_ap Zo118_ob22))
          have z177 := Ap.cons (Ap.farL (one_hi B53.lt)) (Ap.append (ne_ap Zo115_ob51) (ne_ap Zo118_ob51))
          have z178 := Ap.cons (Ap.farL (OwN.hi Guz34_0)) (Ap.append Zo115_oz34_0 Zo118_oz34_0)
          have B7 := blkT B7 hb167
          have Bz34 := blkT Bz34 hb167
          have B53 := blkT B53 hb167
          have Guz34_0 := OwN.below agentOw_ok Guz34_0 hb167
          have G114 := OwF.below G114 hb167
          have G117 := OwF.below G117 hb167
          have T := Tt T hb167
          obtain ⟨l180, a179, nd181, sb182, r183⟩ := OwF.own2 fI G114
          obtain ⟨l185, a184, nd186, sb187, r188⟩ := OwF.own2 fPort G117
          have G189 : OwN 89 agentOw 5 w165 w.heap.size (.slice (some ⟨w119.heap.size, 0, none⟩) 1 1) [y111] (w119.heap.size :: ((fb (.slice A169 y111.data.length c170)) ++ (fb (.slice A171 y111.ports.length c172)))) := OwN.lit1 (b1 := (l180 ++ l185)) B166 ZB166 ⟨_, _, _, _, _, _, l180, l185, rfl, ⟨a179, r183⟩, ⟨a184, r188⟩, rfl⟩ agentOw_ok (nodup2 nd181 nd186 sb182 sb187 (Dj.ap Ro115_o118)) (sub2 sb182 sb187) (all2 q173 q174)
          refine RL.nil ⟨⟨T, B53⟩, ?_⟩
          refine RT.act rfl ?_
          refine RL.y rfl (Y.load (v := uz34_0) rfl (by kernel_rfl) (eqC (blkCell Bz34 (i := 0) rfl))) ?_
          refine RL.nil ⟨⟨T, B53⟩, ?_⟩
          refine RT.act rfl ?_
          obtain ⟨_, m191, hm⟩ := bnd hm
          have hk192 := mustP_some m191
          refine RL.appendN agentOw_ok agentOw_one (by decide) app_impl_Agent rfl rfl rfl Guz34_0 G189 (Ap.symm z178) T.size hk192 (fun v193 w194 bs195 G196 hgr197 hbl198 hnb199 => ?_)
          have szw194 := hbl198.size
          have z201 := Ap.app hnb199 Noz34_0_ob9 z175 (one_hi B7.lt)
          have z202 := Ap.app hnb199 Noz34_0_ob22 z176 (one_hi Bz34.lt)
          have z203 := Ap.app hnb199 Noz34_0_ob51 z177 (one_hi B53.lt)
          have B7 := Blk.kept B7 hgr197 (OwN.neB Guz34_0 Noz34_0_ob9)
          have Bz34 := Blk.kept Bz34 hgr197 (OwN.neB Guz34_0 Noz34_0_ob22)
          have B53 := Blk.kept B53 hgr197 (OwN.neB Guz34_0 Noz34_0_ob51)
          have T := T.trans hbl198
          refine RL.nil ⟨⟨T, B53⟩, ?_⟩
          refine RT.y rfl rfl (Y.fieldAddr (off := 0) s3_1 (by kernel_rfl)) ?_
          refine RT.act rfl ?_
          obtain ⟨A204, c205, rfl⟩ := OwN.form G196
          have qbA204 := OwN.bound G196
          refine RL.store (v := .slice A204 ((z34.agents ++ [y111]).length) c205) (cs' := #[.slice A204 ((z34.agents ++ [y111]).length) c205]) rfl rfl rfl Bz34 (by kernel_rfl) (by rfl) (by rfl) (by rfl) (fun w206 B207 ho208 => ?_)
          have szw206 := ho208.size
          have B7 := B7.only_ ho208 (by intro hin; simp at hin; exact Eob22_ob9 hin)
          have B53 := B53.only_ ho208 (by intro hin; simp at hin; exact Eob51_ob22.symm hin)
          have G196 := OwN.only agentOw_ok G196 ho208 (Ap.one z202)
          have T := T.trans (ho208.below (by first | (simp; done) | (simp; omega)))
          refine RL.nil ⟨⟨T, B53⟩, ?_⟩
          refine RT.nil_ ?_
          refine blk_n (then_n ?_)
          refine wp_rs rfl ?_
          refine RQ.y rfl (Y.binI s14_1 rfl (binI_add (m := i33) (by omega))) ?_
          refine RQ.y rfl (Y.move (v := .int .i64 (i33 + 1)) rfl) ?_
          refine RQ.nil ?_
          exact (then_n ⟨g, _, Nat.lt_succ_self _, rfl, ⟨(i33 + 1), (⟨(z34.agents ++ [y111])⟩ : DNet), (.slice A204 ((z34.agents ++ [y111]).length) c205), bs195, s2_1, s3_1, s12_1, s13_1, rfl, (by omega), B207, G196, z201, z202, B7, T, (by rw [← hrec1]; exact hm)⟩⟩)
def m_impl_isLevel (d0 : Int) : Option Bool :=
  (bif (decide (d0 ≥ 0)) then some (decide (d0 ≤ 8)) else some false)
set_option maxHeartbeats 2000000 in
theorem c_m_impl_isLevel (d0 : Int) (r : Bool) (hm : m_impl_isLevel d0 = some r)  (w : World)  :
    Calls Try.prog 79 #[.int .i64 d0] w fun e w' => e = .returned (.bool r) ∧ Below w.heap.size w w' := by
  have T := Below.refl w.heap.size w
  unfold m_impl_isLevel at hm
  refine enter 9 Try.func79 rfl rfl rfl ?_
  intro f hf
  have s0 : f 0 = .int .i64 d0 := hf 0 _ rfl
  refine wp_seq ?_
  refine wp_rs rfl ?_
  refine RQ.y rfl (Y.assign (v := .bool false) rfl) ?_
  refine RQ.nil ?_
  refine then_n ?_
  refine wp_seq ?_
  refine wp_rs rfl ?_
  refine RQ.y rfl (Y.move (v := .int .i64 d0) s0) ?_
  refine RQ.y rfl (Y.binI (v := .bool (decide (d0 ≥ 0))) rfl rfl rfl) ?_
  refine RQ.y rfl (Y.move (v := .bool (decide (d0 ≥ 0))) rfl) ?_
  rcases bcases (decide (d0 ≥ 0)) with c1 | c1
  · replace hm := cF c1 hm
    have pc1 := of_decide_eq_false c1
    refine RQ.skip (wantN (dj := 5) rfl (vb rfl c1) rfl) ?_
    refine RQ.skip (wantN (dj := 5) rfl (vb rfl c1) rfl) ?_
    refine RQ.y rfl (Y.pick (b := false) (v := .bool false) (vb rfl c1) rfl) ?_
    refine RQ.y rfl (Y.assign (v := .bool false) rfl) ?_
    refine RQ.nil ?_
    refine then_n ?_
    refine wp_ret ?_
    obtain rfl := Option.some.inj hm
    exact (ret1 rfl rfl rfl ⟨rfl, T⟩)
  · replace hm := cT c1 hm
    have pc1 := of_decide_eq_true c1
    refine RQ.y (wantT (dj := 5) rfl (vb rfl c1)) (Y.move (v := .int .i64 d0) s0) ?_
    refine RQ.y (wantT (dj := 5) rfl (vb rfl c1)) (Y.binI (v := .bool (decide (d0 ≤ 8))) rfl rfl rfl) ?_
    refine RQ.y rfl (Y.pick (b := true) (v := .bool (decide (d0 ≤ 8))) (vb rfl c1) rfl) ?_
    refine RQ.y rfl (Y.assign (v := .bool (decide (d0 ≤ 8))) rfl) ?_
    refine RQ.nil ?_
    refine then_n ?_
    refine wp_ret ?_
    obtain rfl := Option.some.inj hm
    exact (ret1 rfl rfl rfl ⟨rfl, T⟩)
def m_impl_shifted_A1 (z27 : DNet) (z28 : DNet) : Option (DNet × Bool) :=
  some (z28, true)
def m_impl_shifted_B1 (d1 : Int) (y10 : DNet) (rec1 : Int → DNet → DNet → Option (DNet × Bool)) (K1 : DNet → DNet → Option (DNet × Bool)) (i35 : Int) (z36 : DNet) (z37 : DNet) : Option (DNet × Bool) :=
  (bif (decide (i35 < (y10.agents.length : Int))) then ((getI z37.agents i35).bind fun x42 => (bif (hasLevel x42.kind) then ((ck (x42.level + d1)).bind fun s61 => (bif (decide ((⟨x42.kind, s61, x42.value, x42.data, x42.ports⟩ : DAgent).level > 8)) then some ((⟨[]⟩ : DNet), false) else (rec1 (i35 + 1) z36 (⟨(setI z37.agents i35 (⟨x42.kind, s61, x42.value, x42.data, x42.ports⟩ : DAgent))⟩ : DNet)))) else (rec1 (i35 + 1) z36 z37))) else (K1 z36 z37))
def m_impl_shifted_L1 (d1 : Int) (y10 : DNet) (K1 : DNet → DNet → Option (DNet × Bool)) : Nat → Int → DNet → DNet → Option (DNet × Bool)
  | 0, _, _, _ => none
  | g + 1, i35, z36, z37 => m_impl_shifted_B1 d1 y10 (m_impl_shifted_L1 d1 y10 K1 g) K1 i35 z36 z37
def m_impl_shifted (d0 : DNet) (d1 : Int) : Option (DNet × Bool) :=
  ((m_impl_copyNet d0).bind fun y10 => (m_impl_shifted_L1 d1 y10 m_impl_shifted_A1 (y10.agents.length + 1) 0 (⟨[]⟩ : DNet) y10))
set_option maxHeartbeats 2000000 in
theorem c_m_impl_shifted (d0 : DNet) (d1 : Int) (r : DNet × Bool) (hm : m_impl_shifted d0 d1 = some r) (v0 : Value) (w : World) (hv0 : St netRd w v0 d0) :
    Calls Try.prog 80 #[v0, .int .i64 d1] w fun e w' => (∃ (v0 : Value) (bs0 : List Nat), e = .returned (.tuple #[.agg #[v0], .bool r.2]) ∧ OwN 89 agentOw 5 w' w.heap.size v0 r.1.agents bs0) ∧ Below w.heap.size w w' := by
  obtain ⟨csa0, rfl, ⟨A1, n1, c1, rfl, ⟨h1, r1⟩⟩⟩ := hv0
  have e1 := h1.len; subst e1
  have q1 := len_le r1
  have T := Below.refl w.heap.size w
  unfold m_impl_shifted at hm
  refine enter 43 Try.func80 rfl rfl rfl ?_
  intro f hf
  have s0 : f 0 = .agg #[.slice A1 d0.agents.length c1] := hf 0 _ rfl
  have s1 : f 1 = .int .i64 d1 := hf 1 _ rfl
  refine wp_seq ?_
  refine wp_rl rfl ?_
  refine RL.box rfl s0 (fun w2 B3 hb4 szw2 => ?_)
  replace B3 : Blk w2 w.heap.size 30 #[.slice A1 d0.agents.length c1] := B3
  have GB3 : w.heap.size ≤ w.heap.size := T.size
  have T := Tt T hb4
  refine RL.alloc (z := .agg #[.slice none 0 0]) rfl (by kernel_rfl) (fun w6 B7 hb8 szw6 => ?_)
  replace B7 : Blk w6 w2.heap.size 30 #[.slice none 0 0] := B7
  have GB7 : w.heap.size ≤ w2.heap.size := T.size
  have Eob9_ob5 := Nat.ne_of_lt B3.lt
  have B3 := blkT B3 hb8
  have T := Tt T hb8
  refine RL.y rfl (Y.assign (v := .bool false) rfl) ?_
  refine RL.nil ?_
  refine then_n ?_
  refine wp_seq ?_
  refine wp_rl rfl ?_
  refine RL.y rfl (Y.loadN (cs := [.slice A1 d0.agents.length c1]) rfl (by kernel_rfl) (cells1 (eqC (blkCell B3 (i := 0) rfl)))) ?_
  obtain ⟨y10, e11, hm⟩ := bnd hm
  refine RL.call rfl (am1 rfl) (by kernel_rfl) ((c_m_impl_copyNet d0 _ e11 _ _ (stArg (R := netRd) ⟨_, _, _, rfl, ⟨SlAt.now agentRd_ok h1 (Nat.le_refl _) T, r1⟩⟩)).mono ?_)
  rintro _ w16 ⟨⟨v12, bs15, rfl, G13⟩, hb17⟩
  refine ⟨_, rfl, ?_⟩
  have szw16 := hb17.size
  have T0w16 := T.size
  have Zo14_ob5 : Ap bs15 [w.heap.size] := (Ap.new (OwN.lo_ G13) (one_hi B3.lt))
  have Zo14_ob9 : Ap bs15 [w2.heap.size] := (Ap.new (OwN.lo_ G13) (one_hi B7.lt))
  have B3 := blkT B3 hb17
  have B7 := blkT B7 hb17
  have T := Tt T hb17
  replace G13 := OwN.mono G13 T0w16
  refine RL.alloc (z := .agg #[.slice none 0 0]) rfl (by kernel_rfl) (fun w18 B19 hb20 szw18 => ?_)
  replace B19 : Blk w18 w16.heap.size 30 #[.slice none 0 0] := B19
  have GB19 : w.heap.size ≤ w16.heap.size := T.size
  have Eob21_ob5 := Nat.ne_of_lt B3.lt
  have Eob21_ob9 := Nat.ne_of_lt B7.lt
  have No14_ob21 := Ap.far (OwN.hi G13)
  have B3 := blkT B3 hb20
  have B7 := blkT B7 hb20
  have G13 := OwN.below agentOw_ok G13 hb20
  have T := Tt T hb20
  obtain ⟨A22, c23, rfl⟩ := OwN.form G13
  have qbA22 := OwN.bound G13
  refine RL.store (v := .agg #[.slice A22 y10.agents.length c23]) (cs' := #[.slice A22 y10.agents.length c23]) rfl rfl rfl B19 (by kernel_rfl) (by rfl) (by rfl) (by rfl) (fun w24 B25 ho26 => ?_)
  have szw24 := ho26.size
  have B3 := B3.only_ ho26 (by intro hin; simp at hin; exact Eob21_ob5 hin)
  have B7 := B7.only_ ho26 (by intro hin; simp at hin; exact Eob21_ob9 hin)
  have G13 := OwN.only agentOw_ok G13 ho26 (Ap.one No14_ob21)
  have T := T.trans (ho26.below (by first | (simp; done) | (simp; omega)))
  refine RL.nil ?_
  refine then_n ?_
  refine wp_seq ?_
  refine wp_seq ?_
  refine wp_rs rfl ?_
  refine RQ.y rfl (Y.fieldAddr (off := 0) rfl (by kernel_rfl)) ?_
  refine RQ.y rfl (Y.load (v := .slice A22 y10.agents.length c23) rfl (by kernel_rfl) (eqC (blkCell B25 (i := 0) rfl))) ?_
  refine RQ.y rfl (Y.len (by kernel_rfl) rfl) ?_
  refine RQ.y rfl (Y.move (v := .int .i64 0) rfl) ?_
  refine RQ.nil ?_
  refine then_n ?_
  refine wp_block ?_
  obtain ⟨K1, hK1, hm⟩ : ∃ K, K = m_impl_shifted_A1 ∧ m_impl_shifted_L1 d1 y10 K (y10.agents.length + 1) 0 (⟨[]⟩ : DNet) y10 = some r := ⟨_, rfl, hm⟩
  refine wp_loopX (fun g f w' => ∃ (i35 : Int) (z36 : DNet) (z37 : DNet) (uz36_0 : Value) (bsz36_0 : List Nat) (uz37_0 : Value) (bsz37_0 : List Nat), f 1 = .int .i64 d1 ∧ f 4 = .pointer (some ⟨w2.heap.size, 0, none⟩) ∧ f 6 = .pointer (some ⟨w16.heap.size, 0, none⟩) ∧ f 13 = .int .i64 (y10.agents.length : Int) ∧ f 14 = .int .i64 i35 ∧ 0 ≤ i35 ∧ Blk w' w2.heap.size 30 #[uz36_0] ∧ OwN 89 agentOw 5 w' w.heap.size uz36_0 z36.agents bsz36_0 ∧ Blk w' w16.heap.size 30 #[uz37_0] ∧ OwN 89 agentOw 5 w' w.heap.size uz37_0 z37.agents bsz37_0 ∧ Ap bsz36_0 [w2.heap.size] ∧ Ap bsz36_0 [w16.heap.size] ∧ Ap bsz37_0 bsz36_0 ∧ Ap bsz37_0 [w2.heap.size] ∧ Ap bsz37_0 [w16.heap.size] ∧ Below w.heap.size w w' ∧ m_impl_shifted_L1 d1 y10 K1 g i35 z36 z37 = some r) 0 (fun f w' => ∃ (z27 : DNet) (z28 : DNet) (uz27_0 : Value) (bsz27_0 : List Nat) (uz28_0 : Value) (bsz28_0 : List Nat), f 4 = .pointer (some ⟨w2.heap.size, 0, none⟩) ∧ f 6 = .pointer (some ⟨w16.heap.size, 0, none⟩) ∧ Blk w' w2.heap.size 30 #[uz27_0] ∧ OwN 89 agentOw 5 w' w.heap.size uz27_0 z27.agents bsz27_0 ∧ Blk w' w16.heap.size 30 #[uz28_0] ∧ OwN 89 agentOw 5 w' w.heap.size uz28_0 z28.agents bsz28_0 ∧ Ap bsz27_0 [w2.heap.size] ∧ Ap bsz27_0 [w16.heap.size] ∧ Ap bsz28_0 bsz27_0 ∧ Ap bsz28_0 [w2.heap.size] ∧ Ap bsz28_0 [w16.heap.size] ∧ Below w.heap.size w w' ∧ m_impl_shifted_A1 z27 z28 = some r) (y10.agents.length + 1) ⟨0, (⟨[]⟩ : DNet), y10, (.slice none 0 0), [], (.slice A22 y10.agents.length c23), bs15, s1, rfl, rfl, rfl, rfl, (by omega), B7, OwN.nil, B25, G13, Ap.nil, Ap.nil, (Ap.symm Ap.nil), Zo14_ob9, No14_ob21, T, hm⟩ ?_ ?_
  · rintro f w29 ⟨z27, z28, uz27_0, bsz27_0, uz28_0, bsz28_0, s4_1x, s6_1x, Bz27, Guz27_0, Bz28, Guz28_0, Noz27_0_ob9, Noz27_0_ob21, Doz28_0_oz27_0, Noz28_0_ob9, Noz28_0_ob21, T, hm⟩
    unfold m_impl_shifted_A1 at hm
    refine blk_hit (then_n ?_)
    refine wp_seq ?_
    refine wp_rl rfl ?_
    refine RL.y rfl (Y.loadN (cs := [uz28_0]) s6_1x (by kernel_rfl) (cells1 (eqC (blkCell Bz28 (i := 0) rfl)))) ?_
    obtain ⟨A30, c31, rfl⟩ := OwN.form Guz28_0
    have qbA30 := OwN.bound Guz28_0
    refine RL.store (v := .agg #[.slice A30 z28.agents.length c31]) (cs' := #[.slice A30 z28.agents.length c31]) rfl s4_1x rfl Bz27 (by kernel_rfl) (by rfl) (by rfl) (by rfl) (fun w32 B33 ho34 => ?_)
    have szw32 := ho34.size
    have Bz28 := Bz28.only_ ho34 (by intro hin; simp at hin; exact Eob21_ob9.symm hin)
    have Guz27_0 := OwN.only agentOw_ok Guz27_0 ho34 (Ap.one Noz27_0_ob9)
    have Guz28_0 := OwN.only agentOw_ok Guz28_0 ho34 (Ap.one Noz28_0_ob9)
    have T := T.trans (ho34.below (by first | (simp; done) | (simp; omega)))
    refine RL.y rfl (Y.assign (v := .bool true) rfl) ?_
    refine RL.nil ?_
    refine then_n ?_
    refine wp_ret ?_
    obtain rfl := Option.some.inj hm
    exact (retct (cs := [.slice A30 z28.agents.length c31]) rfl rfl s4_1x rfl (by kernel_rfl) (blkCells B33) ⟨⟨_, _, rfl, Guz28_0⟩, T⟩)
  · rintro g f w38 ⟨i35, z36, z37, uz36_0, bsz36_0, uz37_0, bsz37_0, s1_1, s4_1, s6_1, s13_1, s14_1, nn14_1, Bz36, Guz36_0, Bz37, Guz37_0, Noz36_0_ob9, Noz36_0_ob21, Doz37_0_oz36_0, Noz37_0_ob9, Noz37_0_ob21, T, hm⟩
    rcases g with _ | g
    · simp only [m_impl_shifted_L1] at hm; cases hm
    obtain ⟨rec1, hrec1, hm⟩ : ∃ z, z = m_impl_shifted_L1 d1 y10 K1 g ∧ m_impl_shifted_B1 d1 y10 z K1 i35 z36 z37 = some r := ⟨_, rfl, hm⟩
    unfold m_impl_shifted_B1 at hm
    refine wp_seq ?_
    refine wp_rs rfl ?_
    refine RQ.y rfl (Y.binI (v := .bool (decide (i35 < (y10.agents.length : Int)))) s14_1 s13_1 rfl) ?_
    refine RQ.nil ?_
    refine then_n ?_
    refine wp_seq ?_
    rcases bcases (decide (i35 < (y10.agents.length : Int))) with c39 | c39
    · replace hm := cF c39 hm
      have pc39 := of_decide_eq_false c39
      refine cond_f rfl (vb rfl c39) ?_
      refine wp_exit ?_
      exact (then_x (then_x (hit_x ⟨_, rfl, ⟨z36, z37, (uz36_0), bsz36_0, (uz37_0), bsz37_0, s4_1, s6_1, Bz36, Guz36_0, Bz37, Guz37_0, Noz36_0_ob9, Noz36_0_ob21, Doz37_0_oz36_0, Noz37_0_ob9, Noz37_0_ob21, T, (by rw [hK1] at hm; exact hm)⟩⟩)))
    · replace hm := cT c39 hm
      have pc39 := of_decide_eq_true c39
      refine cond_t rfl (vb rfl c39) ?_
      refine wp_skip ?_
      refine then_n ?_
      refine wp_seq ?_
      refine wp_block ?_
      refine wp_seq ?_
      refine wp_rs rfl ?_
      refine RQ.y rfl (Y.move (v := .int .i64 i35) s14_1) ?_
      refine RQ.y rfl (Y.assign (v := .int .i64 i35) rfl) ?_
      refine RQ.nil ?_
      refine then_n ?_
      refine wp_seq ?_
      refine wp_rs rfl ?_
      refine RQ.y rfl (Y.fieldAddr (off := 0) s6_1 (by kernel_rfl)) ?_
      refine RQ.y rfl (Y.load (v := uz37_0) rfl (by kernel_rfl) (eqC (blkCell Bz37 (i := 0) rfl))) ?_
      refine RQ.y rfl (Y.move (v := .int .i64 i35) rfl) ?_
      obtain ⟨A40, c41, rfl⟩ := OwN.form Guz37_0
      have qbA40 := OwN.bound Guz37_0
      obtain ⟨x42, hx44, hm⟩ := bnd hm
      obtain ⟨k43, hk45, hl46, hx44⟩ := getI_some hx44
      obtain ⟨b47, rfl⟩ := OwN.addr0 Guz37_0 (by omega)
      refine RQ.y rfl (Y.indexAddr (m := k43) (sz := 5) rfl rfl hk45 hl46 (by kernel_rfl)) ?_
      refine RQ.y rfl (Y.assign (v := .pointer (some ⟨b47, 0 + k43 * 5, none⟩)) rfl) ?_
      refine RQ.nil ?_
      refine then_n ?_
      refine wp_seq ?_
      refine wp_seq ?_
      refine wp_rb rfl ?_
      refine RQ.y rfl (Y.move (v := .pointer (some ⟨b47, 0 + k43 * 5, none⟩)) rfl) ?_
      refine RQ.y rfl (Y.nilCheck rfl) ?_
      refine RQ.y rfl (Y.fieldAddr (off := 0) rfl (by kernel_rfl)) ?_
      obtain ⟨cs48, hR49, hc50⟩ := OwN.rd agentOw_ok (agentOw_reads _) Guz37_0 hx44
      obtain ⟨A51, n51, c51, A52, n52, c52, rfl, ⟨h51, r51⟩, ⟨h52, r52⟩⟩ := hR49
      have e51 := h51.len; subst e51
      have q51 := len_le r51
      have e52 := h52.len; subst e52
      have q52 := len_le r52
      refine RQ.y rfl (Y.load (v := .int .i64 x42.kind) rfl (by kernel_rfl) (beC (hc50 0 _ rfl))) ?_
      refine RQ.call rfl (am1 rfl) (by kernel_rfl) (v := .bool (hasLevel x42.kind)) (bel (K := fun _ => True) fun w' hb' => (callB (impl_HasLevel x42.kind w'))) ?_
      refine RQ.y rfl (Y.not (b' := (!(hasLevel x42.kind))) rfl rfl) ?_
      refine RQ.nil ?_
      intro w53 hb54
      have szw53 := hb54.size
      have Bz36 := blkT Bz36 hb54
      have Bz37 := blkT Bz37 hb54
      have Guz36_0 := OwN.below agentOw_ok Guz36_0 hb54
      have Guz37_0 := OwN.below agentOw_ok Guz37_0 hb54
      have T := Tt T hb54
      refine then_n ?_
      rcases bcases (hasLevel x42.kind) with c55 | c55
      · replace hm := cF c55 hm
        refine cond_t rfl (vbn rfl c55 rfl) ?_
        refine wp_exit ?_
        refine then_x (blk_hit (then_n ?_))
        refine wp_rs rfl ?_
        refine RQ.y rfl (Y.binI s14_1 rfl (binI_add (m := i35) (by omega))) ?_
        refine RQ.y rfl (Y.move (v := .int .i64 (i35 + 1)) rfl) ?_
        refine RQ.nil ?_
        exact (then_n ⟨g, _, Nat.lt_succ_self _, rfl, ⟨(i35 + 1), z36, z37, (uz36_0), bsz36_0, (.slice (some ⟨b47, 0, none⟩) z37.agents.length c41), bsz37_0, s1_1, s4_1, s6_1, s13_1, rfl, (by omega), Bz36, Guz36_0, Bz37, Guz37_0, Noz36_0_ob9, Noz36_0_ob21, Doz37_0_oz36_0, Noz37_0_ob9, Noz37_0_ob21, T, (by rw [← hrec1]; exact hm)⟩⟩)
      · replace hm := cT c55 hm
        refine cond_f rfl (vbn rfl c55 rfl) ?_
        refine wp_skip ?_
        refine then_n ?_
        refine wp_seq ?_
        refine wp_rl rfl ?_
        refine RL.y rfl (Y.move (v := .pointer (some ⟨b47, 0 + k43 * 5, none⟩)) rfl) ?_
        refine RL.y rfl (Y.nilCheck rfl) ?_
        refine RL.y rfl (Y.fieldAddr (off := 1) rfl (by kernel_rfl)) ?_
        obtain ⟨cs56, hR57, hc58⟩ := OwN.rd agentOw_ok (agentOw_reads _) Guz37_0 hx44
        obtain ⟨A59, n59, c59, A60, n60, c60, rfl, ⟨h59, r59⟩, ⟨h60, r60⟩⟩ := hR57
        have e59 := h59.len; subst e59
        have q59 := len_le r59
        have e60 := h60.len; subst e60
        have q60 := len_le r60
        refine RL.y rfl (Y.load (v := .int .i64 x42.level) rfl (by kernel_rfl) (eqC (hc58 1 _ rfl))) ?_
        refine RL.y rfl (Y.move (v := .int .i64 d1) s1_1) ?_
        obtain ⟨s61, ks61, hm⟩ := bnd hm
        replace ks61 := ck_some ks61
        refine RL.y rfl (Y.binI (v := .int .i64 s61) rfl rfl (by rw [binI_add ks61.2, ks61.1])) ?_
        refine RL.y rfl (Y.nilCheck rfl) ?_
        refine RL.y rfl (Y.fieldAddr (off := 1) rfl (by kernel_rfl)) ?_
        refine RL.storeN (k := k43) (j := 1) (a := x42) (a' := (⟨x42.kind, s61, x42.value, x42.data, x42.ports⟩ : DAgent)) agentOw_ok rfl rfl rfl Guz37_0 hx44 (by decide) (fun ⟨A0, n0, c0, A1, n1, c1, b0, b1, e, h⟩ => ⟨A0, n0, c0, A1, n1, c1, b0, b1, by rw [e]; rfl, h⟩) rfl rfl (by kernel_rfl) (fun w62 G63 ho64 => ?_)
        have szw62 := ho64.size
        have Bz36 := Blk.only_ Bz36 ho64 (by intro hin; have hne := OwN.neB Guz37_0 Noz37_0_ob9; simp at hin; exact hne (by rw [hin]; rfl))
        have Bz37 := Blk.only_ Bz37 ho64 (by intro hin; have hne := OwN.neB Guz37_0 Noz37_0_ob21; simp at hin; exact hne (by rw [hin]; rfl))
        have Guz36_0 := OwN.only agentOw_ok Guz36_0 ho64 (fun hin => (Ap.symm Doz37_0_oz36_0) _ hin (OwN.row Guz37_0 rfl))
        have T := T.trans (ho64.below (by intro b hb; simp at hb; subst hb; exact OwN.lo_ Guz37_0 _ (OwN.row Guz37_0 rfl)))
        have G63 : OwN 89 agentOw 5 w62 w.heap.size (.slice (some ⟨b47, 0, none⟩) z37.agents.length c41) (setI z37.agents i35 (⟨x42.kind, s61, x42.value, x42.data, x42.ports⟩ : DAgent)) bsz37_0 := by rw [hk45, setI_nat]; exact G63
        have hx65 : (setI z37.agents i35 (⟨x42.kind, s61, x42.value, x42.data, x42.ports⟩ : DAgent))[k43]? = some (⟨x42.kind, s61, x42.value, x42.data, x42.ports⟩ : DAgent) := setI_at hk45 hl46
        have hl66 := lt_of_some hx65
        refine RL.nil ?_
        refine then_n ?_
        refine wp_seq ?_
        refine wp_rs rfl ?_
        refine RQ.y rfl (Y.move (v := .pointer (some ⟨b47, 0 + k43 * 5, none⟩)) rfl) ?_
        refine RQ.y rfl (Y.nilCheck rfl) ?_
        refine RQ.y rfl (Y.fieldAddr (off := 1) rfl (by kernel_rfl)) ?_
        obtain ⟨cs67, hR68, hc69⟩ := OwN.rd agentOw_ok (agentOw_reads _) G63 hx65
        obtain ⟨A70, n70, c70, A71, n71, c71, rfl, ⟨h70, r70⟩, ⟨h71, r71⟩⟩ := hR68
        have e70 := h70.len; subst e70
        have q70 := len_le r70
        have e71 := h71.len; subst e71
        have q71 := len_le r71
        refine RQ.y rfl (Y.load (v := .int .i64 ((⟨x42.kind, s61, x42.value, x42.data, x42.ports⟩ : DAgent).level)) rfl (by kernel_rfl) (eqC (hc69 1 _ rfl))) ?_
        refine RQ.y rfl (Y.binI (v := .bool (decide ((⟨x42.kind, s61, x42.value, x42.data, x42.ports⟩ : DAgent).level > 8))) rfl rfl rfl) ?_
        refine RQ.nil ?_
        refine then_n ?_
        rcases bcases (decide ((⟨x42.kind, s61, x42.value, x42.data, x42.ports⟩ : DAgent).level > 8)) with c72 | c72
        · replace hm := cF c72 hm
          have pc72 := of_decide_eq_false c72
          refine cond_f rfl (vb rfl c72) ?_
          refine wp_skip ?_
          refine blk_n (then_n ?_)
          refine wp_rs rfl ?_
          refine RQ.y rfl (Y.binI s14_1 rfl (binI_add (m := i35) (by omega))) ?_
          refine RQ.y rfl (Y.move (v := .int .i64 (i35 + 1)) rfl) ?_
          refine RQ.nil ?_
          exact (then_n ⟨g, _, Nat.lt_succ_self _, rfl, ⟨(i35 + 1), z36, (⟨(setI z37.agents i35 (⟨x42.kind, s61, x42.value, x42.data, x42.ports⟩ : DAgent))⟩ : DNet), (uz36_0), bsz36_0, (.slice (some ⟨b47, 0, none⟩) z37.agents.length c41), bsz37_0, s1_1, s4_1, s6_1, s13_1, rfl, (by omega), Bz36, Guz36_0, Bz37, G63, Noz36_0_ob9, Noz36_0_ob21, Doz37_0_oz36_0, Noz37_0_ob9, Noz37_0_ob21, T, (by rw [← hrec1]; exact hm)⟩⟩)
        · replace hm := cT c72 hm
          have pc72 := of_decide_eq_true c72
          refine cond_t rfl (vb rfl c72) ?_
          refine wp_seq ?_
          refine wp_rl rfl ?_
          refine RL.y rfl (Y.build0 (cells := #[.slice none 0 0])  (by kernel_rfl) (by kernel_rfl)) ?_
          refine RL.store (v := .agg #[.slice none 0 0]) (cs' := #[.slice none 0 0]) rfl s4_1 rfl Bz36 (by kernel_rfl) (by rfl) (by rfl) (by rfl) (fun w73 B74 ho75 => ?_)
          have szw73 := ho75.size
          have Bz37 := Bz37.only_ ho75 (by intro hin; simp at hin; exact Eob21_ob9.symm hin)
          have Guz36_0 := OwN.only agentOw_ok Guz36_0 ho75 (Ap.one Noz36_0_ob9)
          have G63 := OwN.only agentOw_ok G63 ho75 (Ap.one Noz37_0_ob9)
          have T := T.trans (ho75.below (by first | (simp; done) | (simp; omega)))
          refine RL.y rfl (Y.assign (v := .bool false) rfl) ?_
          refine RL.nil ?_
          refine then_n ?_
          refine wp_ret ?_
          obtain rfl := Option.some.inj hm
          exact (blk_r (then_r (then_r (hit_r (blk_r (then_r (retct (cs := [.slice none 0 0]) rfl rfl s4_1 rfl (by kernel_rfl) (blkCells B74) ⟨⟨_, _, rfl, OwN.nil⟩, T⟩)))))))
def m_impl_ShiftLevels (d0 : DNet) (d1 : Int) : Option (DNet × Int) :=
  ((m_impl_ValidNet d0).bind fun y10 => (bif y10 then ((m_impl_isLevel d1).bind fun y18 => (bif y18 then ((m_impl_shifted d0 d1).bind fun y26 => (bif y26.2 then some (y26.1, 0) else some ((⟨[]⟩ : DNet), 9))) else some ((⟨[]⟩ : DNet), 2))) else some ((⟨[]⟩ : DNet), 1)))
set_option maxHeartbeats 2000000 in
theorem c_m_impl_ShiftLevels (d0 : DNet) (d1 : Int) (r : DNet × Int) (hm : m_impl_ShiftLevels d0 d1 = some r) (v0 : Value) (w : World) (hv0 : St netRd w v0 d0) :
    Calls Try.prog 29 #[v0, .int .i64 d1] w fun e w' => (∃ (v0 : Value) (bs0 : List Nat), e = .returned (.tuple #[.agg #[v0], .int .i64 r.2]) ∧ OwN 89 agentOw 5 w' w.heap.size v0 r.1.agents bs0) ∧ Below w.heap.size w w' := by
  obtain ⟨csa0, rfl, ⟨A1, n1, c1, rfl, ⟨h1, r1⟩⟩⟩ := hv0
  have e1 := h1.len; subst e1
  have q1 := len_le r1
  have T := Below.refl w.heap.size w
  unfold m_impl_ShiftLevels at hm
  refine enter 28 Try.func29 rfl rfl rfl ?_
  intro f hf
  have s0 : f 0 = .agg #[.slice A1 d0.agents.length c1] := hf 0 _ rfl
  have s1 : f 1 = .int .i64 d1 := hf 1 _ rfl
  refine wp_seq ?_
  refine wp_rl rfl ?_
  refine RL.box rfl s0 (fun w2 B3 hb4 szw2 => ?_)
  replace B3 : Blk w2 w.heap.size 30 #[.slice A1 d0.agents.length c1] := B3
  have GB3 : w.heap.size ≤ w.heap.size := T.size
  have T := Tt T hb4
  refine RL.alloc (z := .agg #[.slice none 0 0]) rfl (by kernel_rfl) (fun w6 B7 hb8 szw6 => ?_)
  replace B7 : Blk w6 w2.heap.size 30 #[.slice none 0 0] := B7
  have GB7 : w.heap.size ≤ w2.heap.size := T.size
  have Eob9_ob5 := Nat.ne_of_lt B3.lt
  have B3 := blkT B3 hb8
  have T := Tt T hb8
  refine RL.y rfl (Y.assign (v := .int .i64 0) rfl) ?_
  refine RL.nil ?_
  refine then_n ?_
  refine wp_seq ?_
  refine wp_block ?_
  refine wp_seq ?_
  refine wp_rb rfl ?_
  refine RQ.y rfl (Y.loadN (cs := [.slice A1 d0.agents.length c1]) rfl (by kernel_rfl) (cells1 (beC (blkCell B3 (i := 0) rfl)))) ?_
  obtain ⟨y10, e11, hm⟩ := bnd hm
  refine RQ.call rfl (am1 rfl) (by kernel_rfl) (v := .bool y10) (bel (K := fun _ => True) fun w' hb' => (c_m_impl_ValidNet d0 _ e11 _ w' (stArg (R := netRd) ⟨_, _, _, rfl, ⟨SlAt.now agentRd_ok h1 (Nat.le_refl _) (Tt T hb'), r1⟩⟩))) ?_
  refine RQ.y rfl (Y.not (b' := (!y10)) rfl rfl) ?_
  refine RQ.y rfl (Y.assign (v := .bool (!y10)) rfl) ?_
  refine RQ.nil ?_
  intro w12 hb13
  have szw12 := hb13.size
  have B3 := blkT B3 hb13
  have B7 := blkT B7 hb13
  have T := Tt T hb13
  refine then_n ?_
  rcases bcases y10 with c14 | c14
  · replace hm := cF c14 hm
    refine cond_t rfl (vbn rfl c14 rfl) ?_
    refine wp_seq ?_
    refine wp_rl rfl ?_
    refine RL.y rfl (Y.build0 (cells := #[.slice none 0 0])  (by kernel_rfl) (by kernel_rfl)) ?_
    refine RL.store (v := .agg #[.slice none 0 0]) (cs' := #[.slice none 0 0]) rfl rfl rfl B7 (by kernel_rfl) (by rfl) (by rfl) (by rfl) (fun w15 B16 ho17 => ?_)
    have szw15 := ho17.size
    have B3 := B3.only_ ho17 (by intro hin; simp at hin; exact Eob9_ob5 hin)
    have T := T.trans (ho17.below (by first | (simp; done) | (simp; omega)))
    refine RL.y rfl (Y.assign (v := .int .i64 1) rfl) ?_
    refine RL.nil ?_
    refine then_n ?_
    refine wp_ret ?_
    obtain rfl := Option.some.inj hm
    exact (blk_r (then_r (retct (cs := [.slice none 0 0]) rfl rfl rfl rfl (by kernel_rfl) (blkCells B16) ⟨⟨_, _, rfl, OwN.nil⟩, T⟩)))
  · replace hm := cT c14 hm
    refine cond_f rfl (vbn rfl c14 rfl) ?_
    refine wp_seq ?_
    refine wp_rb rfl ?_
    refine RQ.y rfl (Y.move (v := .int .i64 d1) s1) ?_
    obtain ⟨y18, e19, hm⟩ := bnd hm
    refine RQ.call rfl (am1 rfl) (by kernel_rfl) (v := .bool y18) (bel (K := fun _ => True) fun w' hb' => (c_m_impl_isLevel d1 _ e19  w' )) ?_
    refine RQ.y rfl (Y.not (b' := (!y18)) rfl rfl) ?_
    refine RQ.y rfl (Y.assign (v := .bool (!y18)) rfl) ?_
    refine RQ.nil ?_
    intro w20 hb21
    have szw20 := hb21.size
    have B3 := blkT B3 hb21
    have B7 := blkT B7 hb21
    have T := Tt T hb21
    refine then_n ?_
    rcases bcases y18 with c22 | c22
    · replace hm := cF c22 hm
      refine cond_t rfl (vbn rfl c22 rfl) ?_
      refine wp_seq ?_
      refine wp_rl rfl ?_
      refine RL.y rfl (Y.build0 (cells := #[.slice none 0 0])  (by kernel_rfl) (by kernel_rfl)) ?_
      refine RL.store (v := .agg #[.slice none 0 0]) (cs' := #[.slice none 0 0]) rfl rfl rfl B7 (by kernel_rfl) (by rfl) (by rfl) (by rfl) (fun w23 B24 ho25 => ?_)
      have szw23 := ho25.size
      have B3 := B3.only_ ho25 (by intro hin; simp at hin; exact Eob9_ob5 hin)
      have T := T.trans (ho25.below (by first | (simp; done) | (simp; omega)))
      refine RL.y rfl (Y.assign (v := .int .i64 2) rfl) ?_
      refine RL.nil ?_
      refine then_n ?_
      refine wp_ret ?_
      obtain rfl := Option.some.inj hm
      exact (blk_r (then_r (retct (cs := [.slice none 0 0]) rfl rfl rfl rfl (by kernel_rfl) (blkCells B24) ⟨⟨_, _, rfl, OwN.nil⟩, T⟩)))
    · replace hm := cT c22 hm
      refine cond_f rfl (vbn rfl c22 rfl) ?_
      refine wp_skip ?_
      refine blk_n (then_n ?_)
      refine wp_seq ?_
      refine wp_rl rfl ?_
      refine RL.y rfl (Y.loadN (cs := [.slice A1 d0.agents.length c1]) rfl (by kernel_rfl) (cells1 (eqC (blkCell B3 (i := 0) rfl)))) ?_
      refine RL.y rfl (Y.move (v := .int .i64 d1) s1) ?_
      obtain ⟨y26, e27, hm⟩ := bnd hm
      refine RL.call rfl (am2 rfl rfl) (by kernel_rfl) ((c_m_impl_shifted d0 d1 _ e27 _ _ (stArg (R := netRd) ⟨_, _, _, rfl, ⟨SlAt.now agentRd_ok h1 (Nat.le_refl _) T, r1⟩⟩)).mono ?_)
      rintro _ w32 ⟨⟨v28, bs31, rfl, G29⟩, hb33⟩
      refine ⟨_, rfl, ?_⟩
      have szw32 := hb33.size
      have T0w32 := T.size
      have Zo30_ob5 : Ap bs31 [w.heap.size] := (Ap.new (OwN.lo_ G29) (one_hi B3.lt))
      have Zo30_ob9 : Ap bs31 [w2.heap.size] := (Ap.new (OwN.lo_ G29) (one_hi B7.lt))
      have B3 := blkT B3 hb33
      have B7 := blkT B7 hb33
      have T := Tt T hb33
      replace G29 := OwN.mono G29 T0w32
      refine RL.y rfl (Y.move (v := .tuple #[.agg #[v28], .bool y26.2]) rfl) ?_
      refine RL.y rfl (Y.extract (i := 0) rfl rfl) ?_
      refine RL.y rfl (Y.extract (i := 1) rfl rfl) ?_
      refine RL.alloc (z := .agg #[.slice none 0 0]) rfl (by kernel_rfl) (fun w34 B35 hb36 szw34 => ?_)
      replace B35 : Blk w34 w32.heap.size 30 #[.slice none 0 0] := B35
      have GB35 : w.heap.size ≤ w32.heap.size := T.size
      have Eob37_ob5 := Nat.ne_of_lt B3.lt
      have Eob37_ob9 := Nat.ne_of_lt B7.lt
      have No30_ob37 := Ap.far (OwN.hi G29)
      have B3 := blkT B3 hb36
      have B7 := blkT B7 hb36
      have G29 := OwN.below agentOw_ok G29 hb36
      have T := Tt T hb36
      obtain ⟨A38, c39, rfl⟩ := OwN.form G29
      have qbA38 := OwN.bound G29
      refine RL.store (v := .agg #[.slice A38 y26.1.agents.length c39]) (cs' := #[.slice A38 y26.1.agents.length c39]) rfl rfl rfl B35 (by kernel_rfl) (by rfl) (by rfl) (by rfl) (fun w40 B41 ho42 => ?_)
      have szw40 := ho42.size
      have B3 := B3.only_ ho42 (by intro hin; simp at hin; exact Eob37_ob5 hin)
      have B7 := B7.only_ ho42 (by intro hin; simp at hin; exact Eob37_ob9 hin)
      have G29 := OwN.only agentOw_ok G29 ho42 (Ap.one No30_ob37)
      have T := T.trans (ho42.below (by first | (simp; done) | (simp; omega)))
      refine RL.y rfl (Y.assign (v := .bool y26.2) rfl) ?_
      refine RL.nil ?_
      refine then_n ?_
      refine wp_seq ?_
      refine wp_seq ?_
      refine wp_rs rfl ?_
      refine RQ.y rfl (Y.move (v := .bool y26.2) rfl) ?_
      refine RQ.y rfl (Y.not (b' := (!y26.2)) rfl rfl) ?_
      refine RQ.nil ?_
      refine then_n ?_
      rcases bcases y26.2 with c43 | c43
      · replace hm := cF c43 hm
        refine cond_t rfl (vbn rfl c43 rfl) ?_
        refine wp_seq ?_
        refine wp_rl rfl ?_
        refine RL.y rfl (Y.build0 (cells := #[.slice none 0 0])  (by kernel_rfl) (by kernel_rfl)) ?_
        refine RL.store (v := .agg #[.slice none 0 0]) (cs' := #[.slice none 0 0]) rfl rfl rfl B7 (by kernel_rfl) (by rfl) (by rfl) (by rfl) (fun w44 B45 ho46 => ?_)
        have szw44 := ho46.size
        have B41 := B41.only_ ho46 (by intro hin; simp at hin; exact Eob37_ob9.symm hin)
        have G29 := OwN.only agentOw_ok G29 ho46 (Ap.one Zo30_ob9)
        have T := T.trans (ho46.below (by first | (simp; done) | (simp; omega)))
        refine RL.y rfl (Y.assign (v := .int .i64 9) rfl) ?_
        refine RL.nil ?_
        refine then_n ?_
        refine wp_ret ?_
        obtain rfl := Option.some.inj hm
        exact (then_r (retct (cs := [.slice none 0 0]) rfl rfl rfl rfl (by kernel_rfl) (blkCells B45) ⟨⟨_, _, rfl, OwN.nil⟩, T⟩))
      · replace hm := cT c43 hm
        refine cond_f rfl (vbn rfl c43 rfl) ?_
        refine wp_skip ?_
        refine then_n ?_
        refine wp_seq ?_
        refine wp_rl rfl ?_
        refine RL.y rfl (Y.loadN (cs := [.slice A38 y26.1.agents.length c39]) rfl (by kernel_rfl) (cells1 (eqC (blkCell B41 (i := 0) rfl)))) ?_
        refine RL.store (v := .agg #[.slice A38 y26.1.agents.length c39]) (cs' := #[.slice A38 y26.1.agents.length c39]) rfl rfl rfl B7 (by kernel_rfl) (by rfl) (by rfl) (by rfl) (fun w47 B48 ho49 => ?_)
        have szw47 := ho49.size
        have B41 := B41.only_ ho49 (by intro hin; simp at hin; exact Eob37_ob9.symm hin)
        have G29 := OwN.only agentOw_ok G29 ho49 (Ap.one Zo30_ob9)
        have T := T.trans (ho49.below (by first | (simp; done) | (simp; omega)))
        refine RL.y rfl (Y.assign (v := .int .i64 0) rfl) ?_
        refine RL.nil ?_
        refine then_n ?_
        refine wp_ret ?_
        obtain rfl := Option.some.inj hm
        exact (retct (cs := [.slice A38 y26.1.agents.length c39]) rfl rfl rfl rfl (by kernel_rfl) (blkCells B48) ⟨⟨_, _, rfl, G29⟩, T⟩)
end
section
open Go.RowKit
set_option linter.unusedVariables false
set_option linter.unusedSimpArgs false
theorem small_sz {xs : List DAgent} (hs : Small xs) {i : Nat} {x : DAgent} (hx : xs[i]? = some x) : x.data.length ≤ 1048576 ∧ x.ports.length ≤ 1048576 :=
  ⟨hs.data (List.mem_of_getElem? hx), hs.ports (List.mem_of_getElem? hx)⟩
theorem p_ownAgent {x : DAgent} (h : x.data.length ≤ 1048576 ∧ x.ports.length ≤ 1048576) : m_spec_l11OwnAgent x = some x := by
  unfold m_spec_l11OwnAgent m_spec_l00Own
  rw [mustP_ok (by simp; omega), Option.bind_some, Option.bind_some, mustP_ok (by simp; omega), Option.bind_some]
  rfl
theorem flat_id {α : Type} : ∀ l : List α, l.flatMap (fun x => [x]) = l
  | [] => rfl
  | a :: l => by rw [List.flatMap_cons, flat_id l]; rfl
theorem p_own (d : DNet) (hs : Small d.agents) : m_spec_l11Own d = some d := by
  obtain ⟨xs⟩ := d
  have hs : Small xs := hs
  have hl := hs.len
  unfold m_spec_l11Own
  have key := (appL (L := fun g acc i => m_spec_l11Own_L1 ⟨xs⟩ m_spec_l11Own_A1 g i ⟨acc⟩) (d := xs) (f := fun x => [x]) (B := 1) (M := 4294967296) (K := fun acc => some (⟨acc⟩ : DNet))
    (fun x _ => by simp)
    (fun g k x acc hx hM => by
      have hk := lt_of_some hx
      simp -implicitDefEqProofs only [m_spec_l11Own_L1, m_spec_l11Own_B1, dlt hk, cond_true, getI_nat hx, Option.bind_some, p_ownAgent (small_sz hs hx)]
      rw [mustP_ok (by simpa using hM), Option.bind_some])
    (fun g acc => by simp -implicitDefEqProofs only [m_spec_l11Own_L1, m_spec_l11Own_B1, dge, cond_false, m_spec_l11Own_A1])
    [] (xs.length + 1) (by omega) (by simp; omega)).1
  rw [flat_id] at key
  simpa using key
theorem p_copyAgent {x : DAgent} (h : x.data.length ≤ 1048576 ∧ x.ports.length ≤ 1048576) : m_impl_copyAgent x = some x := by
  unfold m_impl_copyAgent m_slices_Clone_int64_int64 m_slices_Clone_impl_Port_impl_Port
  rw [mustP_ok (by simp; omega), Option.bind_some, Option.bind_some, mustP_ok (by simp; omega), Option.bind_some, Option.bind_some]
  rfl
theorem p_copyNet (d : DNet) (hs : Small d.agents) : m_impl_copyNet d = some d := by
  obtain ⟨xs⟩ := d
  have hs : Small xs := hs
  have hl := hs.len
  unfold m_impl_copyNet
  rw [mustP_ok (by simp; omega), Option.bind_some]
  have key := (appL (L := fun g acc i => m_impl_copyNet_L1 ⟨xs⟩ m_impl_copyNet_A1 g i ⟨acc⟩) (d := xs) (f := fun x => [x]) (B := 1) (M := 4294967296) (K := fun acc => some (⟨acc⟩ : DNet))
    (fun x _ => by simp)
    (fun g k x acc hx hM => by
      have hk := lt_of_some hx
      simp -implicitDefEqProofs only [m_impl_copyNet_L1, m_impl_copyNet_B1, dlt hk, cond_true, getI_nat hx, Option.bind_some, p_copyAgent (small_sz hs hx)]
      rw [mustP_ok (by simpa using hM), Option.bind_some])
    (fun g acc => by simp -implicitDefEqProofs only [m_impl_copyNet_L1, m_impl_copyNet_B1, dge, cond_false, m_impl_copyNet_A1])
    [] (xs.length + 1) (by omega) (by simp; omega)).1
  rw [flat_id] at key
  simpa using key
def hiL (xs : List DAgent) : Int := xs.foldl (fun m x => if x.level > m then x.level else m) 0
theorem p_highest (d : DNet) : m_spec_l13Highest d = some (hiL d.agents) := by
  obtain ⟨xs⟩ := d
  unfold m_spec_l13Highest
  exact (foldL (L := m_spec_l13Highest_L1 ⟨xs⟩ m_spec_l13Highest_A1) (d := xs) (f := fun m x => if x.level > m then x.level else m) (I := fun _ _ => True) (K := some)
    (fun g k x s hx _ => by
      have hk := lt_of_some hx
      refine ⟨?_, trivial⟩
      simp -implicitDefEqProofs only [m_spec_l13Highest_L1, m_spec_l13Highest_B1, dlt hk, cond_true, getI_nat hx, Option.bind_some, p_max])
    (fun g s _ => by simp -implicitDefEqProofs only [m_spec_l13Highest_L1, m_spec_l13Highest_B1, dge, cond_false, m_spec_l13Highest_A1]) (xs.length + 1) 0 (Nat.lt_succ_self _) trivial).1
theorem hi_spec : ∀ (xs : List DAgent) (m : Int), (m ≤ xs.foldl (fun m x => if x.level > m then x.level else m) m) ∧ (∀ x ∈ xs, x.level ≤ xs.foldl (fun m x => if x.level > m then x.level else m) m) ∧
    (xs.foldl (fun m x => if x.level > m then x.level else m) m = m ∨ ∃ x ∈ xs, x.level = xs.foldl (fun m x => if x.level > m then x.level else m) m)
  | [], m => ⟨by simp, by simp, by simp⟩
  | y :: ys, m => by
    rw [List.foldl_cons]
    obtain ⟨h1, h2, h3⟩ := hi_spec ys (if y.level > m then y.level else m)
    by_cases hy : y.level > m
    · rw [if_pos hy] at h1 h2 h3 ⊢
      refine ⟨by omega, fun x hx => ?_, ?_⟩
      · rcases List.mem_cons.1 hx with rfl | hx
        · exact h1
        · exact h2 x hx
      · rcases h3 with h3 | ⟨x, hx, h3⟩
        · exact .inr ⟨y, by simp, h3.symm⟩
        · exact .inr ⟨x, by simp [hx], h3⟩
    · rw [if_neg hy] at h1 h2 h3 ⊢
      refine ⟨h1, fun x hx => ?_, ?_⟩
      · rcases List.mem_cons.1 hx with rfl | hx
        · omega
        · exact h2 x hx
      · rcases h3 with h3 | ⟨x, hx, h3⟩
        · exact .inl h3
        · exact .inr ⟨x, by simp [hx], h3⟩
theorem good_level {xs : List DAgent} (G : Good xs) {x : DAgent} (hx : x ∈ xs) : 0 ≤ x.level ∧ x.level ≤ 8 ∧ (hasLevel x.kind = false → x.level = 0) := by
  obtain ⟨i, hi, rfl⟩ := List.getElem_of_mem hx
  have h := agentOk_allowed (G.ok i _ (List.getElem?_eq_getElem hi))
  unfold allowed at h
  simp only [Bool.and_eq_true, Bool.or_eq_true, decide_eq_true_eq, isLevel] at h
  refine ⟨?_, ?_, ?_⟩
  · rcases h.2 with h | h <;> omega
  · rcases h.2 with h | h <;> omega
  · intro hf
    rcases h.2 with h | h
    · exact h
    · rw [hf] at h; cases h.1
def shA (b : Int) (x : DAgent) : DAgent := if hasLevel x.kind = true then ⟨x.kind, x.level + b, x.value, x.data, x.ports⟩ else x
def tooHigh (b : Int) (x : DAgent) : Bool := hasLevel x.kind && decide (x.level + b > 8)
theorem high_iff {xs : List DAgent} (G : Good xs) {b : Int} (h0 : 0 ≤ b) (h8 : b ≤ 8) : decide (hiL xs + b > 8) = xs.any (tooHigh b) := by
  obtain ⟨h1, h2, h3⟩ := hi_spec xs 0
  rw [Bool.eq_iff_iff, decide_eq_true_eq, List.any_eq_true]
  constructor
  · intro h
    rcases h3 with h3 | ⟨x, hx, h3⟩
    · unfold hiL at h; rw [h3] at h; omega
    · refine ⟨x, hx, ?_⟩
      have hg := good_level G hx
      have hl : x.level + b > 8 := by rw [h3]; exact h
      unfold tooHigh
      simp only [Bool.and_eq_true, decide_eq_true_eq]
      refine ⟨?_, hl⟩
      cases hh : hasLevel x.kind with
      | true => rfl
      | false => have := hg.2.2 hh; omega
  · rintro ⟨x, hx, h⟩
    unfold tooHigh at h
    simp only [Bool.and_eq_true, decide_eq_true_eq] at h
    have := h2 x hx
    show hiL xs + b > 8
    unfold hiL
    omega
/-- In the middle of the loop. -/
def midL {α : Type} (f : α → α) (xs : List α) (k : Nat) : List α := (xs.take k).map f ++ xs.drop k
section
variable {α : Type} {f : α → α} {xs : List α} {k : Nat}
theorem midL_len (hk : k ≤ xs.length) : (midL f xs k).length = xs.length := by unfold midL; rw [List.length_append, List.length_map, List.length_take, List.length_drop]; omega
theorem midL_zero : midL f xs 0 = xs := by simp [midL]
theorem midL_end : midL f xs xs.length = xs.map f := by simp [midL]
theorem midL_get {x : α} (hx : xs[k]? = some x) : (midL f xs k)[k]? = some x := by
  have hk := lt_of_some hx
  unfold midL
  rw [List.getElem?_append_right (by simp; omega)]
  simp
  rw [Nat.min_eq_left (by omega)]
  simpa using hx
theorem midL_step {x : α} (hx : xs[k]? = some x) : (midL f xs k).set k (f x) = midL f xs (k + 1) := by
  have hk := lt_of_some hx
  unfold midL
  have hl : ((xs.take k).map f).length = k := by simp; omega
  rw [List.set_append_right _ _ (by omega), hl, Nat.sub_self, drop_some hx, List.set_cons_zero, take_succ_some hx, List.map_append, List.append_assoc]
  rfl
end
theorem shA_not {b : Int} {x : DAgent} (h : hasLevel x.kind = false) : shA b x = x := by unfold shA; rw [h]; simp
theorem shA_yes {b : Int} {x : DAgent} (h : hasLevel x.kind = true) : shA b x = ⟨x.kind, x.level + b, x.value, x.data, x.ports⟩ := by unfold shA; rw [if_pos h]
theorem set_self {α : Type} {xs : List α} {k : Nat} {x : α} (hx : xs[k]? = some x) : xs.set k x = xs := by
  apply List.ext_getElem?
  intro i
  rw [List.getElem?_set]
  split
  · rename_i h; subst h; rw [if_pos (lt_of_some hx), hx]
  · rfl
noncomputable def shiftLevels (d : DNet) (b : Int) : DNet × Int :=
  bif validNet d then (bif inR b 0 8 then (bif d.agents.any (tooHigh b) then (⟨[]⟩, 9) else (⟨d.agents.map (shA b)⟩, 0)) else (⟨[]⟩, 2)) else (⟨[]⟩, 1)
theorem inR8 {b : Int} (h : inR b 0 8 = true) : 0 ≤ b ∧ b ≤ 8 := by simpa [inR] using h
theorem p_sShiftLevels (d : DNet) (b : Int) (hs : Small d.agents) : m_spec_ShiftLevels d b = some (shiftLevels d b) := by
  obtain ⟨xs⟩ := d
  have hs : Small xs := hs
  unfold m_spec_ShiftLevels shiftLevels
  rw [p_ok _ hs, Option.bind_some]
  cases hv : validNet ⟨xs⟩ with
  | false => rfl
  | true =>
    have G : Good xs := good hv
    rw [cond_true, cond_true]
    cases hb : inR b 0 8 with
    | false => rfl
    | true =>
      obtain ⟨b0, b8⟩ := inR8 hb
      rw [cond_true, cond_true, p_highest, Option.bind_some]
      have hh := hi_spec xs 0
      have hbd : hiL xs ≤ 8 := by
        unfold hiL
        rcases hh.2.2 with h | ⟨x, hx, h⟩
        · rw [h]; omega
        · rw [← h]; exact (good_level G hx).2.1
      have hb0 : 0 ≤ hiL xs := hh.1
      simp only
      rw [ck_ok (by omega), Option.bind_some, high_iff G b0 b8]
      cases ha : xs.any (tooHigh b) with
      | true => rfl
      | false =>
        rw [cond_false, cond_false, p_own _ hs, Option.bind_some]
        have key := traj (L := fun g (s : Int × List DAgent) => m_spec_ShiftLevels_L1 b m_spec_ShiftLevels_A1 g s.1 ⟨s.2⟩) (st := fun i => ((i : Int), midL (shA b) xs i)) (n := xs.length) (r := some ((⟨xs.map (shA b)⟩ : DNet), 0))
          (fun g i hi => by
            have hx := List.getElem?_eq_getElem hi
            have hm := midL_get (f := shA b) hx
            have hst := midL_step (f := shA b) hx
            have hl := midL_len (f := shA b) (xs := xs) (k := i) (by omega)
            have hgl := good_level G (List.getElem_mem hi)
            simp -implicitDefEqProofs only [m_spec_ShiftLevels_L1, m_spec_ShiftLevels_B1, hl, dlt hi, cond_true, getI_nat hm, Option.bind_some]
            cases hlv : hasLevel xs[i].kind with
            | false =>
              rw [shA_not hlv, set_self hm] at hst
              rw [cond_false, ← hst]
              simp only [Int.natCast_add, Int.cast_ofNat_Int]
            | true =>
              rw [shA_yes hlv] at hst
              rw [cond_true, ck_ok (by omega), Option.bind_some, setI_nat, hst]
              simp only [Int.natCast_add, Int.cast_ofNat_Int])
          (fun g => by
            have hl := midL_len (f := shA b) (xs := xs) (k := xs.length) (by omega)
            simp -implicitDefEqProofs only [m_spec_ShiftLevels_L1, m_spec_ShiftLevels_B1, hl, dge, cond_false, m_spec_ShiftLevels_A1]
            rw [midL_end]) (xs.length + 1) (Nat.lt_succ_self _)
        simpa [midL_zero] using key
theorem p_isLevel (b : Int) : m_impl_isLevel b = some (inR b 0 8) := by
  unfold m_impl_isLevel inR
  by_cases h : b ≥ 0
  · rw [decide_eq_true h, cond_true]; simp [show 0 ≤ b from h]
  · rw [decide_eq_false h, cond_false]; simp [show ¬ 0 ≤ b from h]
theorem p_shifted {xs : List DAgent} (hs : Small xs) (hl8 : ∀ x ∈ xs, 0 ≤ x.level ∧ x.level ≤ 8) {b : Int} (b0 : 0 ≤ b) (b8 : b ≤ 8) : m_impl_shifted ⟨xs⟩ b = some (bif xs.any (tooHigh b) then (⟨[]⟩, false) else (⟨xs.map (shA b)⟩, true)) := by
  unfold m_impl_shifted
  rw [p_copyNet _ hs, Option.bind_some]
  have key := allO (L := fun g (i : Int) => m_impl_shifted_L1 b ⟨xs⟩ m_impl_shifted_A1 g i ⟨[]⟩ ⟨midL (shA b) xs i.toNat⟩) (n := xs.length) (p := fun k => ∃ x, xs[k]? = some x ∧ tooHigh b x = false) (no := some ((⟨[]⟩ : DNet), false)) (K := some ((⟨xs.map (shA b)⟩ : DNet), true))
    (fun g i hi ⟨x, hx, hp⟩ => by
      have hm := midL_get (f := shA b) hx
      have hst := midL_step (f := shA b) hx
      have hgl := hl8 x (List.mem_of_getElem? hx)
      unfold tooHigh at hp
      rw [show ((i : Int) + 1).toNat = i + 1 by omega, Int.toNat_natCast]
      simp -implicitDefEqProofs only [m_impl_shifted_L1, m_impl_shifted_B1, dlt hi, cond_true, getI_nat hm, Option.bind_some]
      cases hlv : hasLevel x.kind with
      | false =>
        rw [shA_not hlv, set_self hm] at hst
        rw [cond_false, ← hst]
      | true =>
        rw [hlv, Bool.true_and] at hp
        rw [shA_yes hlv] at hst
        rw [cond_true, ck_ok (by omega), Option.bind_some, hp, cond_false, setI_nat, hst])
    (fun g i hi hn => by
      have hx := List.getElem?_eq_getElem hi
      have hm := midL_get (f := shA b) hx
      have hgl := hl8 _ (List.mem_of_getElem? hx)
      have hp : tooHigh b xs[i] = true := by
        cases h : tooHigh b xs[i] with
        | true => rfl
        | false => exact absurd ⟨_, hx, h⟩ hn
      unfold tooHigh at hp
      simp only [Bool.and_eq_true] at hp
      rw [Int.toNat_natCast]
      simp -implicitDefEqProofs only [m_impl_shifted_L1, m_impl_shifted_B1, dlt hi, cond_true, getI_nat hm, Option.bind_some, hp.1]
      rw [ck_ok (by omega), Option.bind_some, hp.2, cond_true])
    (fun g => by
      rw [Int.toNat_natCast]
      simp -implicitDefEqProofs only [m_impl_shifted_L1, m_impl_shifted_B1, dge, cond_false, m_impl_shifted_A1, midL_end]) (xs.length + 1) (Nat.lt_succ_self _)
  have e0 : midL (shA b) xs (0 : Int).toNat = xs := midL_zero
  simp only [e0] at key
  rcases key with ⟨h1, h2⟩ | ⟨h1, h2⟩
  · have ha : xs.any (tooHigh b) = false := by
      rw [List.any_eq_false]
      intro x hx
      obtain ⟨i, hi, rfl⟩ := List.getElem_of_mem hx
      obtain ⟨y, hy, hp⟩ := h1 i hi
      rw [List.getElem?_eq_getElem hi] at hy
      injection hy with hy
      rw [hy, hp]; simp
    rw [ha, cond_false]; exact h2
  · have ha : xs.any (tooHigh b) = true := by
      cases h : xs.any (tooHigh b) with
      | true => rfl
      | false =>
        rw [List.any_eq_false] at h
        exact absurd (fun i hi => ⟨_, List.getElem?_eq_getElem hi, by simpa using h _ (List.getElem_mem hi)⟩) h1
    rw [ha, cond_true]; exact h2
theorem p_iShiftLevels (d : DNet) (b : Int) (hs : Small d.agents) : m_impl_ShiftLevels d b = some (shiftLevels d b) := by
  obtain ⟨xs⟩ := d
  have hs : Small xs := hs
  unfold m_impl_ShiftLevels shiftLevels
  rw [p_valid _ hs, Option.bind_some]
  cases hv : validNet ⟨xs⟩ with
  | false => rfl
  | true =>
    have G : Good xs := good hv
    rw [cond_true, cond_true, p_isLevel, Option.bind_some]
    cases hb : inR b 0 8 with
    | false => rfl
    | true =>
      obtain ⟨b0, b8⟩ := inR8 hb
      rw [cond_true, cond_true, p_shifted hs (fun x hx => ⟨(good_level G hx).1, (good_level G hx).2.1⟩) b0 b8, Option.bind_some]
      cases xs.any (tooHigh b) <;> rfl
theorem szA_map {f : DAgent → DAgent} (h : ∀ x, (f x).data.length = x.data.length ∧ (f x).ports.length = x.ports.length) (xs : List DAgent) : szAgentS (xs.map f) = szAgentS xs := by
  unfold szAgentS
  rw [List.length_map, List.map_map]
  congr 2
  apply List.map_congr_left
  intro x _
  simp only [Function.comp, szAgent, h x]
theorem shiftLevels_sz (d : DNet) (b : Int) (hs : szNet d ≤ 1048576) : szNet (shiftLevels d b).1 ≤ 1048576 := by
  unfold shiftLevels
  cases validNet d with
  | false => show szNet ⟨[]⟩ ≤ _; simp [szNet, szAgentS]
  | true =>
    rw [cond_true]
    cases inR b 0 8 with
    | false => show szNet ⟨[]⟩ ≤ _; simp [szNet, szAgentS]
    | true =>
      rw [cond_true]
      cases d.agents.any (tooHigh b) with
      | true => show szNet ⟨[]⟩ ≤ _; simp [szNet, szAgentS]
      | false =>
        show szNet ⟨d.agents.map (shA b)⟩ ≤ _
        have : szAgentS (d.agents.map (shA b)) = szAgentS d.agents := szA_map (fun x => by unfold shA; split <;> simp) _
        unfold szNet at hs ⊢
        show szAgentS (d.agents.map (shA b)) ≤ _
        omega
end
section
open Go.RowKit
set_option linter.unusedVariables false
def marksF {α : Type} (f : Nat → α) (s k n : Nat) : List α := (List.range n).map fun i => f (k + s * i)
theorem marksF_len {α : Type} (f : Nat → α) (s k n : Nat) : (marksF f s k n).length = n := by simp [marksF]
theorem marksF_succ {α : Type} (f : Nat → α) (s k n : Nat) : marksF f s k (n + 1) = marksF f s k n ++ [f (k + s * n)] := by simp [marksF, List.range_succ]
theorem marksF_get {α : Type} {f : Nat → α} {s k n i : Nat} (hi : i < n) : (marksF f s k n)[i]? = some (f (k + s * i)) := by simp [marksF, hi]
def mkPort (k : Nat) : DPort := (⟨(k : Int), (k : Int) + 1⟩ : DPort)
theorem mkPort_cells (k0 k : Nat) : [Value.int .i64 (mkPort (k0 + 2 * k)).agent, Value.int .i64 (mkPort (k0 + 2 * k)).slot] = [.int .i64 ((k0 : Int) + 2 * k), .int .i64 ((k0 : Int) + 2 * k + 1)] := by simp [mkPort]
set_option maxHeartbeats 2000000 in
theorem markPortS_c (A : Option Addr) (n c k0 : Nat) (xs : List DPort) (bs : List Nat) (w : World) (hx : OwAt portOw 2 w A n xs bs) (hnd : bs.Nodup) (hn : n ≤ 4294967296) (hk0 : k0 ≤ 4611686018427387904) :
    Calls Try.prog 121 #[.slice A n c, .int .i64 k0] w fun e w' => e = .returned (.int .i64 ((k0 + 2 * n : Nat) : Int)) ∧ OwAt portOw 2 w' A n (marksF mkPort 2 k0 n) bs ∧ Only bs w w' := by
  have lx := Lib.hid hx.len
  have hmid := Lib.hid hx.mid
  clear hx
  go_enter Try.func121, Try.ntmps121
  go_wp2
  go_loopw [1, 5] (fun kk i wr => ∃ k : Nat, k ≤ n ∧ i = .int .i64 k ∧ kk = .int .i64 ((k0 : Int) + 2 * k) ∧ Only bs w wr ∧ Hid (MidAt portOw 2 wr A (marksF mkPort 2 k0 k) (xs.drop k) bs)) (fun _ i _ => n - (intOf i).toNat)
  case atStart => exact ⟨0, by omega, rfl, by simp, Only.refl _ _, hmid.out⟩
  case round =>
    obtain ⟨k, hk, rfl, rfl, ho, hm⟩ := hrel
    by_cases hlt : k < n
    · obtain ⟨x, hxk⟩ : ∃ x, xs[k]? = some x := ⟨_, List.getElem?_eq_getElem (by have := lx.out; omega)⟩
      have hm := hm.out
      rw [drop_some hxk] at hm
      obtain ⟨b, o, cs, b1, bx, b2, rfl, hbs, hO, hc, h1, h2⟩ := hm.next
      obtain ⟨rfl, rfl⟩ := hO
      rw [marksF_len] at hc h2
      obtain ⟨hc0, hd0⟩ := hc 0 _ rfl
      obtain ⟨hc1, hd1⟩ := hc 1 _ rfl
      rw [Nat.add_zero] at hc0 hd0
      have HN := Lib.hid hbs
      have Hx := Lib.hid hxk
      have H1 := Lib.hid h1
      have H2 := Lib.hid h2
      clear hbs hxk h1 h2 hm hc
      go_wp2
      go_roundw
      case rel =>
        have hnd' := hnd
        rw [HN.out] at hnd'
        have hb : b ∉ b1 ∧ b ∉ b2 := by simpa using (List.nodup_cons.1 hnd').1
        have hlen : (marksF mkPort 2 k0 k).length = k := marksF_len _ _ _ _
        refine ⟨k + 1, by omega, by go_num, by go_num, ?_, ?_⟩
        · exact ((ho.setCell (by rw [HN.out]; simp) _).setCell (by rw [HN.out]; simp) _)
        rw [marksF_succ, HN.out]
        refine MidAt.step (o := o) rfl (ElAt.setRun portOw_ok (vs := [.int .i64 ((k0 : Int) + 2 * k), .int .i64 ((k0 : Int) + 2 * k + 1)]) (p := o + k * 2) H1.out hb.1 (Or.inr (by omega))) (cs := [.int .i64 ((k0 : Int) + 2 * k), .int .i64 ((k0 : Int) + 2 * k + 1)]) ⟨(mkPort_cells k0 k).symm, rfl⟩ ?_ ?_
        · rw [hlen]
          exact setRun_csAt (vs := [.int .i64 ((k0 : Int) + 2 * k), .int .i64 ((k0 : Int) + 2 * k + 1)]) (fun j hj => by
            match j, hj with
            | 0, _ => exact ⟨_, hc0⟩
            | 1, _ => exact ⟨_, hc1⟩
            | j + 2, hj => simp at hj; omega) (fun j hj => by
            match j, hj with
            | 0, _ => exact hd0
            | 1, _ => exact hd1
            | j + 2, hj => simp at hj; omega)
        · rw [hlen]
          exact ElAt.setRun portOw_ok (vs := [.int .i64 ((k0 : Int) + 2 * k), .int .i64 ((k0 : Int) + 2 * k + 1)]) (p := o + k * 2) H2.out hb.2 (Or.inl (by simp))
      case measure => simp [intOf]; omega
    · obtain rfl : n = k := by omega
      have hm := hm.out
      rw [List.drop_of_length_le (by have := lx.out; omega)] at hm
      have Hm := Lib.hid (hm.whole (n := n) (marksF_len _ _ _ _).symm)
      clear hm
      go_wp2
      go_ret
      exact ⟨rfl, Hm.out, ho⟩
end
section
open Go.RowKit
set_option linter.unusedVariables false
theorem Blk.only {w w' : World} {g lo hi : Nat} {t : TypeId} {cs : Array Value} (h : Blk w g t cs) (ho : OnlyIn lo hi w w') (hg : g < lo ∨ hi ≤ g) : Blk w' g t cs := (ho.block g hg).trans h
def cntA (x : DAgent) : Nat := 3 + x.data.length + 2 * x.ports.length
theorem cntL_agents (xs : List DAgent) : cntL cntA xs ≤ 3 * szAgentS xs := by
  unfold szAgentS cntL
  have : ∀ ys : List DAgent, (ys.map cntA).sum ≤ 3 * ys.length + 2 * (ys.map szAgent).sum := by
    intro ys
    induction ys with
    | nil => simp
    | cons y ys ih =>
      have e : szAgent y = y.data.length + y.ports.length := rfl
      simp only [List.map_cons, List.sum_cons, List.length_cons, cntA]
      omega
  have := this xs
  omega
theorem szAgent_mem {xs : List DAgent} {k : Nat} {x : DAgent} (h : xs[k]? = some x) (hs : szAgentS xs ≤ 1048576) : x.data.length ≤ 1048576 ∧ x.ports.length ≤ 1048576 := by
  have h1 : szAgent x ≤ (xs.map szAgent).sum := by
    have hm := List.mem_of_getElem? h
    clear h hs
    induction xs with
    | nil => cases hm
    | cons y ys ih =>
      rcases List.mem_cons.1 hm with rfl | h
      · simp
      · have := ih h; simp; omega
  have e : szAgent x = x.data.length + x.ports.length := rfl
  unfold szAgentS at hs
  omega
theorem set3_block {w : World} {b p j : Nat} {u0 u1 u2 : Value} (h : j ≠ b) : (((w.setCell ⟨b, p, none⟩ u0).setCell ⟨b, p + 1, none⟩ u1).setCell ⟨b, p + 2, none⟩ u2).heap[j]? = w.heap[j]? := by
  rw [Below.heap_setCell _ ⟨b, p + 2, none⟩ _ _ h, Below.heap_setCell _ ⟨b, p + 1, none⟩ _ _ h, Below.heap_setCell _ ⟨b, p, none⟩ _ _ h]
theorem set3_cell {w : World} {b p q : Nat} {u0 u1 u2 : Value} (h : p + 3 ≤ q) : (((w.setCell ⟨b, p, none⟩ u0).setCell ⟨b, p + 1, none⟩ u1).setCell ⟨b, p + 2, none⟩ u2).cell? ⟨b, q, none⟩ = w.cell? ⟨b, q, none⟩ := by
  rw [World.cell?_setCell_other _ _ _ _ (fun e => by injection e with _ e2; omega), World.cell?_setCell_other _ _ _ _ (fun e => by injection e with _ e2; omega), World.cell?_setCell_other _ _ _ _ (fun e => by injection e with _ e2; omega)]
/-- What lies ahead of the loop. -/
def Ahead (wr : World) (A : Option Addr) (k : Nat) (rest : List DAgent) (bs : List Nat) : Prop :=
  rest = [] ∨ ∃ b o b2, A = some ⟨b, o, none⟩ ∧ ElAt agentOw 5 wr b (o + k * 5) rest b2 ∧ b ∈ bs ∧ b ∉ b2 ∧ b2.Nodup ∧ ∀ j ∈ b2, j ∈ bs
set_option maxHeartbeats 4000000 in
theorem markAgentS_c (A : Option Addr) (n c k0 : Nat) (xs : List DAgent) (bs : List Nat) (w : World) (hx : OwAt agentOw 5 w A n xs bs) (hnd : bs.Nodup) (hs : szAgentS xs ≤ 1048576) (hk0 : k0 ≤ 4294967296) :
    Calls Try.prog 70 #[.slice A n c, .int .i64 k0] w fun e w' => e = .returned (.int .i64 ((k0 + cntL cntA xs : Nat) : Int)) ∧ Only bs w w' := by
  have lx := Lib.hid hx.len
  have hn : n ≤ 1048576 := by have := lx.out; unfold szAgentS at hs; omega
  have hcl := cntL_agents xs
  have hst := Lib.hid (show Ahead w A 0 xs bs by
    rcases hx.2 with ⟨e1, e2⟩ | ⟨b, o, b2, e1, e2, h⟩
    · exact .inl e1
    · rw [e2] at hnd ⊢
      exact .inr ⟨b, o, b2, e1, by simpa using h, by simp, (List.nodup_cons.1 hnd).1, (List.nodup_cons.1 hnd).2, fun j hj => by simp [hj]⟩)
  clear hx
  go_enter Try.func70, Try.ntmps70
  go_wp2_with fail
  go_loopw [1, 5] (fun kk i wr => ∃ k : Nat, k ≤ n ∧ i = .int .i64 k ∧ kk = .int .i64 ((k0 : Int) + (cntL cntA (xs.take k) : Nat)) ∧ Only bs w wr ∧ Hid (Ahead wr A k (xs.drop k) bs)) (fun _ i _ => n - (intOf i).toNat)
  case atStart => exact ⟨0, by omega, rfl, by simp [cntL], Only.refl _ _, hst.out⟩
  case round =>
    obtain ⟨k, hk, rfl, rfl, ho, hm⟩ := hrel
    by_cases hlt : k < n
    · obtain ⟨x, hxk⟩ : ∃ x, xs[k]? = some x := ⟨_, List.getElem?_eq_getElem (by have := lx.out; omega)⟩
      have hm := hm.out
      rw [drop_some hxk] at hm
      rcases hm with h0 | ⟨b, o, b2, rfl, hE, hbb, hb2, hn2, hin⟩
      · cases h0
      obtain ⟨cs, bx, b3, hO, hc, rfl, h2⟩ := hE
      obtain ⟨A1, n1, c1, A2, n2, c2, bd, bp, rfl, ⟨hd, rd⟩, ⟨hp, rp⟩, rfl⟩ := hO
      obtain ⟨hc0, hd0⟩ := hc 0 _ rfl
      obtain ⟨hc1, hd1⟩ := hc 1 _ rfl
      obtain ⟨hc2, hd2⟩ := hc 2 _ rfl
      obtain ⟨hc3, hd3⟩ := hc 3 _ rfl
      obtain ⟨hc4, hd4⟩ := hc 4 _ rfl
      rw [Nat.add_zero] at hc0 hd0
      have hsz := szAgent_mem hxk hs
      have hct := cntL_take (cnt := cntA) hxk
      have hcx : cntA x = 3 + x.data.length + 2 * x.ports.length := rfl
      have hcm := cntL_le (cnt := cntA) xs (k + 1)
      have hck := cntL_le (cnt := cntA) xs k
      have nb : b ∉ bd ∧ b ∉ bp ∧ b ∉ b3 := by simpa using hb2
      have hn2' := List.nodup_append.1 hn2
      have hn3 := List.nodup_append.1 hn2'.1
      have ld := Lib.hid hd.len
      have lp := Lib.hid hp.len
      have T0 : ∀ (u0 u1 u2 : Value), Touch b (o + k * 5) 5 (bd ++ bp) wr (((wr.setCell ⟨b, o + k * 5, none⟩ u0).setCell ⟨b, o + k * 5 + 1, none⟩ u1).setCell ⟨b, o + k * 5 + 2, none⟩ u2) := fun u0 u1 u2 =>
        ((Touch.refl.set (by omega) (by omega) _).set (by omega) (by omega) _).set (by omega) (by omega) _
      have HE := Lib.hid h2
      have HD := Lib.hid hd
      have HP := Lib.hid hp
      have HX := Lib.hid hxk
      have HT := Lib.hid T0
      have HI := Lib.hid hin
      have N1 := Lib.hid hn2'
      have N2 := Lib.hid hn3
      have NB := Lib.hid nb
      have HB := Lib.hid hb2
      have HL := Lib.hid hct
      clear h2 hd hp hxk T0 hin hn2' hn3 nb hb2 hc hn2 hct
      go_wp2_with fail
      have T3 := HT.out (.int .i64 ((k0 : Int) + (cntL cntA (xs.take k) : Nat))) (.int .i64 ((k0 : Int) + (cntL cntA (xs.take k) : Nat) + 1)) (.int .i64 ((k0 : Int) + (cntL cntA (xs.take k) : Nat) + 1 + 1))
      rw [show (k0 : Int) + (cntL cntA (xs.take k) : Nat) + 1 + 1 + 1 = ((k0 + cntL cntA (xs.take k) + 3 : Nat) : Int) from by omega]
      have OD : OwAt intOw 1 (((wr.setCell ⟨b, o + k * 5, none⟩ (.int .i64 ((k0 : Int) + (cntL cntA (xs.take k) : Nat)))).setCell ⟨b, o + k * 5 + 1, none⟩ (.int .i64 ((k0 : Int) + (cntL cntA (xs.take k) : Nat) + 1))).setCell ⟨b, o + k * 5 + 2, none⟩ (.int .i64 ((k0 : Int) + (cntL cntA (xs.take k) : Nat) + 1 + 1))) A1 n1 x.data bd :=
        HD.out.keep intOw_ok (fun j hj => set3_block (fun e => NB.out.1 (by rw [← e]; exact hj)))
      refine (markInt64S_c A1 n1 c1 (k0 + cntL cntA (xs.take k) + 3) x.data bd _ OD N2.out.1 (by have := ld.out; omega) (by omega)).mono ?_
      rintro e w4 ⟨rfl, _, o4⟩
      have hc4' : w4.cell? ⟨b, o + k * 5 + 4, none⟩ = some (.slice A2 n2 c2) := ((World.cell?_of_block (a := ⟨b, o + k * 5 + 4, none⟩) (o4.block b NB.out.1)).trans (set3_cell (by omega))).trans hc4
      go_wp2_with fail
      rw [show (k0 : Int) + (cntL cntA (xs.take k) : Nat) + 3 + (n1 : Nat) = ((k0 + cntL cntA (xs.take k) + 3 + n1 : Nat) : Int) from by omega]
      have OP : OwAt portOw 2 w4 A2 n2 x.ports bp := HP.out.keep portOw_ok (fun j hj => (o4.block j (fun hjd => N2.out.2.2 j hjd j hj rfl)).trans (set3_block (fun e => NB.out.2.1 (by rw [← e]; exact hj))))
      refine (markPortS_c A2 n2 c2 _ x.ports bp w4 OP N2.out.2.1 (by have := lp.out; omega) (by have := ld.out; omega)).mono ?_
      rintro e w5 ⟨rfl, _, o5⟩
      go_wp2_with fail
      go_roundw
      case rel =>
        have e1 := ld.out
        have e2 := lp.out
        have e3 := HL.out
        have OO : Only (b :: (bd ++ bp)) wr w5 := (T3.only_.trans (o4.mono (fun j hj => by simp [hj]))).trans (o5.mono (fun j hj => by simp [hj]))
        refine ⟨k + 1, by omega, by go_num, congrArg (Value.int .i64) (by omega), ho.trans (OO.mono (fun j hj => ?_)), .inr ⟨b, o, b3, rfl, ?_, hbb, NB.out.2.2, N1.out.2.1, fun j hj => HI.out j (by simp [hj])⟩⟩
        · rcases List.mem_cons.1 hj with rfl | hj
          · exact hbb
          · exact HI.out j (by simp only [List.mem_append] at hj ⊢; exact .inl hj)
        · rw [show o + (k + 1) * 5 = o + k * 5 + 5 by omega]
          refine ElAt.keepC agentOw_ok (w := wr) (fun q h1 h2 => ?_) (fun j hj => ?_) HE.out
          · have hw3 := T3.cell q (.inr (by omega))
            have hf3 := T3.frozen q
            refine ⟨?_, ?_⟩
            · exact ((World.cell?_of_block (a := ⟨b, q, none⟩) (o5.block b NB.out.2.1)).trans (World.cell?_of_block (a := ⟨b, q, none⟩) (o4.block b NB.out.1))).trans hw3
            · exact ((World.frozen?_of_block (a := ⟨b, q, none⟩) (o5.block b NB.out.2.1)).trans (World.frozen?_of_block (a := ⟨b, q, none⟩) (o4.block b NB.out.1))).trans hf3
          · exact OO.block j (fun hin => by
              rcases List.mem_cons.1 hin with rfl | hin
              · exact NB.out.2.2 hj
              · exact N1.out.2.2 j hin j hj rfl)
      case measure => simp [intOf]; omega
    · obtain rfl : n = k := by omega
      have hlast : xs.take n = xs := List.take_of_length_le (by have := lx.out; omega)
      rw [hlast]
      have HLast := Lib.hid hlast
      clear hlast
      go_wp2_with fail
      go_ret
      exact ⟨retI (by omega), ho⟩
theorem markNet_v (v : Value) (x : DNet) (w : World) (k : Int) (lo hi : Nat) (h : OwT netOw w v x lo hi) (hh : hi ≤ w.heap.size) (hs : szNet x ≤ 1048576) (h0 : 0 ≤ k) (hk : k ≤ 1048576) :
    Calls Try.prog 23 #[v, .int .i64 k] w fun e w' => ∃ m : Nat, e = .returned (.int .i64 (m : Int)) ∧ ∃ wb, Below w.heap.size w wb ∧ wb.heap.size = w'.heap.size ∧ OnlyIn lo hi wb w' := by
  obtain ⟨cs, bs, rfl, ⟨A1, n1, c1, b1, rfl, ⟨h1, r1⟩, rfl⟩, hnd, hb⟩ := h
  obtain ⟨k0, rfl⟩ := Int.eq_ofNat_of_zero_le h0
  have hA : ∀ o1, Below w.heap.size w (w.alloc o1) := fun o1 => (Below.refl _ _).alloc (Nat.le_refl _) _
  have HK := Lib.hid (show ∀ o1, OwAt agentOw 5 (w.alloc o1) A1 n1 x.agents bs from fun o1 => h1.keep agentOw_ok (fun j hj => (hA o1).block j (by have := hb j hj; omega)))
  have HN := Lib.hid hnd
  have HB := Lib.hid hb
  have HS : szAgentS x.agents ≤ 1048576 := hs
  have hcl := cntL_agents x.agents
  clear h1 hb hnd
  go_enter Try.func23, Try.ntmps23
  go_wp2_with fail
  refine (markAgentS_c A1 n1 c1 k0 x.agents bs _ (HK.out _) HN.out HS (by omega)).mono ?_
  rintro e w1 ⟨rfl, o1⟩
  go_wp2_with fail
  go_ret
  exact ⟨_, rfl, _, hA _, o1.size.symm, o1.in_ HB.out⟩
end
section
open Go.RowKit
set_option linter.unusedVariables false
def mkAgent (k : Nat) (x : DAgent) : DAgent := ⟨(k : Int), ((k + 1 : Nat) : Int), ((k + 2 : Nat) : Int), marks (k + 3) x.data.length, marksF mkPort 2 (k + 3 + x.data.length) x.ports.length⟩
def markA (k : Nat) (xs : List DAgent) : List DAgent := mkL mkAgent cntA k xs
set_option maxHeartbeats 4000000 in
theorem markAgentS_q (A : Option Addr) (n c k0 : Nat) (xs : List DAgent) (bs : List Nat) (w : World) (hx : OwAt agentOw 5 w A n xs bs) (hnd : bs.Nodup) (hs : szAgentS xs ≤ 1048576) (hk0 : k0 ≤ 4294967296) :
    Calls Try.prog 70 #[.slice A n c, .int .i64 k0] w fun e w' => e = .returned (.int .i64 ((k0 + cntL cntA xs : Nat) : Int)) ∧ OwAt agentOw 5 w' A n (markA k0 xs) bs ∧ Only bs w w' := by
  have lx := Lib.hid hx.len
  have hn : n ≤ 1048576 := by have := lx.out; unfold szAgentS at hs; omega
  have hcl := cntL_agents xs
  have hmid := Lib.hid hx.mid
  clear hx
  go_enter Try.func70, Try.ntmps70
  go_wp2_with fail
  go_loopw [1, 5] (fun kk i wr => ∃ k : Nat, k ≤ n ∧ i = .int .i64 k ∧ kk = .int .i64 ((k0 : Int) + (cntL cntA (xs.take k) : Nat)) ∧ Only bs w wr ∧ Hid (MidAt agentOw 5 wr A (markA k0 (xs.take k)) (xs.drop k) bs)) (fun _ i _ => n - (intOf i).toNat)
  case atStart => exact ⟨0, by omega, rfl, by simp [cntL], Only.refl _ _, hmid.out⟩
  case round =>
    obtain ⟨k, hk, rfl, rfl, ho, hm⟩ := hrel
    by_cases hlt : k < n
    · obtain ⟨x, hxk⟩ : ∃ x, xs[k]? = some x := ⟨_, List.getElem?_eq_getElem (by have := lx.out; omega)⟩
      have hm := hm.out
      rw [drop_some hxk] at hm
      obtain ⟨b, o, cs, b1, bx, b3, rfl, hbs, hO, hc, h1, h2⟩ := hm.next
      have hlen : (markA k0 (xs.take k)).length = k := by unfold markA; rw [mkL_len, List.length_take]; have := lx.out; omega
      rw [hlen] at hc h2
      obtain ⟨A1, n1, c1, A2, n2, c2, bd, bp, rfl, ⟨hd, rd⟩, ⟨hp, rp⟩, rfl⟩ := hO
      obtain ⟨hc0, hd0⟩ := hc 0 _ rfl
      obtain ⟨hc1, hd1⟩ := hc 1 _ rfl
      obtain ⟨hc2, hd2⟩ := hc 2 _ rfl
      obtain ⟨hc3, hd3⟩ := hc 3 _ rfl
      obtain ⟨hc4, hd4⟩ := hc 4 _ rfl
      rw [Nat.add_zero] at hc0 hd0
      have hsz := szAgent_mem hxk hs
      have hct := cntL_take (cnt := cntA) hxk
      have hcx : cntA x = 3 + x.data.length + 2 * x.ports.length := rfl
      have hcm := cntL_le (cnt := cntA) xs (k + 1)
      have hck := cntL_le (cnt := cntA) xs k
      have hnd' := hnd
      rw [hbs] at hnd'
      have nb : b ∉ b1 ∧ (b ∉ bd ∧ b ∉ bp) ∧ b ∉ b3 := by have := (List.nodup_cons.1 hnd').1; simp only [List.mem_append, not_or] at this; exact this
      have hn1 := List.nodup_append.1 (List.nodup_cons.1 hnd').2
      have hn2' := List.nodup_append.1 hn1.2.1
      have hn3 := List.nodup_append.1 hn2'.1
      have ld := Lib.hid hd.len
      have lp := Lib.hid hp.len
      have T0 : ∀ (u0 u1 u2 : Value), Touch b (o + k * 5) 5 (bd ++ bp) wr (((wr.setCell ⟨b, o + k * 5, none⟩ u0).setCell ⟨b, o + k * 5 + 1, none⟩ u1).setCell ⟨b, o + k * 5 + 2, none⟩ u2) := fun u0 u1 u2 =>
        ((Touch.refl.set (by omega) (by omega) _).set (by omega) (by omega) _).set (by omega) (by omega) _
      have S0 : ∀ (u0 u1 u2 : Value), CsAt (((wr.setCell ⟨b, o + k * 5, none⟩ u0).setCell ⟨b, o + k * 5 + 1, none⟩ u1).setCell ⟨b, o + k * 5 + 2, none⟩ u2) b (o + k * 5) [u0, u1, u2] := fun u0 u1 u2 =>
        setRun_csAt (w := wr) (vs := [u0, u1, u2]) (fun j hj => by
          rcases j with _ | _ | _ | j
          · exact ⟨_, hc0⟩
          · exact ⟨_, hc1⟩
          · exact ⟨_, hc2⟩
          · simp only [List.length_cons, List.length_nil] at hj; omega) (fun j hj => by
          rcases j with _ | _ | _ | j
          · exact hd0
          · exact hd1
          · exact hd2
          · simp only [List.length_cons, List.length_nil] at hj; omega)
      have HE := Lib.hid h2
      have HF := Lib.hid h1
      have HD := Lib.hid hd
      have HP := Lib.hid hp
      have HX := Lib.hid hxk
      have HT := Lib.hid T0
      have HS := Lib.hid S0
      have HI := Lib.hid hbs
      have N0 := Lib.hid hn1
      have N1 := Lib.hid hn2'
      have N2 := Lib.hid hn3
      have NB := Lib.hid nb
      have HL := Lib.hid hct
      have HLN := Lib.hid hlen
      clear h2 h1 hd hp hxk T0 S0 hbs hn1 hn2' hn3 nb hc hct hlen hnd' hm
      go_wp2_with fail
      have T3 := HT.out (.int .i64 ((k0 : Int) + (cntL cntA (xs.take k) : Nat))) (.int .i64 ((k0 : Int) + (cntL cntA (xs.take k) : Nat) + 1)) (.int .i64 ((k0 : Int) + (cntL cntA (xs.take k) : Nat) + 1 + 1))
      have S3 := HS.out (.int .i64 ((k0 : Int) + (cntL cntA (xs.take k) : Nat))) (.int .i64 ((k0 : Int) + (cntL cntA (xs.take k) : Nat) + 1)) (.int .i64 ((k0 : Int) + (cntL cntA (xs.take k) : Nat) + 1 + 1))
      rw [show (k0 : Int) + (cntL cntA (xs.take k) : Nat) + 1 + 1 + 1 = ((k0 + cntL cntA (xs.take k) + 3 : Nat) : Int) from by omega]
      have OD : OwAt intOw 1 (((wr.setCell ⟨b, o + k * 5, none⟩ (.int .i64 ((k0 : Int) + (cntL cntA (xs.take k) : Nat)))).setCell ⟨b, o + k * 5 + 1, none⟩ (.int .i64 ((k0 : Int) + (cntL cntA (xs.take k) : Nat) + 1))).setCell ⟨b, o + k * 5 + 2, none⟩ (.int .i64 ((k0 : Int) + (cntL cntA (xs.take k) : Nat) + 1 + 1))) A1 n1 x.data bd :=
        HD.out.keep intOw_ok (fun j hj => set3_block (fun e => NB.out.2.1.1 (by rw [← e]; exact hj)))
      refine (markInt64S_c A1 n1 c1 (k0 + cntL cntA (xs.take k) + 3) x.data bd _ OD N2.out.1 (by have := ld.out; omega) (by omega)).mono ?_
      rintro e w4 ⟨rfl, md, o4⟩
      have hc4' : w4.cell? ⟨b, o + k * 5 + 4, none⟩ = some (.slice A2 n2 c2) := ((World.cell?_of_block (a := ⟨b, o + k * 5 + 4, none⟩) (o4.block b NB.out.2.1.1)).trans (set3_cell (by omega))).trans hc4
      have MD := Lib.hid md
      clear md
      go_wp2_with fail
      rw [show (k0 : Int) + (cntL cntA (xs.take k) : Nat) + 3 + (n1 : Nat) = ((k0 + cntL cntA (xs.take k) + 3 + n1 : Nat) : Int) from by omega]
      have OP : OwAt portOw 2 w4 A2 n2 x.ports bp := HP.out.keep portOw_ok (fun j hj => (o4.block j (fun hjd => N2.out.2.2 j hjd j hj rfl)).trans (set3_block (fun e => NB.out.2.1.2 (by rw [← e]; exact hj))))
      refine (markPortS_c A2 n2 c2 _ x.ports bp w4 OP N2.out.2.1 (by have := lp.out; omega) (by have := ld.out; omega)).mono ?_
      rintro e w5 ⟨rfl, mp, o5⟩
      have MP := Lib.hid mp
      clear mp
      go_wp2_with fail
      go_roundw
      case rel =>
        have e1 := ld.out
        have e2 := lp.out
        have e3 := HL.out
        have OO : Only (b :: (bd ++ bp)) wr w5 := (T3.only_.trans (o4.mono (fun j hj => by simp [hj]))).trans (o5.mono (fun j hj => by simp [hj]))
        have hcell : ∀ q, w5.cell? ⟨b, q, none⟩ = (((wr.setCell ⟨b, o + k * 5, none⟩ (.int .i64 ((k0 : Int) + (cntL cntA (xs.take k) : Nat)))).setCell ⟨b, o + k * 5 + 1, none⟩ (.int .i64 ((k0 : Int) + (cntL cntA (xs.take k) : Nat) + 1))).setCell ⟨b, o + k * 5 + 2, none⟩ (.int .i64 ((k0 : Int) + (cntL cntA (xs.take k) : Nat) + 1 + 1))).cell? ⟨b, q, none⟩ := fun q =>
          (World.cell?_of_block (a := ⟨b, q, none⟩) (o5.block b NB.out.2.1.2)).trans (World.cell?_of_block (a := ⟨b, q, none⟩) (o4.block b NB.out.2.1.1))
        have hfroz : ∀ q, w5.frozen? ⟨b, q, none⟩ = (((wr.setCell ⟨b, o + k * 5, none⟩ (.int .i64 ((k0 : Int) + (cntL cntA (xs.take k) : Nat)))).setCell ⟨b, o + k * 5 + 1, none⟩ (.int .i64 ((k0 : Int) + (cntL cntA (xs.take k) : Nat) + 1))).setCell ⟨b, o + k * 5 + 2, none⟩ (.int .i64 ((k0 : Int) + (cntL cntA (xs.take k) : Nat) + 1 + 1))).frozen? ⟨b, q, none⟩ := fun q =>
          (World.frozen?_of_block (a := ⟨b, q, none⟩) (o5.block b NB.out.2.1.2)).trans (World.frozen?_of_block (a := ⟨b, q, none⟩) (o4.block b NB.out.2.1.1))
        refine ⟨k + 1, by omega, by go_num, congrArg (Value.int .i64) (by omega), ho.trans (OO.mono (fun j hj => ?_)), ?_⟩
        · rw [HI.out]; simp only [List.mem_cons, List.mem_append] at hj ⊢
          rcases hj with hj | hj
          · exact .inl hj
          · exact .inr (.inr (.inl hj))
        · show Hid _
          refine ?_
          unfold markA
          rw [mkL_take HX.out, HI.out]
          have hl := HLN.out
          unfold markA at hl
          refine MidAt.step (o := o) (cs := [.int .i64 ((k0 : Int) + (cntL cntA (xs.take k) : Nat)), .int .i64 ((k0 : Int) + (cntL cntA (xs.take k) : Nat) + 1), .int .i64 ((k0 : Int) + (cntL cntA (xs.take k) : Nat) + 1 + 1), .slice A1 n1 c1, .slice A2 n2 c2]) rfl ?_ ?_ ?_ ?_
          · refine ElAt.keepC agentOw_ok (w := wr) (fun q h1 h2 => ?_) (fun j hj => ?_) HF.out
            · unfold markA at h2
              rw [hl] at h2
              exact ⟨(hcell q).trans (T3.cell q (.inl (by omega))), (hfroz q).trans (T3.frozen q)⟩
            · exact OO.block j (fun hin => by
                rcases List.mem_cons.1 hin with rfl | hin
                · exact NB.out.1 hj
                · exact N0.out.2.2 j hj j (by simp only [List.mem_append] at hin ⊢; exact .inl hin) rfl)
          · refine ⟨A1, n1, c1, A2, n2, c2, bd, bp, ?_, ⟨?_, rd⟩, ⟨?_, rp⟩, rfl⟩
            · simp only [mkAgent]
              rw [show ((k0 + cntL cntA (xs.take k) : Nat) : Int) = (k0 : Int) + (cntL cntA (xs.take k) : Nat) from by omega, show ((k0 + cntL cntA (xs.take k) + 1 : Nat) : Int) = (k0 : Int) + (cntL cntA (xs.take k) : Nat) + 1 from by omega, show ((k0 + cntL cntA (xs.take k) + 2 : Nat) : Int) = (k0 : Int) + (cntL cntA (xs.take k) : Nat) + 1 + 1 from by omega]
            · have := MD.out.keep intOw_ok (w' := w5) (fun j hj => o5.block j (fun hin => N2.out.2.2 j hj j hin rfl))
              simp only [mkAgent]; rw [← e1]; exact this
            · have := MP.out
              simp only [mkAgent]; rw [← e1, ← e2]; exact this
          · rw [hl]
            intro j v hj
            rw [hcell, hfroz]
            rcases j with _ | _ | _ | _ | _ | j
            · exact S3 0 v hj
            · exact S3 1 v hj
            · exact S3 2 v hj
            · simp at hj; subst hj
              exact ⟨(set3_cell (by omega)).trans hc3, (T3.frozen _).trans hd3⟩
            · simp at hj; subst hj
              exact ⟨(set3_cell (by omega)).trans hc4, (T3.frozen _).trans hd4⟩
            · simp at hj
          · rw [hl]
            refine ElAt.keepC agentOw_ok (w := wr) (fun q h1 h2 => ?_) (fun j hj => ?_) HE.out
            · exact ⟨(hcell q).trans (T3.cell q (.inr (by omega))), (hfroz q).trans (T3.frozen q)⟩
            · exact OO.block j (fun hin => by
                rcases List.mem_cons.1 hin with rfl | hin
                · exact NB.out.2.2 hj
                · exact N1.out.2.2 j hin j hj rfl)
      case measure => simp [intOf]; omega
    · obtain rfl : n = k := by omega
      have hlast : xs.take n = xs := List.take_of_length_le (by have := lx.out; omega)
      have hdl : xs.drop n = [] := List.drop_eq_nil_of_le (by have := lx.out; omega)
      have hm := hm.out
      rw [hlast, hdl] at hm
      rw [hlast]
      have HM := Lib.hid (hm.whole (by unfold markA; rw [mkL_len]; first | done | exact lx.out))
      clear hlast hdl hm
      go_wp2_with fail
      go_ret
      exact ⟨retI (by omega), by rw [lx.out]; first | exact HM.out | (have h := HM.out; rw [lx.out] at h; exact h), ho⟩
theorem markNet_q (v : Value) (x : DNet) (w : World) (k : Int) (lo hi : Nat) (h : OwT netOw w v x lo hi) (hh : hi ≤ w.heap.size) (hs : szNet x ≤ 1048576) (h0 : 0 ≤ k) (hk : k ≤ 1048576) :
    Calls Try.prog 23 #[v, .int .i64 k] w fun e w' => e = .returned (.int .i64 ((k.toNat + cntL cntA x.agents : Nat) : Int)) ∧ ∃ wb, Below w.heap.size w wb ∧ wb.heap.size = w'.heap.size ∧ OnlyIn lo hi wb w' ∧ OwT netOw w' v ⟨markA k.toNat x.agents⟩ lo hi := by
  obtain ⟨cs, bs, rfl, ⟨A1, n1, c1, b1, rfl, ⟨h1, r1⟩, rfl⟩, hnd, hb⟩ := h
  obtain ⟨k0, rfl⟩ := Int.eq_ofNat_of_zero_le h0
  have hA : ∀ o1, Below w.heap.size w (w.alloc o1) := fun o1 => (Below.refl _ _).alloc (Nat.le_refl _) _
  have HK := Lib.hid (show ∀ o1, OwAt agentOw 5 (w.alloc o1) A1 n1 x.agents bs from fun o1 => h1.keep agentOw_ok (fun j hj => (hA o1).block j (by have := hb j hj; omega)))
  have HN := Lib.hid hnd
  have HB := Lib.hid hb
  have HS : szAgentS x.agents ≤ 1048576 := hs
  have hcl := cntL_agents x.agents
  clear h1 hb hnd
  go_enter Try.func23, Try.ntmps23
  go_wp2_with fail
  refine (markAgentS_q A1 n1 c1 k0 x.agents bs _ (HK.out _) HN.out HS (by omega)).mono ?_
  rintro e w1 ⟨rfl, m1, o1⟩
  have M1 := Lib.hid m1
  clear m1
  go_wp2_with fail
  go_ret
  exact ⟨rfl, _, hA _, o1.size.symm, o1.in_ HB.out, ⟨_, bs, rfl, ⟨A1, n1, c1, bs, rfl, ⟨M1.out, r1⟩, rfl⟩, HN.out, HB.out⟩⟩
end
section
open Go.RowKit
set_option linter.unusedVariables false
set_option linter.unusedSimpArgs false
set_option maxRecDepth 100000
def m_laws_heldInt64S_A1 (i1 : Int) : Option Int :=
  some i1
def m_laws_heldInt64S_B1 (d0 : List Int) (rec1 : Int → Int → Option Int) (K1 : Int → Option Int) (i3 : Int) (i4 : Int) : Option Int :=
  (bif (decide (i4 < (d0.length : Int))) then ((getI d0 i4).bind fun x7 => (bif (x7 != i3) then some (-1) else ((ck (i3 + 1)).bind fun s17 => (rec1 s17 (i4 + 1))))) else (K1 i3))
def m_laws_heldInt64S_L1 (d0 : List Int) (K1 : Int → Option Int) : Nat → Int → Int → Option Int
  | 0, _, _ => none
  | g + 1, i3, i4 => m_laws_heldInt64S_B1 d0 (m_laws_heldInt64S_L1 d0 K1 g) K1 i3 i4
def m_laws_heldInt64S (d0 : List Int) (d1 : Int) : Option Int :=
  (m_laws_heldInt64S_L1 d0 m_laws_heldInt64S_A1 (d0.length + 1) d1 0)
set_option maxHeartbeats 2000000 in
theorem c_m_laws_heldInt64S (d0 : List Int) (d1 : Int) (r : Int) (hm : m_laws_heldInt64S d0 d1 = some r) (v0 : Value) (w : World) (hv0 : Sl intRd 1 w v0 d0) :
    Calls Try.prog 25 #[v0, .int .i64 d1] w fun e w' => e = .returned (.int .i64 r) ∧ Below w.heap.size w w' := by
  obtain ⟨Aa0, na0, ca0, rfl, ha0, ra0⟩ := hv0
  have ea0 := ha0.len; subst ea0
  have qa0 := len_le ra0
  have T := Below.refl w.heap.size w
  unfold m_laws_heldInt64S at hm
  refine enter 21 Try.func25 rfl rfl rfl ?_
  intro f hf
  have s0 : f 0 = .slice Aa0 d0.length ca0 := hf 0 _ rfl
  have s1 : f 1 = .int .i64 d1 := hf 1 _ rfl
  refine wp_seq ?_
  refine wp_rs rfl ?_
  refine RQ.y rfl (Y.assign (v := .int .i64 0) rfl) ?_
  refine RQ.nil ?_
  refine then_n ?_
  refine wp_seq ?_
  refine wp_seq ?_
  refine wp_rs rfl ?_
  refine RQ.y rfl (Y.assign (v := .int .i64 0) rfl) ?_
  refine RQ.nil ?_
  refine then_n ?_
  refine wp_block ?_
  obtain ⟨K1, hK1, hm⟩ : ∃ K, K = m_laws_heldInt64S_A1 ∧ m_laws_heldInt64S_L1 d0 K (d0.length + 1) d1 0 = some r := ⟨_, rfl, hm⟩
  refine wp_loopX (fun g f w' => ∃ (i3 : Int) (i4 : Int), f 0 = .slice Aa0 d0.length ca0 ∧ f 1 = .int .i64 i3 ∧ f 5 = .int .i64 i4 ∧ 0 ≤ i4 ∧ Below w.heap.size w w' ∧ m_laws_heldInt64S_L1 d0 K1 g i3 i4 = some r) 0 (fun f w' => ∃ (i1 : Int), f 1 = .int .i64 i1 ∧ Below w.heap.size w w' ∧ m_laws_heldInt64S_A1 i1 = some r) (d0.length + 1) ⟨d1, 0, s0, s1, rfl, (by omega), T, hm⟩ ?_ ?_
  · rintro f w2 ⟨i1, s1_1x, T, hm⟩
    unfold m_laws_heldInt64S_A1 at hm
    refine blk_hit (then_n ?_)
    refine wp_seq ?_
    refine wp_rs rfl ?_
    refine RQ.y rfl (Y.move (v := .int .i64 i1) s1_1x) ?_
    refine RQ.y rfl (Y.assign (v := .int .i64 i1) rfl) ?_
    refine RQ.nil ?_
    refine then_n ?_
    refine wp_ret ?_
    obtain rfl := Option.some.inj hm
    exact (ret1 rfl rfl rfl ⟨rfl, T⟩)
  · rintro g f w5 ⟨i3, i4, s0_1, s1_1, s5_1, nn5_1, T, hm⟩
    rcases g with _ | g
    · simp only [m_laws_heldInt64S_L1] at hm; cases hm
    obtain ⟨rec1, hrec1, hm⟩ : ∃ z, z = m_laws_heldInt64S_L1 d0 K1 g ∧ m_laws_heldInt64S_B1 d0 z K1 i3 i4 = some r := ⟨_, rfl, hm⟩
    unfold m_laws_heldInt64S_B1 at hm
    refine wp_seq ?_
    refine wp_seq ?_
    refine wp_rs rfl ?_
    refine RQ.y rfl (Y.move (v := .int .i64 i4) s5_1) ?_
    refine RQ.y rfl (Y.move (v := .slice Aa0 d0.length ca0) s0_1) ?_
    refine RQ.y rfl (Y.len (by kernel_rfl) rfl) ?_
    refine RQ.y rfl (Y.binI (v := .bool (decide (i4 < (d0.length : Int)))) rfl rfl rfl) ?_
    refine RQ.nil ?_
    refine then_n ?_
    rcases bcases (decide (i4 < (d0.length : Int))) with c6 | c6
    · replace hm := cF c6 hm
      have pc6 := of_decide_eq_false c6
      refine cond_f rfl (vb rfl c6) ?_
      refine wp_exit ?_
      exact (then_x (then_x (hit_x ⟨_, rfl, ⟨i3, s1_1, T, (by rw [hK1] at hm; exact hm)⟩⟩)))
    · replace hm := cT c6 hm
      have pc6 := of_decide_eq_true c6
      refine cond_t rfl (vb rfl c6) ?_
      refine wp_skip ?_
      refine then_n ?_
      refine wp_seq ?_
      refine wp_block ?_
      refine wp_seq ?_
      refine wp_seq ?_
      refine wp_rs rfl ?_
      refine RQ.y rfl (Y.move (v := .slice Aa0 d0.length ca0) s0_1) ?_
      refine RQ.y rfl (Y.move (v := .int .i64 i4) s5_1) ?_
      obtain ⟨x7, hx10, hm⟩ := bnd hm
      obtain ⟨k8, hk11, hl12, hx10⟩ := getI_some hx10
      obtain ⟨b14, o15, rfl, hbb14⟩ := ha0.addr (by omega)
      obtain ⟨cs9, hRcs9, hc13⟩ := ha0.el hx10
      have hScs9 := hRcs9
      obtain rfl := hRcs9
      refine RQ.y rfl (Y.indexAddr (m := k8) (sz := 1) rfl rfl hk11 hl12 (by kernel_rfl)) ?_
      refine RQ.y rfl (Y.load (v := .int .i64 x7) rfl (by kernel_rfl) (eqC (cellT T (hc13 0 _ rfl)))) ?_
      refine RQ.y rfl (Y.move (v := .int .i64 i3) s1_1) ?_
      refine RQ.y rfl (Y.binI (v := .bool (x7 != i3)) rfl rfl rfl) ?_
      refine RQ.nil ?_
      refine then_n ?_
      rcases bcases (x7 != i3) with c16 | c16
      · replace hm := cF c16 hm
        refine cond_f rfl (vb rfl c16) ?_
        refine wp_skip ?_
        refine then_n ?_
        refine wp_rs rfl ?_
        refine RQ.y rfl (Y.move (v := .int .i64 i3) s1_1) ?_
        obtain ⟨s17, ks17, hm⟩ := bnd hm
        replace ks17 := ck_some ks17
        refine RQ.y rfl (Y.binI (v := .int .i64 s17) rfl rfl (by rw [binI_add ks17.2, ks17.1])) ?_
        refine RQ.y rfl (Y.assign (v := .int .i64 s17) rfl) ?_
        refine RQ.nil ?_
        refine blk_n (then_n ?_)
        refine wp_rs rfl ?_
        refine RQ.y rfl (Y.move (v := .int .i64 i4) s5_1) ?_
        refine RQ.y rfl (Y.binI rfl rfl (binI_add (m := i4) (by omega))) ?_
        refine RQ.y rfl (Y.assign (v := .int .i64 (i4 + 1)) rfl) ?_
        refine RQ.nil ?_
        exact (then_n ⟨g, _, Nat.lt_succ_self _, rfl, ⟨s17, (i4 + 1), s0_1, rfl, rfl, (by omega), T, (by rw [← hrec1]; exact hm)⟩⟩)
      · replace hm := cT c16 hm
        refine cond_t rfl (vb rfl c16) ?_
        refine wp_seq ?_
        refine wp_rs rfl ?_
        refine RQ.y rfl (Y.assign (v := .int .i64 (-1)) rfl) ?_
        refine RQ.nil ?_
        refine then_n ?_
        refine wp_ret ?_
        obtain rfl := Option.some.inj hm
        exact (then_r (blk_r (then_r (then_r (hit_r (blk_r (then_r (ret1 rfl rfl rfl ⟨rfl, T⟩))))))))
def m_laws_heldPortS_A1 (i1 : Int) : Option Int :=
  some i1
def m_laws_heldPortS_B1 (d0 : List DPort) (rec1 : Int → Int → Option Int) (K1 : Int → Option Int) (i3 : Int) (i4 : Int) : Option Int :=
  (bif (decide (i4 < (d0.length : Int))) then ((getI d0 i4).bind fun x7 => (bif (x7.agent != i3) then some (-1) else ((ck (i3 + 1)).bind fun s17 => ((getI d0 i4).bind fun x18 => (bif (x18.slot != s17) then some (-1) else ((ck (s17 + 1)).bind fun s26 => (rec1 s26 (i4 + 1)))))))) else (K1 i3))
def m_laws_heldPortS_L1 (d0 : List DPort) (K1 : Int → Option Int) : Nat → Int → Int → Option Int
  | 0, _, _ => none
  | g + 1, i3, i4 => m_laws_heldPortS_B1 d0 (m_laws_heldPortS_L1 d0 K1 g) K1 i3 i4
def m_laws_heldPortS (d0 : List DPort) (d1 : Int) : Option Int :=
  (m_laws_heldPortS_L1 d0 m_laws_heldPortS_A1 (d0.length + 1) d1 0)
set_option maxHeartbeats 2000000 in
theorem c_m_laws_heldPortS (d0 : List DPort) (d1 : Int) (r : Int) (hm : m_laws_heldPortS d0 d1 = some r) (v0 : Value) (w : World) (hv0 : Sl portRd 2 w v0 d0) :
    Calls Try.prog 134 #[v0, .int .i64 d1] w fun e w' => e = .returned (.int .i64 r) ∧ Below w.heap.size w w' := by
  obtain ⟨Aa0, na0, ca0, rfl, ha0, ra0⟩ := hv0
  have ea0 := ha0.len; subst ea0
  have qa0 := len_le ra0
  have T := Below.refl w.heap.size w
  unfold m_laws_heldPortS at hm
  refine enter 31 Try.func134 rfl rfl rfl ?_
  intro f hf
  have s0 : f 0 = .slice Aa0 d0.length ca0 := hf 0 _ rfl
  have s1 : f 1 = .int .i64 d1 := hf 1 _ rfl
  refine wp_seq ?_
  refine wp_rs rfl ?_
  refine RQ.y rfl (Y.assign (v := .int .i64 0) rfl) ?_
  refine RQ.nil ?_
  refine then_n ?_
  refine wp_seq ?_
  refine wp_seq ?_
  refine wp_rs rfl ?_
  refine RQ.y rfl (Y.assign (v := .int .i64 0) rfl) ?_
  refine RQ.nil ?_
  refine then_n ?_
  refine wp_block ?_
  obtain ⟨K1, hK1, hm⟩ : ∃ K, K = m_laws_heldPortS_A1 ∧ m_laws_heldPortS_L1 d0 K (d0.length + 1) d1 0 = some r := ⟨_, rfl, hm⟩
  refine wp_loopX (fun g f w' => ∃ (i3 : Int) (i4 : Int), f 0 = .slice Aa0 d0.length ca0 ∧ f 1 = .int .i64 i3 ∧ f 5 = .int .i64 i4 ∧ 0 ≤ i4 ∧ Below w.heap.size w w' ∧ m_laws_heldPortS_L1 d0 K1 g i3 i4 = some r) 0 (fun f w' => ∃ (i1 : Int), f 1 = .int .i64 i1 ∧ Below w.heap.size w w' ∧ m_laws_heldPortS_A1 i1 = some r) (d0.length + 1) ⟨d1, 0, s0, s1, rfl, (by omega), T, hm⟩ ?_ ?_
  · rintro f w2 ⟨i1, s1_1x, T, hm⟩
    unfold m_laws_heldPortS_A1 at hm
    refine blk_hit (then_n ?_)
    refine wp_seq ?_
    refine wp_rs rfl ?_
    refine RQ.y rfl (Y.move (v := .int .i64 i1) s1_1x) ?_
    refine RQ.y rfl (Y.assign (v := .int .i64 i1) rfl) ?_
    refine RQ.nil ?_
    refine then_n ?_
    refine wp_ret ?_
    obtain rfl := Option.some.inj hm
    exact (ret1 rfl rfl rfl ⟨rfl, T⟩)
  · rintro g f w5 ⟨i3, i4, s0_1, s1_1, s5_1, nn5_1, T, hm⟩
    rcases g with _ | g
    · simp only [m_laws_heldPortS_L1] at hm; cases hm
    obtain ⟨rec1, hrec1, hm⟩ : ∃ z, z = m_laws_heldPortS_L1 d0 K1 g ∧ m_laws_heldPortS_B1 d0 z K1 i3 i4 = some r := ⟨_, rfl, hm⟩
    unfold m_laws_heldPortS_B1 at hm
    refine wp_seq ?_
    refine wp_seq ?_
    refine wp_rs rfl ?_
    refine RQ.y rfl (Y.move (v := .int .i64 i4) s5_1) ?_
    refine RQ.y rfl (Y.move (v := .slice Aa0 d0.length ca0) s0_1) ?_
    refine RQ.y rfl (Y.len (by kernel_rfl) rfl) ?_
    refine RQ.y rfl (Y.binI (v := .bool (decide (i4 < (d0.length : Int)))) rfl rfl rfl) ?_
    refine RQ.nil ?_
    refine then_n ?_
    rcases bcases (decide (i4 < (d0.length : Int))) with c6 | c6
    · replace hm := cF c6 hm
      have pc6 := of_decide_eq_false c6
      refine cond_f rfl (vb rfl c6) ?_
      refine wp_exit ?_
      exact (then_x (then_x (hit_x ⟨_, rfl, ⟨i3, s1_1, T, (by rw [hK1] at hm; exact hm)⟩⟩)))
    · replace hm := cT c6 hm
      have pc6 := of_decide_eq_true c6
      refine cond_t rfl (vb rfl c6) ?_
      refine wp_skip ?_
      refine then_n ?_
      refine wp_seq ?_
      refine wp_block ?_
      refine wp_seq ?_
      refine wp_seq ?_
      refine wp_rs rfl ?_
      refine RQ.y rfl (Y.move (v := .slice Aa0 d0.length ca0) s0_1) ?_
      refine RQ.y rfl (Y.move (v := .int .i64 i4) s5_1) ?_
      obtain ⟨x7, hx10, hm⟩ := bnd hm
      obtain ⟨k8, hk11, hl12, hx10⟩ := getI_some hx10
      obtain ⟨b14, o15, rfl, hbb14⟩ := ha0.addr (by omega)
      obtain ⟨cs9, hRcs9, hc13⟩ := ha0.el hx10
      have hScs9 := hRcs9
      obtain rfl := hRcs9
      refine RQ.y rfl (Y.indexAddr (m := k8) (sz := 2) rfl rfl hk11 hl12 (by kernel_rfl)) ?_
      refine RQ.y rfl (Y.fieldAddr (off := 0) rfl (by kernel_rfl)) ?_
      refine RQ.y rfl (Y.load (v := .int .i64 x7.agent) rfl (by kernel_rfl) (eqC (cellT T (hc13 0 _ rfl)))) ?_
      refine RQ.y rfl (Y.move (v := .int .i64 i3) s1_1) ?_
      refine RQ.y rfl (Y.binI (v := .bool (x7.agent != i3)) rfl rfl rfl) ?_
      refine RQ.nil ?_
      refine then_n ?_
      rcases bcases (x7.agent != i3) with c16 | c16
      · replace hm := cF c16 hm
        refine cond_f rfl (vb rfl c16) ?_
        refine wp_skip ?_
        refine then_n ?_
        refine wp_seq ?_
        refine wp_rs rfl ?_
        refine RQ.y rfl (Y.move (v := .int .i64 i3) s1_1) ?_
        obtain ⟨s17, ks17, hm⟩ := bnd hm
        replace ks17 := ck_some ks17
        refine RQ.y rfl (Y.binI (v := .int .i64 s17) rfl rfl (by rw [binI_add ks17.2, ks17.1])) ?_
        refine RQ.y rfl (Y.assign (v := .int .i64 s17) rfl) ?_
        refine RQ.nil ?_
        refine then_n ?_
        refine wp_seq ?_
        refine wp_seq ?_
        refine wp_rs rfl ?_
        refine RQ.y rfl (Y.move (v := .slice (some ⟨b14, o15, none⟩) d0.length ca0) s0_1) ?_
        refine RQ.y rfl (Y.move (v := .int .i64 i4) s5_1) ?_
        obtain ⟨x18, hx21, hm⟩ := bnd hm
        obtain ⟨k19, hk22, hl23, hx21⟩ := getI_some hx21
        obtain ⟨cs20, hRcs20, hc24⟩ := ha0.el hx21
        have hScs20 := hRcs20
        obtain rfl := hRcs20
        refine RQ.y rfl (Y.indexAddr (m := k19) (sz := 2) rfl rfl hk22 hl23 (by kernel_rfl)) ?_
        refine RQ.y rfl (Y.fieldAddr (off := 1) rfl (by kernel_rfl)) ?_
        refine RQ.y rfl (Y.load (v := .int .i64 x18.slot) rfl (by kernel_rfl) (eqC (cellT T (hc24 1 _ rfl)))) ?_
        refine RQ.y rfl (Y.move (v := .int .i64 s17) rfl) ?_
        refine RQ.y rfl (Y.binI (v := .bool (x18.slot != s17)) rfl rfl rfl) ?_
        refine RQ.nil ?_
        refine then_n ?_
        rcases bcases (x18.slot != s17) with c25 | c25
        · replace hm := cF c25 hm
          refine cond_f rfl (vb rfl c25) ?_
          refine wp_skip ?_
          refine then_n ?_
          refine wp_rs rfl ?_
          refine RQ.y rfl (Y.move (v := .int .i64 s17) rfl) ?_
          obtain ⟨s26, ks26, hm⟩ := bnd hm
          replace ks26 := ck_some ks26
          refine RQ.y rfl (Y.binI (v := .int .i64 s26) rfl rfl (by rw [binI_add ks26.2, ks26.1])) ?_
          refine RQ.y rfl (Y.assign (v := .int .i64 s26) rfl) ?_
          refine RQ.nil ?_
          refine blk_n (then_n ?_)
          refine wp_rs rfl ?_
          refine RQ.y rfl (Y.move (v := .int .i64 i4) s5_1) ?_
          refine RQ.y rfl (Y.binI rfl rfl (binI_add (m := i4) (by omega))) ?_
          refine RQ.y rfl (Y.assign (v := .int .i64 (i4 + 1)) rfl) ?_
          refine RQ.nil ?_
          exact (then_n ⟨g, _, Nat.lt_succ_self _, rfl, ⟨s26, (i4 + 1), s0_1, rfl, rfl, (by omega), T, (by rw [← hrec1]; exact hm)⟩⟩)
        · replace hm := cT c25 hm
          refine cond_t rfl (vb rfl c25) ?_
          refine wp_seq ?_
          refine wp_rs rfl ?_
          refine RQ.y rfl (Y.assign (v := .int .i64 (-1)) rfl) ?_
          refine RQ.nil ?_
          refine then_n ?_
          refine wp_ret ?_
          obtain rfl := Option.some.inj hm
          exact (then_r (blk_r (then_r (then_r (hit_r (blk_r (then_r (ret1 rfl rfl rfl ⟨rfl, T⟩))))))))
      · replace hm := cT c16 hm
        refine cond_t rfl (vb rfl c16) ?_
        refine wp_seq ?_
        refine wp_rs rfl ?_
        refine RQ.y rfl (Y.assign (v := .int .i64 (-1)) rfl) ?_
        refine RQ.nil ?_
        refine then_n ?_
        refine wp_ret ?_
        obtain rfl := Option.some.inj hm
        exact (then_r (blk_r (then_r (then_r (hit_r (blk_r (then_r (ret1 rfl rfl rfl ⟨rfl, T⟩))))))))
def m_laws_heldAgentS_A1 (i1 : Int) : Option Int :=
  some i1
def m_laws_heldAgentS_B1 (d0 : List DAgent) (rec1 : Int → Int → Option Int) (K1 : Int → Option Int) (i3 : Int) (i4 : Int) : Option Int :=
  (bif (decide (i4 < (d0.length : Int))) then ((getI d0 i4).bind fun x7 => (bif (x7.kind != i3) then some (-1) else ((ck (i3 + 1)).bind fun s19 => ((getI d0 i4).bind fun x20 => (bif (x20.level != s19) then some (-1) else ((ck (s19 + 1)).bind fun s30 => ((getI d0 i4).bind fun x31 => (bif (x31.value != s30) then some (-1) else ((ck (s30 + 1)).bind fun s41 => ((getI d0 i4).bind fun x42 => ((m_laws_heldInt64S x42.data s41).bind fun y51 => (bif (decide (y51 < 0)) then some (-1) else ((getI d0 i4).bind fun x56 => ((m_laws_heldPortS x56.ports y51).bind fun y65 => (bif (decide (y65 < 0)) then some (-1) else (rec1 y65 (i4 + 1))))))))))))))))) else (K1 i3))
def m_laws_heldAgentS_L1 (d0 : List DAgent) (K1 : Int → Option Int) : Nat → Int → Int → Option Int
  | 0, _, _ => none
  | g + 1, i3, i4 => m_laws_heldAgentS_B1 d0 (m_laws_heldAgentS_L1 d0 K1 g) K1 i3 i4
def m_laws_heldAgentS (d0 : List DAgent) (d1 : Int) : Option Int :=
  (m_laws_heldAgentS_L1 d0 m_laws_heldAgentS_A1 (d0.length + 1) d1 0)
set_option maxHeartbeats 2000000 in
theorem c_m_laws_heldAgentS (d0 : List DAgent) (d1 : Int) (r : Int) (hm : m_laws_heldAgentS d0 d1 = some r) (v0 : Value) (w : World) (hv0 : Sl agentRd 5 w v0 d0) :
    Calls Try.prog 81 #[v0, .int .i64 d1] w fun e w' => e = .returned (.int .i64 r) ∧ Below w.heap.size w w' := by
  obtain ⟨Aa0, na0, ca0, rfl, ha0, ra0⟩ := hv0
  have ea0 := ha0.len; subst ea0
  have qa0 := len_le ra0
  have T := Below.refl w.heap.size w
  unfold m_laws_heldAgentS at hm
  refine enter 58 Try.func81 rfl rfl rfl ?_
  intro f hf
  have s0 : f 0 = .slice Aa0 d0.length ca0 := hf 0 _ rfl
  have s1 : f 1 = .int .i64 d1 := hf 1 _ rfl
  refine wp_seq ?_
  refine wp_rs rfl ?_
  refine RQ.y rfl (Y.assign (v := .int .i64 0) rfl) ?_
  refine RQ.nil ?_
  refine then_n ?_
  refine wp_seq ?_
  refine wp_seq ?_
  refine wp_rs rfl ?_
  refine RQ.y rfl (Y.assign (v := .int .i64 0) rfl) ?_
  refine RQ.nil ?_
  refine then_n ?_
  refine wp_block ?_
  obtain ⟨K1, hK1, hm⟩ : ∃ K, K = m_laws_heldAgentS_A1 ∧ m_laws_heldAgentS_L1 d0 K (d0.length + 1) d1 0 = some r := ⟨_, rfl, hm⟩
  refine wp_loopX (fun g f w' => ∃ (i3 : Int) (i4 : Int), f 0 = .slice Aa0 d0.length ca0 ∧ f 1 = .int .i64 i3 ∧ f 5 = .int .i64 i4 ∧ 0 ≤ i4 ∧ Below w.heap.size w w' ∧ m_laws_heldAgentS_L1 d0 K1 g i3 i4 = some r) 0 (fun f w' => ∃ (i1 : Int), f 1 = .int .i64 i1 ∧ Below w.heap.size w w' ∧ m_laws_heldAgentS_A1 i1 = some r) (d0.length + 1) ⟨d1, 0, s0, s1, rfl, (by omega), T, hm⟩ ?_ ?_
  · rintro f w2 ⟨i1, s1_1x, T, hm⟩
    unfold m_laws_heldAgentS_A1 at hm
    refine blk_hit (then_n ?_)
    refine wp_seq ?_
    refine wp_rs rfl ?_
    refine RQ.y rfl (Y.move (v := .int .i64 i1) s1_1x) ?_
    refine RQ.y rfl (Y.assign (v := .int .i64 i1) rfl) ?_
    refine RQ.nil ?_
    refine then_n ?_
    refine wp_ret ?_
    obtain rfl := Option.some.inj hm
    exact (ret1 rfl rfl rfl ⟨rfl, T⟩)
  · rintro g f w5 ⟨i3, i4, s0_1, s1_1, s5_1, nn5_1, T, hm⟩
    rcases g with _ | g
    · simp only [m_laws_heldAgentS_L1] at hm; cases hm
    obtain ⟨rec1, hrec1, hm⟩ : ∃ z, z = m_laws_heldAgentS_L1 d0 K1 g ∧ m_laws_heldAgentS_B1 d0 z K1 i3 i4 = some r := ⟨_, rfl, hm⟩
    unfold m_laws_heldAgentS_B1 at hm
    refine wp_seq ?_
    refine wp_seq ?_
    refine wp_rs rfl ?_
    refine RQ.y rfl (Y.move (v := .int .i64 i4) s5_1) ?_
    refine RQ.y rfl (Y.move (v := .slice Aa0 d0.length ca0) s0_1) ?_
    refine RQ.y rfl (Y.len (by kernel_rfl) rfl) ?_
    refine RQ.y rfl (Y.binI (v := .bool (decide (i4 < (d0.length : Int)))) rfl rfl rfl) ?_
    refine RQ.nil ?_
    refine then_n ?_
    rcases bcases (decide (i4 < (d0.length : Int))) with c6 | c6
    · replace hm := cF c6 hm
      have pc6 := of_decide_eq_false c6
      refine cond_f rfl (vb rfl c6) ?_
      refine wp_exit ?_
      exact (then_x (then_x (hit_x ⟨_, rfl, ⟨i3, s1_1, T, (by rw [hK1] at hm; exact hm)⟩⟩)))
    · replace hm := cT c6 hm
      have pc6 := of_decide_eq_true c6
      refine cond_t rfl (vb rfl c6) ?_
      refine wp_skip ?_
      refine then_n ?_
      refine wp_seq ?_
      refine wp_block ?_
      refine wp_seq ?_
      refine wp_seq ?_
      refine wp_rs rfl ?_
      refine RQ.y rfl (Y.move (v := .slice Aa0 d0.length ca0) s0_1) ?_
      refine RQ.y rfl (Y.move (v := .int .i64 i4) s5_1) ?_
      obtain ⟨x7, hx10, hm⟩ := bnd hm
      obtain ⟨k8, hk11, hl12, hx10⟩ := getI_some hx10
      obtain ⟨b14, o15, rfl, hbb14⟩ := ha0.addr (by omega)
      obtain ⟨cs9, hRcs9, hc13⟩ := ha0.el hx10
      have hScs9 := hRcs9
      obtain ⟨A16, n16, c16, A17, n17, c17, rfl, ⟨h16, r16⟩, ⟨h17, r17⟩⟩ := hRcs9
      have e16 := h16.len; subst e16
      have q16 := len_le r16
      have e17 := h17.len; subst e17
      have q17 := len_le r17
      refine RQ.y rfl (Y.indexAddr (m := k8) (sz := 5) rfl rfl hk11 hl12 (by kernel_rfl)) ?_
      refine RQ.y rfl (Y.fieldAddr (off := 0) rfl (by kernel_rfl)) ?_
      refine RQ.y rfl (Y.load (v := .int .i64 x7.kind) rfl (by kernel_rfl) (eqC (cellT T (hc13 0 _ rfl)))) ?_
      refine RQ.y rfl (Y.move (v := .int .i64 i3) s1_1) ?_
      refine RQ.y rfl (Y.binI (v := .bool (x7.kind != i3)) rfl rfl rfl) ?_
      refine RQ.nil ?_
      refine then_n ?_
      rcases bcases (x7.kind != i3) with c18 | c18
      · replace hm := cF c18 hm
        refine cond_f rfl (vb rfl c18) ?_
        refine wp_skip ?_
        refine then_n ?_
        refine wp_seq ?_
        refine wp_rs rfl ?_
        refine RQ.y rfl (Y.move (v := .int .i64 i3) s1_1) ?_
        obtain ⟨s19, ks19, hm⟩ := bnd hm
        replace ks19 := ck_some ks19
        refine RQ.y rfl (Y.binI (v := .int .i64 s19) rfl rfl (by rw [binI_add ks19.2, ks19.1])) ?_
        refine RQ.y rfl (Y.assign (v := .int .i64 s19) rfl) ?_
        refine RQ.nil ?_
        refine then_n ?_
        refine wp_seq ?_
        refine wp_seq ?_
        refine wp_rs rfl ?_
        refine RQ.y rfl (Y.move (v := .slice (some ⟨b14, o15, none⟩) d0.length ca0) s0_1) ?_
        refine RQ.y rfl (Y.move (v := .int .i64 i4) s5_1) ?_
        obtain ⟨x20, hx23, hm⟩ := bnd hm
        obtain ⟨k21, hk24, hl25, hx23⟩ := getI_some hx23
        obtain ⟨cs22, hRcs22, hc26⟩ := ha0.el hx23
        have hScs22 := hRcs22
        obtain ⟨A27, n27, c27, A28, n28, c28, rfl, ⟨h27, r27⟩, ⟨h28, r28⟩⟩ := hRcs22
        have e27 := h27.len; subst e27
        have q27 := len_le r27
        have e28 := h28.len; subst e28
        have q28 := len_le r28
        refine RQ.y rfl (Y.indexAddr (m := k21) (sz := 5) rfl rfl hk24 hl25 (by kernel_rfl)) ?_
        refine RQ.y rfl (Y.fieldAddr (off := 1) rfl (by kernel_rfl)) ?_
        refine RQ.y rfl (Y.load (v := .int .i64 x20.level) rfl (by kernel_rfl) (eqC (cellT T (hc26 1 _ rfl)))) ?_
        refine RQ.y rfl (Y.move (v := .int .i64 s19) rfl) ?_
        refine RQ.y rfl (Y.binI (v := .bool (x20.level != s19)) rfl rfl rfl) ?_
        refine RQ.nil ?_
        refine then_n ?_
        rcases bcases (x20.level != s19) with c29 | c29
        · replace hm := cF c29 hm
          refine cond_f rfl (vb rfl c29) ?_
          refine wp_skip ?_
          refine then_n ?_
          refine wp_seq ?_
          refine wp_rs rfl ?_
          refine RQ.y rfl (Y.move (v := .int .i64 s19) rfl) ?_
          obtain ⟨s30, ks30, hm⟩ := bnd hm
          replace ks30 := ck_some ks30
          refine RQ.y rfl (Y.binI (v := .int .i64 s30) rfl rfl (by rw [binI_add ks30.2, ks30.1])) ?_
          refine RQ.y rfl (Y.assign (v := .int .i64 s30) rfl) ?_
          refine RQ.nil ?_
          refine then_n ?_
          refine wp_seq ?_
          refine wp_seq ?_
          refine wp_rs rfl ?_
          refine RQ.y rfl (Y.move (v := .slice (some ⟨b14, o15, none⟩) d0.length ca0) s0_1) ?_
          refine RQ.y rfl (Y.move (v := .int .i64 i4) s5_1) ?_
          obtain ⟨x31, hx34, hm⟩ := bnd hm
          obtain ⟨k32, hk35, hl36, hx34⟩ := getI_some hx34
          obtain ⟨cs33, hRcs33, hc37⟩ := ha0.el hx34
          have hScs33 := hRcs33
          obtain ⟨A38, n38, c38, A39, n39, c39, rfl, ⟨h38, r38⟩, ⟨h39, r39⟩⟩ := hRcs33
          have e38 := h38.len; subst e38
          have q38 := len_le r38
          have e39 := h39.len; subst e39
          have q39 := len_le r39
          refine RQ.y rfl (Y.indexAddr (m := k32) (sz := 5) rfl rfl hk35 hl36 (by kernel_rfl)) ?_
          refine RQ.y rfl (Y.fieldAddr (off := 2) rfl (by kernel_rfl)) ?_
          refine RQ.y rfl (Y.load (v := .int .i64 x31.value) rfl (by kernel_rfl) (eqC (cellT T (hc37 2 _ rfl)))) ?_
          refine RQ.y rfl (Y.move (v := .int .i64 s30) rfl) ?_
          refine RQ.y rfl (Y.binI (v := .bool (x31.value != s30)) rfl rfl rfl) ?_
          refine RQ.nil ?_
          refine then_n ?_
          rcases bcases (x31.value != s30) with c40 | c40
          · replace hm := cF c40 hm
            refine cond_f rfl (vb rfl c40) ?_
            refine wp_skip ?_
            refine then_n ?_
            refine wp_seq ?_
            refine wp_rs rfl ?_
            refine RQ.y rfl (Y.move (v := .int .i64 s30) rfl) ?_
            obtain ⟨s41, ks41, hm⟩ := bnd hm
            replace ks41 := ck_some ks41
            refine RQ.y rfl (Y.binI (v := .int .i64 s41) rfl rfl (by rw [binI_add ks41.2, ks41.1])) ?_
            refine RQ.y rfl (Y.assign (v := .int .i64 s41) rfl) ?_
            refine RQ.nil ?_
            refine then_n ?_
            refine wp_seq ?_
            refine wp_rb rfl ?_
            refine RQ.y rfl (Y.move (v := .slice (some ⟨b14, o15, none⟩) d0.length ca0) s0_1) ?_
            refine RQ.y rfl (Y.move (v := .int .i64 i4) s5_1) ?_
            obtain ⟨x42, hx45, hm⟩ := bnd hm
            obtain ⟨k43, hk46, hl47, hx45⟩ := getI_some hx45
            obtain ⟨cs44, hRcs44, hc48⟩ := ha0.el hx45
            have hScs44 := hRcs44
            obtain ⟨A49, n49, c49, A50, n50, c50, rfl, ⟨h49, r49⟩, ⟨h50, r50⟩⟩ := hRcs44
            have e49 := h49.len; subst e49
            have q49 := len_le r49
            have e50 := h50.len; subst e50
            have q50 := len_le r50
            refine RQ.y rfl (Y.indexAddr (m := k43) (sz := 5) rfl rfl hk46 hl47 (by kernel_rfl)) ?_
            refine RQ.y rfl (Y.fieldAddr (off := 3) rfl (by kernel_rfl)) ?_
            refine RQ.y rfl (Y.load (v := .slice A49 x42.data.length c49) rfl (by kernel_rfl) (beC (cellT T (hc48 3 _ rfl)))) ?_
            refine RQ.y rfl (Y.move (v := .int .i64 s41) rfl) ?_
            obtain ⟨y51, e52, hm⟩ := bnd hm
            refine RQ.call rfl (am2 rfl rfl) (by kernel_rfl) (v := .int .i64 y51) (bel (K := fun _ => True) fun w' hb' => (c_m_laws_heldInt64S x42.data s41 _ e52 _ w' (slArg intRd_ok h49 r49 (Tt T hb')))) ?_
            refine RQ.y rfl (Y.assign (v := .int .i64 y51) rfl) ?_
            refine RQ.nil ?_
            intro w53 hb54
            have szw53 := hb54.size
            have T := Tt T hb54
            refine then_n ?_
            refine wp_seq ?_
            refine wp_seq ?_
            refine wp_rs rfl ?_
            refine RQ.y rfl (Y.move (v := .int .i64 y51) rfl) ?_
            refine RQ.y rfl (Y.binI (v := .bool (decide (y51 < 0))) rfl rfl rfl) ?_
            refine RQ.nil ?_
            refine then_n ?_
            rcases bcases (decide (y51 < 0)) with c55 | c55
            · replace hm := cF c55 hm
              have pc55 := of_decide_eq_false c55
              refine cond_f rfl (vb rfl c55) ?_
              refine wp_skip ?_
              refine then_n ?_
              refine wp_seq ?_
              refine wp_rb rfl ?_
              refine RQ.y rfl (Y.move (v := .slice (some ⟨b14, o15, none⟩) d0.length ca0) s0_1) ?_
              refine RQ.y rfl (Y.move (v := .int .i64 i4) s5_1) ?_
              obtain ⟨x56, hx59, hm⟩ := bnd hm
              obtain ⟨k57, hk60, hl61, hx59⟩ := getI_some hx59
              obtain ⟨cs58, hRcs58, hc62⟩ := ha0.el hx59
              have hScs58 := hRcs58
              obtain ⟨A63, n63, c63, A64, n64, c64, rfl, ⟨h63, r63⟩, ⟨h64, r64⟩⟩ := hRcs58
              have e63 := h63.len; subst e63
              have q63 := len_le r63
              have e64 := h64.len; subst e64
              have q64 := len_le r64
              refine RQ.y rfl (Y.indexAddr (m := k57) (sz := 5) rfl rfl hk60 hl61 (by kernel_rfl)) ?_
              refine RQ.y rfl (Y.fieldAddr (off := 4) rfl (by kernel_rfl)) ?_
              refine RQ.y rfl (Y.load (v := .slice A64 x56.ports.length c64) rfl (by kernel_rfl) (beC (cellT T (hc62 4 _ rfl)))) ?_
              refine RQ.y rfl (Y.move (v := .int .i64 y51) rfl) ?_
              obtain ⟨y65, e66, hm⟩ := bnd hm
              refine RQ.call rfl (am2 rfl rfl) (by kernel_rfl) (v := .int .i64 y65) (bel (K := fun _ => True) fun w' hb' => (c_m_laws_heldPortS x56.ports y51 _ e66 _ w' (slArg portRd_ok h64 r64 (Tt T hb')))) ?_
              refine RQ.y rfl (Y.assign (v := .int .i64 y65) rfl) ?_
              refine RQ.nil ?_
              intro w67 hb68
              have szw67 := hb68.size
              have T := Tt T hb68
              refine then_n ?_
              refine wp_seq ?_
              refine wp_rs rfl ?_
              refine RQ.y rfl (Y.move (v := .int .i64 y65) rfl) ?_
              refine RQ.y rfl (Y.binI (v := .bool (decide (y65 < 0))) rfl rfl rfl) ?_
              refine RQ.nil ?_
              refine then_n ?_
              rcases bcases (decide (y65 < 0)) with c69 | c69
              · replace hm := cF c69 hm
                have pc69 := of_decide_eq_false c69
                refine cond_f rfl (vb rfl c69) ?_
                refine wp_skip ?_
                refine blk_n (then_n ?_)
                refine wp_rs rfl ?_
                refine RQ.y rfl (Y.move (v := .int .i64 i4) s5_1) ?_
                refine RQ.y rfl (Y.binI rfl rfl (binI_add (m := i4) (by omega))) ?_
                refine RQ.y rfl (Y.assign (v := .int .i64 (i4 + 1)) rfl) ?_
                refine RQ.nil ?_
                exact (then_n ⟨g, _, Nat.lt_succ_self _, rfl, ⟨y65, (i4 + 1), s0_1, rfl, rfl, (by omega), T, (by rw [← hrec1]; exact hm)⟩⟩)
              · replace hm := cT c69 hm
                have pc69 := of_decide_eq_true c69
                refine cond_t rfl (vb rfl c69) ?_
                refine wp_seq ?_
                refine wp_rs rfl ?_
                refine RQ.y rfl (Y.assign (v := .int .i64 (-1)) rfl) ?_
                refine RQ.nil ?_
                refine then_n ?_
                refine wp_ret ?_
                obtain rfl := Option.some.inj hm
                exact (blk_r (then_r (then_r (hit_r (blk_r (then_r (ret1 rfl rfl rfl ⟨rfl, T⟩)))))))
            · replace hm := cT c55 hm
              have pc55 := of_decide_eq_true c55
              refine cond_t rfl (vb rfl c55) ?_
              refine wp_seq ?_
              refine wp_rs rfl ?_
              refine RQ.y rfl (Y.assign (v := .int .i64 (-1)) rfl) ?_
              refine RQ.nil ?_
              refine then_n ?_
              refine wp_ret ?_
              obtain rfl := Option.some.inj hm
              exact (then_r (blk_r (then_r (then_r (hit_r (blk_r (then_r (ret1 rfl rfl rfl ⟨rfl, T⟩))))))))
          · replace hm := cT c40 hm
            refine cond_t rfl (vb rfl c40) ?_
            refine wp_seq ?_
            refine wp_rs rfl ?_
            refine RQ.y rfl (Y.assign (v := .int .i64 (-1)) rfl) ?_
            refine RQ.nil ?_
            refine then_n ?_
            refine wp_ret ?_
            obtain rfl := Option.some.inj hm
            exact (then_r (blk_r (then_r (then_r (hit_r (blk_r (then_r (ret1 rfl rfl rfl ⟨rfl, T⟩))))))))
        · replace hm := cT c29 hm
          refine cond_t rfl (vb rfl c29) ?_
          refine wp_seq ?_
          refine wp_rs rfl ?_
          refine RQ.y rfl (Y.assign (v := .int .i64 (-1)) rfl) ?_
          refine RQ.nil ?_
          refine then_n ?_
          refine wp_ret ?_
          obtain rfl := Option.some.inj hm
          exact (then_r (blk_r (then_r (then_r (hit_r (blk_r (then_r (ret1 rfl rfl rfl ⟨rfl, T⟩))))))))
      · replace hm := cT c18 hm
        refine cond_t rfl (vb rfl c18) ?_
        refine wp_seq ?_
        refine wp_rs rfl ?_
        refine RQ.y rfl (Y.assign (v := .int .i64 (-1)) rfl) ?_
        refine RQ.nil ?_
        refine then_n ?_
        refine wp_ret ?_
        obtain rfl := Option.some.inj hm
        exact (then_r (blk_r (then_r (then_r (hit_r (blk_r (then_r (ret1 rfl rfl rfl ⟨rfl, T⟩))))))))
def m_laws_heldNet (d0 : DNet) (d1 : Int) : Option Int :=
  ((m_laws_heldAgentS d0.agents d1).bind fun y6 => (bif (decide (y6 < 0)) then some (-1) else some y6))
set_option maxHeartbeats 2000000 in
theorem c_m_laws_heldNet (d0 : DNet) (d1 : Int) (r : Int) (hm : m_laws_heldNet d0 d1 = some r) (v0 : Value) (w : World) (hv0 : St netRd w v0 d0) :
    Calls Try.prog 30 #[v0, .int .i64 d1] w fun e w' => e = .returned (.int .i64 r) ∧ Below w.heap.size w w' := by
  obtain ⟨csa0, rfl, ⟨A1, n1, c1, rfl, ⟨h1, r1⟩⟩⟩ := hv0
  have e1 := h1.len; subst e1
  have q1 := len_le r1
  have T := Below.refl w.heap.size w
  unfold m_laws_heldNet at hm
  refine enter 12 Try.func30 rfl rfl rfl ?_
  intro f hf
  have s0 : f 0 = .agg #[.slice A1 d0.agents.length c1] := hf 0 _ rfl
  have s1 : f 1 = .int .i64 d1 := hf 1 _ rfl
  refine wp_seq ?_
  refine wp_rl rfl ?_
  refine RL.box rfl s0 (fun w2 B3 hb4 szw2 => ?_)
  replace B3 : Blk w2 w.heap.size 30 #[.slice A1 d0.agents.length c1] := B3
  have GB3 : w.heap.size ≤ w.heap.size := T.size
  have T := Tt T hb4
  refine RL.y rfl (Y.assign (v := .int .i64 0) rfl) ?_
  refine RL.nil ?_
  refine then_n ?_
  refine wp_seq ?_
  refine wp_rb rfl ?_
  refine RQ.y rfl (Y.fieldAddr (off := 0) rfl (by kernel_rfl)) ?_
  refine RQ.y rfl (Y.load (v := .slice A1 d0.agents.length c1) rfl (by kernel_rfl) (beC (blkCell B3 (i := 0) rfl))) ?_
  refine RQ.y rfl (Y.move (v := .int .i64 d1) s1) ?_
  obtain ⟨y6, e7, hm⟩ := bnd hm
  refine RQ.call rfl (am2 rfl rfl) (by kernel_rfl) (v := .int .i64 y6) (bel (K := fun _ => True) fun w' hb' => (c_m_laws_heldAgentS d0.agents d1 _ e7 _ w' (slArg agentRd_ok h1 r1 (Tt T hb')))) ?_
  refine RQ.y rfl (Y.assign (v := .int .i64 y6) rfl) ?_
  refine RQ.nil ?_
  intro w8 hb9
  have szw8 := hb9.size
  have T := Tt T hb9
  refine then_n ?_
  refine wp_seq ?_
  refine wp_seq ?_
  refine wp_rs rfl ?_
  refine RQ.y rfl (Y.move (v := .int .i64 y6) rfl) ?_
  refine RQ.y rfl (Y.binI (v := .bool (decide (y6 < 0))) rfl rfl rfl) ?_
  refine RQ.nil ?_
  refine then_n ?_
  rcases bcases (decide (y6 < 0)) with c10 | c10
  · replace hm := cF c10 hm
    have pc10 := of_decide_eq_false c10
    refine cond_f rfl (vb rfl c10) ?_
    refine wp_skip ?_
    refine then_n ?_
    refine wp_seq ?_
    refine wp_rs rfl ?_
    refine RQ.y rfl (Y.move (v := .int .i64 y6) rfl) ?_
    refine RQ.y rfl (Y.assign (v := .int .i64 y6) rfl) ?_
    refine RQ.nil ?_
    refine then_n ?_
    refine wp_ret ?_
    obtain rfl := Option.some.inj hm
    exact (ret1 rfl rfl rfl ⟨rfl, T⟩)
  · replace hm := cT c10 hm
    have pc10 := of_decide_eq_true c10
    refine cond_t rfl (vb rfl c10) ?_
    refine wp_seq ?_
    refine wp_rs rfl ?_
    refine RQ.y rfl (Y.assign (v := .int .i64 (-1)) rfl) ?_
    refine RQ.nil ?_
    refine then_n ?_
    refine wp_ret ?_
    obtain rfl := Option.some.inj hm
    exact (then_r (ret1 rfl rfl rfl ⟨rfl, T⟩))
end
section
open Go.RowKit
set_option linter.unusedVariables false
set_option linter.unusedSimpArgs false
theorem p_heldI (k n : Nat) (h : k + n ≤ 4611686018427387904) : m_laws_heldInt64S (marks k n) (k : Int) = some ((k + n : Nat) : Int) := by
  unfold m_laws_heldInt64S
  have hl := marks_len k n
  have key := traj (L := fun g (s : Int × Int) => m_laws_heldInt64S_L1 (marks k n) m_laws_heldInt64S_A1 g s.1 s.2) (st := fun i => (((k + i : Nat) : Int), (i : Int))) (n := n) (r := some ((k + n : Nat) : Int))
    (fun g i hi => by
      have hx := marks_get (k := k) hi
      simp -implicitDefEqProofs only [m_laws_heldInt64S_L1, m_laws_heldInt64S_B1, hl, dlt hi, cond_true, getI_nat hx, Option.bind_some]
      rw [show (((k + i : Nat) : Int) != ((k + i : Nat) : Int)) = false by simp, cond_false, ck_ok (by omega), Option.bind_some]
      simp only [Int.natCast_add, Int.cast_ofNat_Int, Int.add_assoc])
    (fun g => by simp -implicitDefEqProofs only [m_laws_heldInt64S_L1, m_laws_heldInt64S_B1, hl, dge, cond_false, m_laws_heldInt64S_A1]) (n + 1) (Nat.lt_succ_self _)
  rw [hl]
  simpa using key
theorem p_heldP (k n : Nat) (h : k + 2 * n ≤ 4611686018427387904) : m_laws_heldPortS (marksF mkPort 2 k n) (k : Int) = some ((k + 2 * n : Nat) : Int) := by
  unfold m_laws_heldPortS
  have hl := marksF_len mkPort 2 k n
  have key := traj (L := fun g (s : Int × Int) => m_laws_heldPortS_L1 (marksF mkPort 2 k n) m_laws_heldPortS_A1 g s.1 s.2) (st := fun i => (((k + 2 * i : Nat) : Int), (i : Int))) (n := n) (r := some ((k + 2 * n : Nat) : Int))
    (fun g i hi => by
      have hx := marksF_get (f := mkPort) (s := 2) (k := k) hi
      simp -implicitDefEqProofs only [m_laws_heldPortS_L1, m_laws_heldPortS_B1, hl, dlt hi, cond_true, getI_nat hx, Option.bind_some, mkPort]
      rw [show (((k + 2 * i : Nat) : Int) != ((k + 2 * i : Nat) : Int)) = false by simp, cond_false, ck_ok (by omega), Option.bind_some, show (((k + 2 * i : Nat) : Int) + 1 != ((k + 2 * i : Nat) : Int) + 1) = false by simp, cond_false, ck_ok (by omega), Option.bind_some]
      have e : ((k + 2 * i : Nat) : Int) + 1 + 1 = ((k + 2 * (i + 1) : Nat) : Int) := by omega
      rw [e]; rfl)
    (fun g => by simp -implicitDefEqProofs only [m_laws_heldPortS_L1, m_laws_heldPortS_B1, hl, dge, cond_false, m_laws_heldPortS_A1]) (n + 1) (Nat.lt_succ_self _)
  rw [hl]
  simpa using key
theorem p_heldA (k : Nat) (xs : List DAgent) (hs : szAgentS xs ≤ 1048576) (hk : k ≤ 4294967296) : m_laws_heldAgentS (markA k xs) (k : Int) = some ((k + cntL cntA xs : Nat) : Int) := by
  unfold m_laws_heldAgentS
  have hl : (markA k xs).length = xs.length := mkL_len _ _
  have hc := cntL_agents xs
  have key := traj (L := fun g (s : Int × Int) => m_laws_heldAgentS_L1 (markA k xs) m_laws_heldAgentS_A1 g s.1 s.2) (st := fun i => (((k + cntL cntA (xs.take i) : Nat) : Int), (i : Int))) (n := xs.length) (r := some ((k + cntL cntA xs : Nat) : Int))
    (fun g i hi => by
      have hx0 := List.getElem?_eq_getElem hi
      have hx : (markA k xs)[i]? = some (mkAgent (k + cntL cntA (xs.take i)) xs[i]) := mkL_get hx0
      have hsz := szAgent_mem hx0 hs
      have hct := cntL_take (cnt := cntA) hx0
      have hcx : cntA xs[i] = 3 + xs[i].data.length + 2 * xs[i].ports.length := rfl
      have hcm := cntL_le (cnt := cntA) xs (i + 1)
      rw [hct, ← Nat.add_assoc]
      have hm : k + cntL cntA (xs.take i) ≤ 4298440256 ∧ k + cntL cntA (xs.take i) + cntA xs[i] ≤ 4298440256 := by omega
      clear hct hcm hx0
      generalize k + cntL cntA (xs.take i) = m at *
      generalize xs[i] = x at *
      have e1 := p_heldI (m + 3) x.data.length (by omega)
      have e2 := p_heldP (m + 3 + x.data.length) x.ports.length (by omega)
      simp -implicitDefEqProofs only [m_laws_heldAgentS_L1, m_laws_heldAgentS_B1, hl, dlt hi, cond_true, getI_nat hx, Option.bind_some, mkAgent]
      rw [show ((m : Int) != (m : Int)) = false by simp, cond_false, ck_ok (by omega), Option.bind_some, show (((m + 1 : Nat) : Int) != (m : Int) + 1) = false by simp, cond_false, ck_ok (by omega), Option.bind_some,
        show (((m + 2 : Nat) : Int) != (m : Int) + 1 + 1) = false by simp; omega, cond_false, ck_ok (by omega), Option.bind_some, show (m : Int) + 1 + 1 + 1 = ((m + 3 : Nat) : Int) by omega, e1, Option.bind_some,
        show decide (((m + 3 + x.data.length : Nat) : Int) < 0) = false by simp; omega, cond_false, e2, Option.bind_some, show decide (((m + 3 + x.data.length + 2 * x.ports.length : Nat) : Int) < 0) = false by simp; omega, cond_false]
      have e : ((m + 3 + x.data.length + 2 * x.ports.length : Nat) : Int) = (((m : Nat) + cntA x : Nat) : Int) := by omega
      rw [e]; simp only [Int.natCast_add, Int.cast_ofNat_Int, Int.add_assoc] <;> rfl)
    (fun g => by
      simp -implicitDefEqProofs only [m_laws_heldAgentS_L1, m_laws_heldAgentS_B1, hl, dge, cond_false, m_laws_heldAgentS_A1, List.take_length]) (xs.length + 1) (Nat.lt_succ_self _)
  rw [hl]
  simpa [cntL] using key
theorem heldNet_q (v : Value) (x : DNet) (w : World) (k : Int) {B : Nat} (h : RdT netRd w B v ⟨markA k.toNat x.agents⟩) (hB : B ≤ w.heap.size) (hs : szNet x ≤ 1048576) (h0 : 0 ≤ k) (hk : k ≤ 1048576) :
    Calls Try.prog 30 #[v, .int .i64 k] w fun e w' => e = .returned (.int .i64 ((k.toNat + cntL cntA x.agents : Nat) : Int)) ∧ Below w.heap.size w w' := by
  obtain ⟨k0, rfl⟩ := Int.eq_ofNat_of_zero_le h0
  refine c_m_laws_heldNet _ _ _ ?_ v w (h.more netRd_ok hB)
  unfold m_laws_heldNet
  rw [Int.toNat_natCast]
  simp only
  rw [p_heldA k0 x.agents hs (by omega), Option.bind_some]
  rw [show decide (((k0 + cntL cntA x.agents : Nat) : Int) < 0) = false by simp; omega, cond_false]
theorem heldNet_r (v : Value) (x : DNet) (w : World) (k : Int) (m : Nat) (em : m = k.toNat + cntL cntA x.agents) {B : Nat} (h : RdT netRd w B v ⟨markA k.toNat x.agents⟩) (hB : B ≤ w.heap.size) (hs : szNet x ≤ 1048576) (h0 : 0 ≤ k) (hk : k ≤ 1048576) :
    Calls Try.prog 30 #[v, .int .i64 k] w fun e w' => e = .returned (.int .i64 (m : Int)) ∧ Below w.heap.size w w' := by
  subst em; exact heldNet_q v x w k h hB hs h0 hk
theorem markNet_r (v : Value) (x : DNet) (w : World) (k : Int) (lo hi : Nat) (m : Nat) (em : m = k.toNat + cntL cntA x.agents) (h : OwT netOw w v x lo hi) (hh : hi ≤ w.heap.size) (hs : szNet x ≤ 1048576) (h0 : 0 ≤ k) (hk : k ≤ 1048576) :
    Calls Try.prog 23 #[v, .int .i64 k] w fun e w' => e = .returned (.int .i64 (m : Int)) ∧ ∃ wb, Below w.heap.size w wb ∧ wb.heap.size = w'.heap.size ∧ OnlyIn lo hi wb w' ∧ OwT netOw w' v ⟨markA k.toNat x.agents⟩ lo hi := by
  subst em; exact markNet_q v x w k lo hi h hh hs h0 hk
end
section
open Go.RowKit
set_option linter.unusedVariables false
theorem ownNet {e : TypeId} {w : World} {lo : Nat} {v : Value} {d : DNet} {bs : List Nat} (h : OwN e agentOw 5 w lo v d.agents bs) : OwT netOw w (.agg #[v]) d lo w.heap.size := by
  obtain ⟨A, n, c, l, rfl, h1, h2, h3, r⟩ := h.own1 agentOw_ok
  exact ⟨[.slice A n c], l, rfl, ⟨A, n, c, l, rfl, ⟨h1, r⟩, rfl⟩, h2, fun b hb => ⟨h.lo_ b (h3 b hb), h.hi b (h3 b hb)⟩⟩
theorem specShiftLevels_v (v : Value) (x : DNet) (k : Int) (w : World) {B : Nat} (h : RdT netRd w B v x) (hB : B ≤ w.heap.size) (hs : szNet x ≤ 1048576) :
    Calls Try.prog 28 #[v, .int .i64 k] w fun e w' => (∃ v', e = .returned (.tuple #[v', .int .i64 (shiftLevels x k).2]) ∧ OwT netOw w' v' (shiftLevels x k).1 w.heap.size w'.heap.size) ∧ Below w.heap.size w w' :=
  (c_m_spec_ShiftLevels x k _ (p_sShiftLevels x k hs) v w (h.more netRd_ok hB)).mono fun e w' ⟨⟨v', bs, he, ho⟩, hb⟩ => ⟨⟨_, he, ownNet ho⟩, hb⟩
theorem implShiftLevels_v (v : Value) (x : DNet) (k : Int) (w : World) {B : Nat} (h : RdT netRd w B v x) (hB : B ≤ w.heap.size) (hs : szNet x ≤ 1048576) :
    Calls Try.prog 29 #[v, .int .i64 k] w fun e w' => (∃ v', e = .returned (.tuple #[v', .int .i64 (shiftLevels x k).2]) ∧ OwT netOw w' v' (shiftLevels x k).1 w.heap.size w'.heap.size) ∧ Below w.heap.size w w' :=
  (c_m_impl_ShiftLevels x k _ (p_iShiftLevels x k hs) v w (h.more netRd_ok hB)).mono fun e w' ⟨⟨v', bs, he, ho⟩, hb⟩ => ⟨⟨_, he, ownNet ho⟩, hb⟩
end
end Go.Proofs.Ytampijkiidjcmaa
