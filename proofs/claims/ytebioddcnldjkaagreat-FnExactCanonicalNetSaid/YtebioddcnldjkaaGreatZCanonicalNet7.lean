/- Lemmas of the proof of CanonicalNet, part 7. No condition. -/
import Derived.Test.YtebioddcnldjkaaGreatZCanonicalNet6
namespace Go.Proofs.YtebioddcnldjkaaGreat
section
open Go.RowKit
set_option linter.unusedVariables false
def mkAgent (k : Nat) (x : DAgent) : DAgent := ⟨(k : Int), ((k + 1 : Nat) : Int), ((k + 2 : Nat) : Int), marks (k + 3) x.data.length, marksF mkPort 2 (k + 3 + x.data.length) x.ports.length⟩
def markA (k : Nat) (xs : List DAgent) : List DAgent := mkL mkAgent cntA k xs
set_option maxHeartbeats 4000000 in
theorem markAgentS_q (A : Option Addr) (n c k0 : Nat) (xs : List DAgent) (bs : List Nat) (w : World) (hx : OwAt agentOw 5 w A n xs bs) (hnd : bs.Nodup) (hs : szAgentS xs ≤ 1048576) (hk0 : k0 ≤ 4294967296) :
    Calls Tryz.prog 30 #[.slice A n c, .int .i64 k0] w fun e w' => e = .returned (.int .i64 ((k0 + cntL cntA xs : Nat) : Int)) ∧ OwAt agentOw 5 w' A n (markA k0 xs) bs ∧ Only bs w w' := by
  have lx := Lib.hid hx.len
  have hn : n ≤ 1048576 := by have := lx.out; unfold szAgentS at hs; omega
  have hcl := cntL_agents xs
  have hmid := Lib.hid hx.mid
  clear hx
  go_enter Tryz.func30, Tryz.ntmps30
  go_wp2_with fail
  go_loopw [1, 5] (fun kk i wr => ∃ k : Nat, k ≤ n ∧ i = .int .i64 k ∧ kk = .int .i64 ((k0 : Int) + (cntL cntA (xs.take k) : Nat)) ∧ Only bs w wr ∧ Hid (MidAt agentOw 5 wr A (markA k0 (xs.take k)) (xs.drop k) bs)) (fun _ i _ => n - (intOf i).toNat)
  case atStart => exact ⟨0, by omega, rfl, by simp [cntL], Only.refl _ _, hmid.out⟩
  case round =>
    obtain ⟨k, hk, rfl, rfl, ho, hm⟩ := hrel
    by_cases hlt : k < n
    · obtain ⟨x, hxk⟩ : ∃ x, xs[k]? = some x := ⟨_, List.getElem?_eq_getElem (by have := lx.out; omega)⟩
      have hm := hm.out
      rw [drop_some hxk] at hm
      obtain ⟨b, o, cs, b1, bx, b3, rfl, hbs, hO, hc, h1, h2⟩ := hm.next
      have hlen : (markA k0 (xs.take k)).length = k := by unfold markA; rw [mkL_len, List.length_take]; have := lx.out; omega
      rw [hlen] at hc h2
      obtain ⟨A1, n1, c1, A2, n2, c2, bd, bp, rfl, ⟨hd, rd⟩, ⟨hp, rp⟩, rfl⟩ := hO
      obtain ⟨hc0, hd0⟩ := hc 0 _ rfl
      obtain ⟨hc1, hd1⟩ := hc 1 _ rfl
      obtain ⟨hc2, hd2⟩ := hc 2 _ rfl
      obtain ⟨hc3, hd3⟩ := hc 3 _ rfl
      obtain ⟨hc4, hd4⟩ := hc 4 _ rfl
      rw [Nat.add_zero] at hc0 hd0
      have hsz := szAgent_mem hxk hs
      have hct := cntL_take (cnt := cntA) hxk
      have hcx : cntA x = 3 + x.data.length + 2 * x.ports.length := rfl
      have hcm := cntL_le (cnt := cntA) xs (k + 1)
      have hck := cntL_le (cnt := cntA) xs k
      have hnd' := hnd
      rw [hbs] at hnd'
      have nb : b ∉ b1 ∧ (b ∉ bd ∧ b ∉ bp) ∧ b ∉ b3 := by have := (List.nodup_cons.1 hnd').1; simp only [List.mem_append, not_or] at this; exact this
      have hn1 := List.nodup_append.1 (List.nodup_cons.1 hnd').2
      have hn2' := List.nodup_append.1 hn1.2.1
      have hn3 := List.nodup_append.1 hn2'.1
      have ld := Lib.hid hd.len
      have lp := Lib.hid hp.len
      have T0 : ∀ (u0 u1 u2 : Value), Touch b (o + k * 5) 5 (bd ++ bp) wr (((wr.setCell ⟨b, o + k * 5, none⟩ u0).setCell ⟨b, o + k * 5 + 1, none⟩ u1).setCell ⟨b, o + k * 5 + 2, none⟩ u2) := fun u0 u1 u2 =>
        ((Touch.refl.set (by omega) (by omega) _).set (by omega) (by omega) _).set (by omega) (by omega) _
      have S0 : ∀ (u0 u1 u2 : Value), CsAt (((wr.setCell ⟨b, o + k * 5, none⟩ u0).setCell ⟨b, o + k * 5 + 1, none⟩ u1).setCell ⟨b, o + k * 5 + 2, none⟩ u2) b (o + k * 5) [u0, u1, u2] := fun u0 u1 u2 =>
        setRun_csAt (w := wr) (vs := [u0, u1, u2]) (fun j hj => by
          rcases j with _ | _ | _ | j
          · exact ⟨_, hc0⟩
          · exact ⟨_, hc1⟩
          · exact ⟨_, hc2⟩
          · simp only [List.length_cons, List.length_nil] at hj; omega) (fun j hj => by
          rcases j with _ | _ | _ | j
          · exact hd0
          · exact hd1
          · exact hd2
          · simp only [List.length_cons, List.length_nil] at hj; omega)
      have HE := Lib.hid h2
      have HF := Lib.hid h1
      have HD := Lib.hid hd
      have HP := Lib.hid hp
      have HX := Lib.hid hxk
      have HT := Lib.hid T0
      have HS := Lib.hid S0
      have HI := Lib.hid hbs
      have N0 := Lib.hid hn1
      have N1 := Lib.hid hn2'
      have N2 := Lib.hid hn3
      have NB := Lib.hid nb
      have HL := Lib.hid hct
      have HLN := Lib.hid hlen
      clear h2 h1 hd hp hxk T0 S0 hbs hn1 hn2' hn3 nb hc hct hlen hnd' hm
      go_wp2_with fail
      have T3 := HT.out (.int .i64 ((k0 : Int) + (cntL cntA (xs.take k) : Nat))) (.int .i64 ((k0 : Int) + (cntL cntA (xs.take k) : Nat) + 1)) (.int .i64 ((k0 : Int) + (cntL cntA (xs.take k) : Nat) + 1 + 1))
      have S3 := HS.out (.int .i64 ((k0 : Int) + (cntL cntA (xs.take k) : Nat))) (.int .i64 ((k0 : Int) + (cntL cntA (xs.take k) : Nat) + 1)) (.int .i64 ((k0 : Int) + (cntL cntA (xs.take k) : Nat) + 1 + 1))
      rw [show (k0 : Int) + (cntL cntA (xs.take k) : Nat) + 1 + 1 + 1 = ((k0 + cntL cntA (xs.take k) + 3 : Nat) : Int) from by omega]
      have OD : OwAt intOw 1 (((wr.setCell ⟨b, o + k * 5, none⟩ (.int .i64 ((k0 : Int) + (cntL cntA (xs.take k) : Nat)))).setCell ⟨b, o + k * 5 + 1, none⟩ (.int .i64 ((k0 : Int) + (cntL cntA (xs.take k) : Nat) + 1))).setCell ⟨b, o + k * 5 + 2, none⟩ (.int .i64 ((k0 : Int) + (cntL cntA (xs.take k) : Nat) + 1 + 1))) A1 n1 x.data bd :=
        HD.out.keep intOw_ok (fun j hj => set3_block (fun e => NB.out.2.1.1 (by rw [← e]; exact hj)))
      refine (markInt64S_c A1 n1 c1 (k0 + cntL cntA (xs.take k) + 3) x.data bd _ OD N2.out.1 (by have := ld.out; omega) (by omega)).mono ?_
      rintro e w4 ⟨rfl, md, o4⟩
      have hc4' : w4.cell? ⟨b, o + k * 5 + 4, none⟩ = some (.slice A2 n2 c2) := ((World.cell?_of_block (a := ⟨b, o + k * 5 + 4, none⟩) (o4.block b NB.out.2.1.1)).trans (set3_cell (by omega))).trans hc4
      have MD := Lib.hid md
      clear md
      go_wp2_with fail
      rw [show (k0 : Int) + (cntL cntA (xs.take k) : Nat) + 3 + (n1 : Nat) = ((k0 + cntL cntA (xs.take k) + 3 + n1 : Nat) : Int) from by omega]
      have OP : OwAt portOw 2 w4 A2 n2 x.ports bp := HP.out.keep portOw_ok (fun j hj => (o4.block j (fun hjd => N2.out.2.2 j hjd j hj rfl)).trans (set3_block (fun e => NB.out.2.1.2 (by rw [← e]; exact hj))))
      refine (markPortS_c A2 n2 c2 _ x.ports bp w4 OP N2.out.2.1 (by have := lp.out; omega) (by have := ld.out; omega)).mono ?_
      rintro e w5 ⟨rfl, mp, o5⟩
      have MP := Lib.hid mp
      clear mp
      go_wp2_with fail
      go_roundw
      case rel =>
        have e1 := ld.out
        have e2 := lp.out
        have e3 := HL.out
        have OO : Only (b :: (bd ++ bp)) wr w5 := (T3.only_.trans (o4.mono (fun j hj => by simp [hj]))).trans (o5.mono (fun j hj => by simp [hj]))
        have hcell : ∀ q, w5.cell? ⟨b, q, none⟩ = (((wr.setCell ⟨b, o + k * 5, none⟩ (.int .i64 ((k0 : Int) + (cntL cntA (xs.take k) : Nat)))).setCell ⟨b, o + k * 5 + 1, none⟩ (.int .i64 ((k0 : Int) + (cntL cntA (xs.take k) : Nat) + 1))).setCell ⟨b, o + k * 5 + 2, none⟩ (.int .i64 ((k0 : Int) + (cntL cntA (xs.take k) : Nat) + 1 + 1))).cell? ⟨b, q, none⟩ := fun q =>
          (World.cell?_of_block (a := ⟨b, q, none⟩) (o5.block b NB.out.2.1.2)).trans (World.cell?_of_block (a := ⟨b, q, none⟩) (o4.block b NB.out.2.1.1))
        have hfroz : ∀ q, w5.frozen? ⟨b, q, none⟩ = (((wr.setCell ⟨b, o + k * 5, none⟩ (.int .i64 ((k0 : Int) + (cntL cntA (xs.take k) : Nat)))).setCell ⟨b, o + k * 5 + 1, none⟩ (.int .i64 ((k0 : Int) + (cntL cntA (xs.take k) : Nat) + 1))).setCell ⟨b, o + k * 5 + 2, none⟩ (.int .i64 ((k0 : Int) + (cntL cntA (xs.take k) : Nat) + 1 + 1))).frozen? ⟨b, q, none⟩ := fun q =>
          (World.frozen?_of_block (a := ⟨b, q, none⟩) (o5.block b NB.out.2.1.2)).trans (World.frozen?_of_block (a := ⟨b, q, none⟩) (o4.block b NB.out.2.1.1))
        refine ⟨k + 1, by omega, by go_num, congrArg (Value.int .i64) (by omega), ho.trans (OO.mono (fun j hj => ?_)), ?_⟩
        · rw [HI.out]; simp only [List.mem_cons, List.mem_append] at hj ⊢
          rcases hj with hj | hj
          · exact .inl hj
          · exact .inr (.inr (.inl hj))
        · show Hid _
          refine ?_
          unfold markA
          rw [mkL_take HX.out, HI.out]
          have hl := HLN.out
          unfold markA at hl
          refine MidAt.step (o := o) (cs := [.int .i64 ((k0 : Int) + (cntL cntA (xs.take k) : Nat)), .int .i64 ((k0 : Int) + (cntL cntA (xs.take k) : Nat) + 1), .int .i64 ((k0 : Int) + (cntL cntA (xs.take k) : Nat) + 1 + 1), .slice A1 n1 c1, .slice A2 n2 c2]) rfl ?_ ?_ ?_ ?_
          · refine ElAt.keepC agentOw_ok (w := wr) (fun q h1 h2 => ?_) (fun j hj => ?_) HF.out
            · unfold markA at h2
              rw [hl] at h2
              exact ⟨(hcell q).trans (T3.cell q (.inl (by omega))), (hfroz q).trans (T3.frozen q)⟩
            · exact OO.block j (fun hin => by
                rcases List.mem_cons.1 hin with rfl | hin
                · exact NB.out.1 hj
                · exact N0.out.2.2 j hj j (by simp only [List.mem_append] at hin ⊢; exact .inl hin) rfl)
          · refine ⟨A1, n1, c1, A2, n2, c2, bd, bp, ?_, ⟨?_, rd⟩, ⟨?_, rp⟩, rfl⟩
            · simp only [mkAgent]
              rw [show ((k0 + cntL cntA (xs.take k) : Nat) : Int) = (k0 : Int) + (cntL cntA (xs.take k) : Nat) from by omega, show ((k0 + cntL cntA (xs.take k) + 1 : Nat) : Int) = (k0 : Int) + (cntL cntA (xs.take k) : Nat) + 1 from by omega, show ((k0 + cntL cntA (xs.take k) + 2 : Nat) : Int) = (k0 : Int) + (cntL cntA (xs.take k) : Nat) + 1 + 1 from by omega]
            · have := MD.out.keep intOw_ok (w' := w5) (fun j hj => o5.block j (fun hin => N2.out.2.2 j hj j hin rfl))
              simp only [mkAgent]; rw [← e1]; exact this
            · have := MP.out
              simp only [mkAgent]; rw [← e1, ← e2]; exact this
          · rw [hl]
            intro j v hj
            rw [hcell, hfroz]
            rcases j with _ | _ | _ | _ | _ | j
            · exact S3 0 v hj
            · exact S3 1 v hj
            · exact S3 2 v hj
            · simp at hj; subst hj
              exact ⟨(set3_cell (by omega)).trans hc3, (T3.frozen _).trans hd3⟩
            · simp at hj; subst hj
              exact ⟨(set3_cell (by omega)).trans hc4, (T3.frozen _).trans hd4⟩
            · simp at hj
          · rw [hl]
            refine ElAt.keepC agentOw_ok (w := wr) (fun q h1 h2 => ?_) (fun j hj => ?_) HE.out
            · exact ⟨(hcell q).trans (T3.cell q (.inr (by omega))), (hfroz q).trans (T3.frozen q)⟩
            · exact OO.block j (fun hin => by
                rcases List.mem_cons.1 hin with rfl | hin
                · exact NB.out.2.2 hj
                · exact N1.out.2.2 j hin j hj rfl)
      case measure => simp [intOf]; omega
    · obtain rfl : n = k := by omega
      have hlast : xs.take n = xs := List.take_of_length_le (by have := lx.out; omega)
      have hdl : xs.drop n = [] := List.drop_eq_nil_of_le (by have := lx.out; omega)
      have hm := hm.out
      rw [hlast, hdl] at hm
      rw [hlast]
      have HM := Lib.hid (hm.whole (by unfold markA; rw [mkL_len]; first | done | exact lx.out))
      clear hlast hdl hm
      go_wp2_with fail
      go_ret
      exact ⟨retI (by omega), by rw [lx.out]; first | exact HM.out | (have h := HM.out; rw [lx.out] at h; exact h), ho⟩
theorem markNet_q (v : Value) (x : DNet) (w : World) (k : Int) (lo hi : Nat) (h : OwT netOw w v x lo hi) (hh : hi ≤ w.heap.size) (hs : szNet x ≤ 1048576) (h0 : 0 ≤ k) (hk : k ≤ 1048576) :
    Calls Tryz.prog 13 #[v, .int .i64 k] w fun e w' => e = .returned (.int .i64 ((k.toNat + cntL cntA x.agents : Nat) : Int)) ∧ ∃ wb, Below w.heap.size w wb ∧ wb.heap.size = w'.heap.size ∧ OnlyIn lo hi wb w' ∧ OwT netOw w' v ⟨markA k.toNat x.agents⟩ lo hi := by
  obtain ⟨cs, bs, rfl, ⟨A1, n1, c1, b1, rfl, ⟨h1, r1⟩, rfl⟩, hnd, hb⟩ := h
  obtain ⟨k0, rfl⟩ := Int.eq_ofNat_of_zero_le h0
  have hA : ∀ o1, Below w.heap.size w (w.alloc o1) := fun o1 => (Below.refl _ _).alloc (Nat.le_refl _) _
  have HK := Lib.hid (show ∀ o1, OwAt agentOw 5 (w.alloc o1) A1 n1 x.agents bs from fun o1 => h1.keep agentOw_ok (fun j hj => (hA o1).block j (by have := hb j hj; omega)))
  have HN := Lib.hid hnd
  have HB := Lib.hid hb
  have HS : szAgentS x.agents ≤ 1048576 := hs
  have hcl := cntL_agents x.agents
  clear h1 hb hnd
  go_enter Tryz.func13, Tryz.ntmps13
  go_wp2_with fail
  refine (markAgentS_q A1 n1 c1 k0 x.agents bs _ (HK.out _) HN.out HS (by omega)).mono ?_
  rintro e w1 ⟨rfl, m1, o1⟩
  have M1 := Lib.hid m1
  clear m1
  go_wp2_with fail
  go_ret
  exact ⟨rfl, _, hA _, o1.size.symm, o1.in_ HB.out, ⟨_, bs, rfl, ⟨A1, n1, c1, bs, rfl, ⟨M1.out, r1⟩, rfl⟩, HN.out, HB.out⟩⟩
end
section
open Go.RowKit
set_option linter.unusedVariables false
set_option linter.unusedSimpArgs false
set_option maxRecDepth 100000
def m_laws_heldInt64S_A1 (i1 : Int) : Option Int :=
  some i1
def m_laws_heldInt64S_B1 (d0 : List Int) (rec1 : Int → Int → Option Int) (K1 : Int → Option Int) (i3 : Int) (i4 : Int) : Option Int :=
  (bif (decide (i4 < (d0.length : Int))) then ((getI d0 i4).bind fun x7 => (bif (x7 != i3) then some (-1) else ((ck (i3 + 1)).bind fun s17 => (rec1 s17 (i4 + 1))))) else (K1 i3))
def m_laws_heldInt64S_L1 (d0 : List Int) (K1 : Int → Option Int) : Nat → Int → Int → Option Int
  | 0, _, _ => none
  | g + 1, i3, i4 => m_laws_heldInt64S_B1 d0 (m_laws_heldInt64S_L1 d0 K1 g) K1 i3 i4
def m_laws_heldInt64S (d0 : List Int) (d1 : Int) : Option Int :=
  (m_laws_heldInt64S_L1 d0 m_laws_heldInt64S_A1 (d0.length + 1) d1 0)
set_option maxHeartbeats 2000000 in
theorem c_m_laws_heldInt64S (d0 : List Int) (d1 : Int) (r : Int) (hm : m_laws_heldInt64S d0 d1 = some r) (v0 : Value) (w : World) (hv0 : Sl intRd 1 w v0 d0) :
    Calls Tryz.prog 15 #[v0, .int .i64 d1] w fun e w' => e = .returned (.int .i64 r) ∧ Below w.heap.size w w' := by
  obtain ⟨Aa0, na0, ca0, rfl, ha0, ra0⟩ := hv0
  have ea0 := ha0.len; subst ea0
  have qa0 := len_le ra0
  have T := Below.refl w.heap.size w
  unfold m_laws_heldInt64S at hm
  refine enter 21 Tryz.func15 rfl rfl rfl ?_
  intro f hf
  have s0 : f 0 = .slice Aa0 d0.length ca0 := hf 0 _ rfl
  have s1 : f 1 = .int .i64 d1 := hf 1 _ rfl
  refine wp_seq ?_
  refine wp_rs rfl ?_
  refine RQ.y rfl (Y.assign (v := .int .i64 0) rfl) ?_
  refine RQ.nil ?_
  refine then_n ?_
  refine wp_seq ?_
  refine wp_seq ?_
  refine wp_rs rfl ?_
  refine RQ.y rfl (Y.assign (v := .int .i64 0) rfl) ?_
  refine RQ.nil ?_
  refine then_n ?_
  refine wp_block ?_
  obtain ⟨K1, hK1, hm⟩ : ∃ K, K = m_laws_heldInt64S_A1 ∧ m_laws_heldInt64S_L1 d0 K (d0.length + 1) d1 0 = some r := ⟨_, rfl, hm⟩
  refine wp_loopX (fun g f w' => ∃ (i3 : Int) (i4 : Int), f 0 = .slice Aa0 d0.length ca0 ∧ f 1 = .int .i64 i3 ∧ f 5 = .int .i64 i4 ∧ 0 ≤ i4 ∧ Below w.heap.size w w' ∧ m_laws_heldInt64S_L1 d0 K1 g i3 i4 = some r) 0 (fun f w' => ∃ (i1 : Int), f 1 = .int .i64 i1 ∧ Below w.heap.size w w' ∧ m_laws_heldInt64S_A1 i1 = some r) (d0.length + 1) ⟨d1, 0, s0, s1, rfl, (by omega), T, hm⟩ ?_ ?_
  · rintro f w2 ⟨i1, s1_1x, T, hm⟩
    unfold m_laws_heldInt64S_A1 at hm
    refine blk_hit (then_n ?_)
    refine wp_seq ?_
    refine wp_rs rfl ?_
    refine RQ.y rfl (Y.move (v := .int .i64 i1) s1_1x) ?_
    refine RQ.y rfl (Y.assign (v := .int .i64 i1) rfl) ?_
    refine RQ.nil ?_
    refine then_n ?_
    refine wp_ret ?_
    obtain rfl := Option.some.inj hm
    exact (ret1 rfl rfl rfl ⟨rfl, T⟩)
  · rintro g f w5 ⟨i3, i4, s0_1, s1_1, s5_1, nn5_1, T, hm⟩
    rcases g with _ | g
    · simp only [m_laws_heldInt64S_L1] at hm; cases hm
    obtain ⟨rec1, hrec1, hm⟩ : ∃ z, z = m_laws_heldInt64S_L1 d0 K1 g ∧ m_laws_heldInt64S_B1 d0 z K1 i3 i4 = some r := ⟨_, rfl, hm⟩
    unfold m_laws_heldInt64S_B1 at hm
    refine wp_seq ?_
    refine wp_seq ?_
    refine wp_rs rfl ?_
    refine RQ.y rfl (Y.move (v := .int .i64 i4) s5_1) ?_
    refine RQ.y rfl (Y.move (v := .slice Aa0 d0.length ca0) s0_1) ?_
    refine RQ.y rfl (Y.len (by kernel_rfl) rfl) ?_
    refine RQ.y rfl (Y.binI (v := .bool (decide (i4 < (d0.length : Int)))) rfl rfl rfl) ?_
    refine RQ.nil ?_
    refine then_n ?_
    rcases bcases (decide (i4 < (d0.length : Int))) with c6 | c6
    · replace hm := cF c6 hm
      have pc6 := of_decide_eq_false c6
      refine cond_f rfl (vb rfl c6) ?_
      refine wp_exit ?_
      exact (then_x (then_x (hit_x ⟨_, rfl, ⟨i3, s1_1, T, (by rw [hK1] at hm; exact hm)⟩⟩)))
    · replace hm := cT c6 hm
      have pc6 := of_decide_eq_true c6
      refine cond_t rfl (vb rfl c6) ?_
      refine wp_skip ?_
      refine then_n ?_
      refine wp_seq ?_
      refine wp_block ?_
      refine wp_seq ?_
      refine wp_seq ?_
      refine wp_rs rfl ?_
      refine RQ.y rfl (Y.move (v := .slice Aa0 d0.length ca0) s0_1) ?_
      refine RQ.y rfl (Y.move (v := .int .i64 i4) s5_1) ?_
      obtain ⟨x7, hx10, hm⟩ := bnd hm
      obtain ⟨k8, hk11, hl12, hx10⟩ := getI_some hx10
      obtain ⟨b14, o15, rfl, hbb14⟩ := ha0.addr (by omega)
      obtain ⟨cs9, hRcs9, hc13⟩ := ha0.el hx10
      have hScs9 := hRcs9
      obtain rfl := hRcs9
      refine RQ.y rfl (Y.indexAddr (m := k8) (sz := 1) rfl rfl hk11 hl12 (by kernel_rfl)) ?_
      refine RQ.y rfl (Y.load (v := .int .i64 x7) rfl (by kernel_rfl) (eqC (cellT T (hc13 0 _ rfl)))) ?_
      refine RQ.y rfl (Y.move (v := .int .i64 i3) s1_1) ?_
      refine RQ.y rfl (Y.binI (v := .bool (x7 != i3)) rfl rfl rfl) ?_
      refine RQ.nil ?_
      refine then_n ?_
      rcases bcases (x7 != i3) with c16 | c16
      · replace hm := cF c16 hm
        refine cond_f rfl (vb rfl c16) ?_
        refine wp_skip ?_
        refine then_n ?_
        refine wp_rs rfl ?_
        refine RQ.y rfl (Y.move (v := .int .i64 i3) s1_1) ?_
        obtain ⟨s17, ks17, hm⟩ := bnd hm
        replace ks17 := ck_some ks17
        refine RQ.y rfl (Y.binI (v := .int .i64 s17) rfl rfl (by rw [binI_add ks17.2, ks17.1])) ?_
        refine RQ.y rfl (Y.assign (v := .int .i64 s17) rfl) ?_
        refine RQ.nil ?_
        refine blk_n (then_n ?_)
        refine wp_rs rfl ?_
        refine RQ.y rfl (Y.move (v := .int .i64 i4) s5_1) ?_
        refine RQ.y rfl (Y.binI rfl rfl (binI_add (m := i4) (by omega))) ?_
        refine RQ.y rfl (Y.assign (v := .int .i64 (i4 + 1)) rfl) ?_
        refine RQ.nil ?_
        exact (then_n ⟨g, _, Nat.lt_succ_self _, rfl, ⟨s17, (i4 + 1), s0_1, rfl, rfl, (by omega), T, (by rw [← hrec1]; exact hm)⟩⟩)
      · replace hm := cT c16 hm
        refine cond_t rfl (vb rfl c16) ?_
        refine wp_seq ?_
        refine wp_rs rfl ?_
        refine RQ.y rfl (Y.assign (v := .int .i64 (-1)) rfl) ?_
        refine RQ.nil ?_
        refine then_n ?_
        refine wp_ret ?_
        obtain rfl := Option.some.inj hm
        exact (then_r (blk_r (then_r (then_r (hit_r (blk_r (then_r (ret1 rfl rfl rfl ⟨rfl, T⟩))))))))
def m_laws_heldPortS_A1 (i1 : Int) : Option Int :=
  some i1
def m_laws_heldPortS_B1 (d0 : List DPort) (rec1 : Int → Int → Option Int) (K1 : Int → Option Int) (i3 : Int) (i4 : Int) : Option Int :=
  (bif (decide (i4 < (d0.length : Int))) then ((getI d0 i4).bind fun x7 => (bif (x7.agent != i3) then some (-1) else ((ck (i3 + 1)).bind fun s17 => ((getI d0 i4).bind fun x18 => (bif (x18.slot != s17) then some (-1) else ((ck (s17 + 1)).bind fun s26 => (rec1 s26 (i4 + 1)))))))) else (K1 i3))
def m_laws_heldPortS_L1 (d0 : List DPort) (K1 : Int → Option Int) : Nat → Int → Int → Option Int
  | 0, _, _ => none
  | g + 1, i3, i4 => m_laws_heldPortS_B1 d0 (m_laws_heldPortS_L1 d0 K1 g) K1 i3 i4
def m_laws_heldPortS (d0 : List DPort) (d1 : Int) : Option Int :=
  (m_laws_heldPortS_L1 d0 m_laws_heldPortS_A1 (d0.length + 1) d1 0)
set_option maxHeartbeats 2000000 in
theorem c_m_laws_heldPortS (d0 : List DPort) (d1 : Int) (r : Int) (hm : m_laws_heldPortS d0 d1 = some r) (v0 : Value) (w : World) (hv0 : Sl portRd 2 w v0 d0) :
    Calls Tryz.prog 63 #[v0, .int .i64 d1] w fun e w' => e = .returned (.int .i64 r) ∧ Below w.heap.size w w' := by
  obtain ⟨Aa0, na0, ca0, rfl, ha0, ra0⟩ := hv0
  have ea0 := ha0.len; subst ea0
  have qa0 := len_le ra0
  have T := Below.refl w.heap.size w
  unfold m_laws_heldPortS at hm
  refine enter 31 Tryz.func63 rfl rfl rfl ?_
  intro f hf
  have s0 : f 0 = .slice Aa0 d0.length ca0 := hf 0 _ rfl
  have s1 : f 1 = .int .i64 d1 := hf 1 _ rfl
  refine wp_seq ?_
  refine wp_rs rfl ?_
  refine RQ.y rfl (Y.assign (v := .int .i64 0) rfl) ?_
  refine RQ.nil ?_
  refine then_n ?_
  refine wp_seq ?_
  refine wp_seq ?_
  refine wp_rs rfl ?_
  refine RQ.y rfl (Y.assign (v := .int .i64 0) rfl) ?_
  refine RQ.nil ?_
  refine then_n ?_
  refine wp_block ?_
  obtain ⟨K1, hK1, hm⟩ : ∃ K, K = m_laws_heldPortS_A1 ∧ m_laws_heldPortS_L1 d0 K (d0.length + 1) d1 0 = some r := ⟨_, rfl, hm⟩
  refine wp_loopX (fun g f w' => ∃ (i3 : Int) (i4 : Int), f 0 = .slice Aa0 d0.length ca0 ∧ f 1 = .int .i64 i3 ∧ f 5 = .int .i64 i4 ∧ 0 ≤ i4 ∧ Below w.heap.size w w' ∧ m_laws_heldPortS_L1 d0 K1 g i3 i4 = some r) 0 (fun f w' => ∃ (i1 : Int), f 1 = .int .i64 i1 ∧ Below w.heap.size w w' ∧ m_laws_heldPortS_A1 i1 = some r) (d0.length + 1) ⟨d1, 0, s0, s1, rfl, (by omega), T, hm⟩ ?_ ?_
  · rintro f w2 ⟨i1, s1_1x, T, hm⟩
    unfold m_laws_heldPortS_A1 at hm
    refine blk_hit (then_n ?_)
    refine wp_seq ?_
    refine wp_rs rfl ?_
    refine RQ.y rfl (Y.move (v := .int .i64 i1) s1_1x) ?_
    refine RQ.y rfl (Y.assign (v := .int .i64 i1) rfl) ?_
    refine RQ.nil ?_
    refine then_n ?_
    refine wp_ret ?_
    obtain rfl := Option.some.inj hm
    exact (ret1 rfl rfl rfl ⟨rfl, T⟩)
  · rintro g f w5 ⟨i3, i4, s0_1, s1_1, s5_1, nn5_1, T, hm⟩
    rcases g with _ | g
    · simp only [m_laws_heldPortS_L1] at hm; cases hm
    obtain ⟨rec1, hrec1, hm⟩ : ∃ z, z = m_laws_heldPortS_L1 d0 K1 g ∧ m_laws_heldPortS_B1 d0 z K1 i3 i4 = some r := ⟨_, rfl, hm⟩
    unfold m_laws_heldPortS_B1 at hm
    refine wp_seq ?_
    refine wp_seq ?_
    refine wp_rs rfl ?_
    refine RQ.y rfl (Y.move (v := .int .i64 i4) s5_1) ?_
    refine RQ.y rfl (Y.move (v := .slice Aa0 d0.length ca0) s0_1) ?_
    refine RQ.y rfl (Y.len (by kernel_rfl) rfl) ?_
    refine RQ.y rfl (Y.binI (v := .bool (decide (i4 < (d0.length : Int)))) rfl rfl rfl) ?_
    refine RQ.nil ?_
    refine then_n ?_
    rcases bcases (decide (i4 < (d0.length : Int))) with c6 | c6
    · replace hm := cF c6 hm
      have pc6 := of_decide_eq_false c6
      refine cond_f rfl (vb rfl c6) ?_
      refine wp_exit ?_
      exact (then_x (then_x (hit_x ⟨_, rfl, ⟨i3, s1_1, T, (by rw [hK1] at hm; exact hm)⟩⟩)))
    · replace hm := cT c6 hm
      have pc6 := of_decide_eq_true c6
      refine cond_t rfl (vb rfl c6) ?_
      refine wp_skip ?_
      refine then_n ?_
      refine wp_seq ?_
      refine wp_block ?_
      refine wp_seq ?_
      refine wp_seq ?_
      refine wp_rs rfl ?_
      refine RQ.y rfl (Y.move (v := .slice Aa0 d0.length ca0) s0_1) ?_
      refine RQ.y rfl (Y.move (v := .int .i64 i4) s5_1) ?_
      obtain ⟨x7, hx10, hm⟩ := bnd hm
      obtain ⟨k8, hk11, hl12, hx10⟩ := getI_some hx10
      obtain ⟨b14, o15, rfl, hbb14⟩ := ha0.addr (by omega)
      obtain ⟨cs9, hRcs9, hc13⟩ := ha0.el hx10
      have hScs9 := hRcs9
      obtain rfl := hRcs9
      refine RQ.y rfl (Y.indexAddr (m := k8) (sz := 2) rfl rfl hk11 hl12 (by kernel_rfl)) ?_
      refine RQ.y rfl (Y.fieldAddr (off := 0) rfl (by kernel_rfl)) ?_
      refine RQ.y rfl (Y.load (v := .int .i64 x7.agent) rfl (by kernel_rfl) (eqC (cellT T (hc13 0 _ rfl)))) ?_
      refine RQ.y rfl (Y.move (v := .int .i64 i3) s1_1) ?_
      refine RQ.y rfl (Y.binI (v := .bool (x7.agent != i3)) rfl rfl rfl) ?_
      refine RQ.nil ?_
      refine then_n ?_
      rcases bcases (x7.agent != i3) with c16 | c16
      · replace hm := cF c16 hm
        refine cond_f rfl (vb rfl c16) ?_
        refine wp_skip ?_
        refine then_n ?_
        refine wp_seq ?_
        refine wp_rs rfl ?_
        refine RQ.y rfl (Y.move (v := .int .i64 i3) s1_1) ?_
        obtain ⟨s17, ks17, hm⟩ := bnd hm
        replace ks17 := ck_some ks17
        refine RQ.y rfl (Y.binI (v := .int .i64 s17) rfl rfl (by rw [binI_add ks17.2, ks17.1])) ?_
        refine RQ.y rfl (Y.assign (v := .int .i64 s17) rfl) ?_
        refine RQ.nil ?_
        refine then_n ?_
        refine wp_seq ?_
        refine wp_seq ?_
        refine wp_rs rfl ?_
        refine RQ.y rfl (Y.move (v := .slice (some ⟨b14, o15, none⟩) d0.length ca0) s0_1) ?_
        refine RQ.y rfl (Y.move (v := .int .i64 i4) s5_1) ?_
        obtain ⟨x18, hx21, hm⟩ := bnd hm
        obtain ⟨k19, hk22, hl23, hx21⟩ := getI_some hx21
        obtain ⟨cs20, hRcs20, hc24⟩ := ha0.el hx21
        have hScs20 := hRcs20
        obtain rfl := hRcs20
        refine RQ.y rfl (Y.indexAddr (m := k19) (sz := 2) rfl rfl hk22 hl23 (by kernel_rfl)) ?_
        refine RQ.y rfl (Y.fieldAddr (off := 1) rfl (by kernel_rfl)) ?_
        refine RQ.y rfl (Y.load (v := .int .i64 x18.slot) rfl (by kernel_rfl) (eqC (cellT T (hc24 1 _ rfl)))) ?_
        refine RQ.y rfl (Y.move (v := .int .i64 s17) rfl) ?_
        refine RQ.y rfl (Y.binI (v := .bool (x18.slot != s17)) rfl rfl rfl) ?_
        refine RQ.nil ?_
        refine then_n ?_
        rcases bcases (x18.slot != s17) with c25 | c25
        · replace hm := cF c25 hm
          refine cond_f rfl (vb rfl c25) ?_
          refine wp_skip ?_
          refine then_n ?_
          refine wp_rs rfl ?_
          refine RQ.y rfl (Y.move (v := .int .i64 s17) rfl) ?_
          obtain ⟨s26, ks26, hm⟩ := bnd hm
          replace ks26 := ck_some ks26
          refine RQ.y rfl (Y.binI (v := .int .i64 s26) rfl rfl (by rw [binI_add ks26.2, ks26.1])) ?_
          refine RQ.y rfl (Y.assign (v := .int .i64 s26) rfl) ?_
          refine RQ.nil ?_
          refine blk_n (then_n ?_)
          refine wp_rs rfl ?_
          refine RQ.y rfl (Y.move (v := .int .i64 i4) s5_1) ?_
          refine RQ.y rfl (Y.binI rfl rfl (binI_add (m := i4) (by omega))) ?_
          refine RQ.y rfl (Y.assign (v := .int .i64 (i4 + 1)) rfl) ?_
          refine RQ.nil ?_
          exact (then_n ⟨g, _, Nat.lt_succ_self _, rfl, ⟨s26, (i4 + 1), s0_1, rfl, rfl, (by omega), T, (by rw [← hrec1]; exact hm)⟩⟩)
        · replace hm := cT c25 hm
          refine cond_t rfl (vb rfl c25) ?_
          refine wp_seq ?_
          refine wp_rs rfl ?_
          refine RQ.y rfl (Y.assign (v := .int .i64 (-1)) rfl) ?_
          refine RQ.nil ?_
          refine then_n ?_
          refine wp_ret ?_
          obtain rfl := Option.some.inj hm
          exact (then_r (blk_r (then_r (then_r (hit_r (blk_r (then_r (ret1 rfl rfl rfl ⟨rfl, T⟩))))))))
      · replace hm := cT c16 hm
        refine cond_t rfl (vb rfl c16) ?_
        refine wp_seq ?_
        refine wp_rs rfl ?_
        refine RQ.y rfl (Y.assign (v := .int .i64 (-1)) rfl) ?_
        refine RQ.nil ?_
        refine then_n ?_
        refine wp_ret ?_
        obtain rfl := Option.some.inj hm
        exact (then_r (blk_r (then_r (then_r (hit_r (blk_r (then_r (ret1 rfl rfl rfl ⟨rfl, T⟩))))))))
def m_laws_heldAgentS_A1 (i1 : Int) : Option Int :=
  some i1
def m_laws_heldAgentS_B1 (d0 : List DAgent) (rec1 : Int → Int → Option Int) (K1 : Int → Option Int) (i3 : Int) (i4 : Int) : Option Int :=
  (bif (decide (i4 < (d0.length : Int))) then ((getI d0 i4).bind fun x7 => (bif (x7.kind != i3) then some (-1) else ((ck (i3 + 1)).bind fun s19 => ((getI d0 i4).bind fun x20 => (bif (x20.level != s19) then some (-1) else ((ck (s19 + 1)).bind fun s30 => ((getI d0 i4).bind fun x31 => (bif (x31.value != s30) then some (-1) else ((ck (s30 + 1)).bind fun s41 => ((getI d0 i4).bind fun x42 => ((m_laws_heldInt64S x42.data s41).bind fun y51 => (bif (decide (y51 < 0)) then some (-1) else ((getI d0 i4).bind fun x56 => ((m_laws_heldPortS x56.ports y51).bind fun y65 => (bif (decide (y65 < 0)) then some (-1) else (rec1 y65 (i4 + 1))))))))))))))))) else (K1 i3))
def m_laws_heldAgentS_L1 (d0 : List DAgent) (K1 : Int → Option Int) : Nat → Int → Int → Option Int
  | 0, _, _ => none
  | g + 1, i3, i4 => m_laws_heldAgentS_B1 d0 (m_laws_heldAgentS_L1 d0 K1 g) K1 i3 i4
def m_laws_heldAgentS (d0 : List DAgent) (d1 : Int) : Option Int :=
  (m_laws_heldAgentS_L1 d0 m_laws_heldAgentS_A1 (d0.length + 1) d1 0)
set_option maxHeartbeats 2000000 in
theorem c_m_laws_heldAgentS (d0 : List DAgent) (d1 : Int) (r : Int) (hm : m_laws_heldAgentS d0 d1 = some r) (v0 : Value) (w : World) (hv0 : Sl agentRd 5 w v0 d0) :
    Calls Tryz.prog 33 #[v0, .int .i64 d1] w fun e w' => e = .returned (.int .i64 r) ∧ Below w.heap.size w w' := by
  obtain ⟨Aa0, na0, ca0, rfl, ha0, ra0⟩ := hv0
  have ea0 := ha0.len; subst ea0
  have qa0 := len_le ra0
  have T := Below.refl w.heap.size w
  unfold m_laws_heldAgentS at hm
  refine enter 58 Tryz.func33 rfl rfl rfl ?_
  intro f hf
  have s0 : f 0 = .slice Aa0 d0.length ca0 := hf 0 _ rfl
  have s1 : f 1 = .int .i64 d1 := hf 1 _ rfl
  refine wp_seq ?_
  refine wp_rs rfl ?_
  refine RQ.y rfl (Y.assign (v := .int .i64 0) rfl) ?_
  refine RQ.nil ?_
  refine then_n ?_
  refine wp_seq ?_
  refine wp_seq ?_
  refine wp_rs rfl ?_
  refine RQ.y rfl (Y.assign (v := .int .i64 0) rfl) ?_
  refine RQ.nil ?_
  refine then_n ?_
  refine wp_block ?_
  obtain ⟨K1, hK1, hm⟩ : ∃ K, K = m_laws_heldAgentS_A1 ∧ m_laws_heldAgentS_L1 d0 K (d0.length + 1) d1 0 = some r := ⟨_, rfl, hm⟩
  refine wp_loopX (fun g f w' => ∃ (i3 : Int) (i4 : Int), f 0 = .slice Aa0 d0.length ca0 ∧ f 1 = .int .i64 i3 ∧ f 5 = .int .i64 i4 ∧ 0 ≤ i4 ∧ Below w.heap.size w w' ∧ m_laws_heldAgentS_L1 d0 K1 g i3 i4 = some r) 0 (fun f w' => ∃ (i1 : Int), f 1 = .int .i64 i1 ∧ Below w.heap.size w w' ∧ m_laws_heldAgentS_A1 i1 = some r) (d0.length + 1) ⟨d1, 0, s0, s1, rfl, (by omega), T, hm⟩ ?_ ?_
  · rintro f w2 ⟨i1, s1_1x, T, hm⟩
    unfold m_laws_heldAgentS_A1 at hm
    refine blk_hit (then_n ?_)
    refine wp_seq ?_
    refine wp_rs rfl ?_
    refine RQ.y rfl (Y.move (v := .int .i64 i1) s1_1x) ?_
    refine RQ.y rfl (Y.assign (v := .int .i64 i1) rfl) ?_
    refine RQ.nil ?_
    refine then_n ?_
    refine wp_ret ?_
    obtain rfl := Option.some.inj hm
    exact (ret1 rfl rfl rfl ⟨rfl, T⟩)
  · rintro g f w5 ⟨i3, i4, s0_1, s1_1, s5_1, nn5_1, T, hm⟩
    rcases g with _ | g
    · simp only [m_laws_heldAgentS_L1] at hm; cases hm
    obtain ⟨rec1, hrec1, hm⟩ : ∃ z, z = m_laws_heldAgentS_L1 d0 K1 g ∧ m_laws_heldAgentS_B1 d0 z K1 i3 i4 = some r := ⟨_, rfl, hm⟩
    unfold m_laws_heldAgentS_B1 at hm
    refine wp_seq ?_
    refine wp_seq ?_
    refine wp_rs rfl ?_
    refine RQ.y rfl (Y.move (v := .int .i64 i4) s5_1) ?_
    refine RQ.y rfl (Y.move (v := .slice Aa0 d0.length ca0) s0_1) ?_
    refine RQ.y rfl (Y.len (by kernel_rfl) rfl) ?_
    refine RQ.y rfl (Y.binI (v := .bool (decide (i4 < (d0.length : Int)))) rfl rfl rfl) ?_
    refine RQ.nil ?_
    refine then_n ?_
    rcases bcases (decide (i4 < (d0.length : Int))) with c6 | c6
    · replace hm := cF c6 hm
      have pc6 := of_decide_eq_false c6
      refine cond_f rfl (vb rfl c6) ?_
      refine wp_exit ?_
      exact (then_x (then_x (hit_x ⟨_, rfl, ⟨i3, s1_1, T, (by rw [hK1] at hm; exact hm)⟩⟩)))
    · replace hm := cT c6 hm
      have pc6 := of_decide_eq_true c6
      refine cond_t rfl (vb rfl c6) ?_
      refine wp_skip ?_
      refine then_n ?_
      refine wp_seq ?_
      refine wp_block ?_
      refine wp_seq ?_
      refine wp_seq ?_
      refine wp_rs rfl ?_
      refine RQ.y rfl (Y.move (v := .slice Aa0 d0.length ca0) s0_1) ?_
      refine RQ.y rfl (Y.move (v := .int .i64 i4) s5_1) ?_
      obtain ⟨x7, hx10, hm⟩ := bnd hm
      obtain ⟨k8, hk11, hl12, hx10⟩ := getI_some hx10
      obtain ⟨b14, o15, rfl, hbb14⟩ := ha0.addr (by omega)
      obtain ⟨cs9, hRcs9, hc13⟩ := ha0.el hx10
      have hScs9 := hRcs9
      obtain ⟨A16, n16, c16, A17, n17, c17, rfl, ⟨h16, r16⟩, ⟨h17, r17⟩⟩ := hRcs9
      have e16 := h16.len; subst e16
      have q16 := len_le r16
      have e17 := h17.len; subst e17
      have q17 := len_le r17
      refine RQ.y rfl (Y.indexAddr (m := k8) (sz := 5) rfl rfl hk11 hl12 (by kernel_rfl)) ?_
      refine RQ.y rfl (Y.fieldAddr (off := 0) rfl (by kernel_rfl)) ?_
      refine RQ.y rfl (Y.load (v := .int .i64 x7.kind) rfl (by kernel_rfl) (eqC (cellT T (hc13 0 _ rfl)))) ?_
      refine RQ.y rfl (Y.move (v := .int .i64 i3) s1_1) ?_
      refine RQ.y rfl (Y.binI (v := .bool (x7.kind != i3)) rfl rfl rfl) ?_
      refine RQ.nil ?_
      refine then_n ?_
      rcases bcases (x7.kind != i3) with c18 | c18
      · replace hm := cF c18 hm
        refine cond_f rfl (vb rfl c18) ?_
        refine wp_skip ?_
        refine then_n ?_
        refine wp_seq ?_
        refine wp_rs rfl ?_
        refine RQ.y rfl (Y.move (v := .int .i64 i3) s1_1) ?_
        obtain ⟨s19, ks19, hm⟩ := bnd hm
        replace ks19 := ck_some ks19
        refine RQ.y rfl (Y.binI (v := .int .i64 s19) rfl rfl (by rw [binI_add ks19.2, ks19.1])) ?_
        refine RQ.y rfl (Y.assign (v := .int .i64 s19) rfl) ?_
        refine RQ.nil ?_
        refine then_n ?_
        refine wp_seq ?_
        refine wp_seq ?_
        refine wp_rs rfl ?_
        refine RQ.y rfl (Y.move (v := .slice (some ⟨b14, o15, none⟩) d0.length ca0) s0_1) ?_
        refine RQ.y rfl (Y.move (v := .int .i64 i4) s5_1) ?_
        obtain ⟨x20, hx23, hm⟩ := bnd hm
        obtain ⟨k21, hk24, hl25, hx23⟩ := getI_some hx23
        obtain ⟨cs22, hRcs22, hc26⟩ := ha0.el hx23
        have hScs22 := hRcs22
        obtain ⟨A27, n27, c27, A28, n28, c28, rfl, ⟨h27, r27⟩, ⟨h28, r28⟩⟩ := hRcs22
        have e27 := h27.len; subst e27
        have q27 := len_le r27
        have e28 := h28.len; subst e28
        have q28 := len_le r28
        refine RQ.y rfl (Y.indexAddr (m := k21) (sz := 5) rfl rfl hk24 hl25 (by kernel_rfl)) ?_
        refine RQ.y rfl (Y.fieldAddr (off := 1) rfl (by kernel_rfl)) ?_
        refine RQ.y rfl (Y.load (v := .int .i64 x20.level) rfl (by kernel_rfl) (eqC (cellT T (hc26 1 _ rfl)))) ?_
        refine RQ.y rfl (Y.move (v := .int .i64 s19) rfl) ?_
        refine RQ.y rfl (Y.binI (v := .bool (x20.level != s19)) rfl rfl rfl) ?_
        refine RQ.nil ?_
        refine then_n ?_
        rcases bcases (x20.level != s19) with c29 | c29
        · replace hm := cF c29 hm
          refine cond_f rfl (vb rfl c29) ?_
          refine wp_skip ?_
          refine then_n ?_
          refine wp_seq ?_
          refine wp_rs rfl ?_
          refine RQ.y rfl (Y.move (v := .int .i64 s19) rfl) ?_
          obtain ⟨s30, ks30, hm⟩ := bnd hm
          replace ks30 := ck_some ks30
          refine RQ.y rfl (Y.binI (v := .int .i64 s30) rfl rfl (by rw [binI_add ks30.2, ks30.1])) ?_
          refine RQ.y rfl (Y.assign (v := .int .i64 s30) rfl) ?_
          refine RQ.nil ?_
          refine then_n ?_
          refine wp_seq ?_
          refine wp_seq ?_
          refine wp_rs rfl ?_
          refine RQ.y rfl (Y.move (v := .slice (some ⟨b14, o15, none⟩) d0.length ca0) s0_1) ?_
          refine RQ.y rfl (Y.move (v := .int .i64 i4) s5_1) ?_
          obtain ⟨x31, hx34, hm⟩ := bnd hm
          obtain ⟨k32, hk35, hl36, hx34⟩ := getI_some hx34
          obtain ⟨cs33, hRcs33, hc37⟩ := ha0.el hx34
          have hScs33 := hRcs33
          obtain ⟨A38, n38, c38, A39, n39, c39, rfl, ⟨h38, r38⟩, ⟨h39, r39⟩⟩ := hRcs33
          have e38 := h38.len; subst e38
          have q38 := len_le r38
          have e39 := h39.len; subst e39
          have q39 := len_le r39
          refine RQ.y rfl (Y.indexAddr (m := k32) (sz := 5) rfl rfl hk35 hl36 (by kernel_rfl)) ?_
          refine RQ.y rfl (Y.fieldAddr (off := 2) rfl (by kernel_rfl)) ?_
          refine RQ.y rfl (Y.load (v := .int .i64 x31.value) rfl (by kernel_rfl) (eqC (cellT T (hc37 2 _ rfl)))) ?_
          refine RQ.y rfl (Y.move (v := .int .i64 s30) rfl) ?_
          refine RQ.y rfl (Y.binI (v := .bool (x31.value != s30)) rfl rfl rfl) ?_
          refine RQ.nil ?_
          refine then_n ?_
          rcases bcases (x31.value != s30) with c40 | c40
          · replace hm := cF c40 hm
            refine cond_f rfl (vb rfl c40) ?_
            refine wp_skip ?_
            refine then_n ?_
            refine wp_seq ?_
            refine wp_rs rfl ?_
            refine RQ.y rfl (Y.move (v := .int .i64 s30) rfl) ?_
            obtain ⟨s41, ks41, hm⟩ := bnd hm
            replace ks41 := ck_some ks41
            refine RQ.y rfl (Y.binI (v := .int .i64 s41) rfl rfl (by rw [binI_add ks41.2, ks41.1])) ?_
            refine RQ.y rfl (Y.assign (v := .int .i64 s41) rfl) ?_
            refine RQ.nil ?_
            refine then_n ?_
            refine wp_seq ?_
            refine wp_rb rfl ?_
            refine RQ.y rfl (Y.move (v := .slice (some ⟨b14, o15, none⟩) d0.length ca0) s0_1) ?_
            refine RQ.y rfl (Y.move (v := .int .i64 i4) s5_1) ?_
            obtain ⟨x42, hx45, hm⟩ := bnd hm
            obtain ⟨k43, hk46, hl47, hx45⟩ := getI_some hx45
            obtain ⟨cs44, hRcs44, hc48⟩ := ha0.el hx45
            have hScs44 := hRcs44
            obtain ⟨A49, n49, c49, A50, n50, c50, rfl, ⟨h49, r49⟩, ⟨h50, r50⟩⟩ := hRcs44
            have e49 := h49.len; subst e49
            have q49 := len_le r49
            have e50 := h50.len; subst e50
            have q50 := len_le r50
            refine RQ.y rfl (Y.indexAddr (m := k43) (sz := 5) rfl rfl hk46 hl47 (by kernel_rfl)) ?_
            refine RQ.y rfl (Y.fieldAddr (off := 3) rfl (by kernel_rfl)) ?_
            refine RQ.y rfl (Y.load (v := .slice A49 x42.data.length c49) rfl (by kernel_rfl) (beC (cellT T (hc48 3 _ rfl)))) ?_
            refine RQ.y rfl (Y.move (v := .int .i64 s41) rfl) ?_
            obtain ⟨y51, e52, hm⟩ := bnd hm
            refine RQ.call rfl (am2 rfl rfl) (by kernel_rfl) (v := .int .i64 y51) (bel (K := fun _ => True) fun w' hb' => (c_m_laws_heldInt64S x42.data s41 _ e52 _ w' (slArg intRd_ok h49 r49 (Tt T hb')))) ?_
            refine RQ.y rfl (Y.assign (v := .int .i64 y51) rfl) ?_
            refine RQ.nil ?_
            intro w53 hb54
            have szw53 := hb54.size
            have T := Tt T hb54
            refine then_n ?_
            refine wp_seq ?_
            refine wp_seq ?_
            refine wp_rs rfl ?_
            refine RQ.y rfl (Y.move (v := .int .i64 y51) rfl) ?_
            refine RQ.y rfl (Y.binI (v := .bool (decide (y51 < 0))) rfl rfl rfl) ?_
            refine RQ.nil ?_
            refine then_n ?_
            rcases bcases (decide (y51 < 0)) with c55 | c55
            · replace hm := cF c55 hm
              have pc55 := of_decide_eq_false c55
              refine cond_f rfl (vb rfl c55) ?_
              refine wp_skip ?_
              refine then_n ?_
              refine wp_seq ?_
              refine wp_rb rfl ?_
              refine RQ.y rfl (Y.move (v := .slice (some ⟨b14, o15, none⟩) d0.length ca0) s0_1) ?_
              refine RQ.y rfl (Y.move (v := .int .i64 i4) s5_1) ?_
              obtain ⟨x56, hx59, hm⟩ := bnd hm
              obtain ⟨k57, hk60, hl61, hx59⟩ := getI_some hx59
              obtain ⟨cs58, hRcs58, hc62⟩ := ha0.el hx59
              have hScs58 := hRcs58
              obtain ⟨A63, n63, c63, A64, n64, c64, rfl, ⟨h63, r63⟩, ⟨h64, r64⟩⟩ := hRcs58
              have e63 := h63.len; subst e63
              have q63 := len_le r63
              have e64 := h64.len; subst e64
              have q64 := len_le r64
              refine RQ.y rfl (Y.indexAddr (m := k57) (sz := 5) rfl rfl hk60 hl61 (by kernel_rfl)) ?_
              refine RQ.y rfl (Y.fieldAddr (off := 4) rfl (by kernel_rfl)) ?_
              refine RQ.y rfl (Y.load (v := .slice A64 x56.ports.length c64) rfl (by kernel_rfl) (beC (cellT T (hc62 4 _ rfl)))) ?_
              refine RQ.y rfl (Y.move (v := .int .i64 y51) rfl) ?_
              obtain ⟨y65, e66, hm⟩ := bnd hm
              refine RQ.call rfl (am2 rfl rfl) (by kernel_rfl) (v := .int .i64 y65) (bel (K := fun _ => True) fun w' hb' => (c_m_laws_heldPortS x56.ports y51 _ e66 _ w' (slArg portRd_ok h64 r64 (Tt T hb')))) ?_
              refine RQ.y rfl (Y.assign (v := .int .i64 y65) rfl) ?_
              refine RQ.nil ?_
              intro w67 hb68
              have szw67 := hb68.size
              have T := Tt T hb68
              refine then_n ?_
              refine wp_seq ?_
              refine wp_rs rfl ?_
              refine RQ.y rfl (Y.move (v := .int .i64 y65) rfl) ?_
              refine RQ.y rfl (Y.binI (v := .bool (decide (y65 < 0))) rfl rfl rfl) ?_
              refine RQ.nil ?_
              refine then_n ?_
              rcases bcases (decide (y65 < 0)) with c69 | c69
              · replace hm := cF c69 hm
                have pc69 := of_decide_eq_false c69
                refine cond_f rfl (vb rfl c69) ?_
                refine wp_skip ?_
                refine blk_n (then_n ?_)
                refine wp_rs rfl ?_
                refine RQ.y rfl (Y.move (v := .int .i64 i4) s5_1) ?_
                refine RQ.y rfl (Y.binI rfl rfl (binI_add (m := i4) (by omega))) ?_
                refine RQ.y rfl (Y.assign (v := .int .i64 (i4 + 1)) rfl) ?_
                refine RQ.nil ?_
                exact (then_n ⟨g, _, Nat.lt_succ_self _, rfl, ⟨y65, (i4 + 1), s0_1, rfl, rfl, (by omega), T, (by rw [← hrec1]; exact hm)⟩⟩)
              · replace hm := cT c69 hm
                have pc69 := of_decide_eq_true c69
                refine cond_t rfl (vb rfl c69) ?_
                refine wp_seq ?_
                refine wp_rs rfl ?_
                refine RQ.y rfl (Y.assign (v := .int .i64 (-1)) rfl) ?_
                refine RQ.nil ?_
                refine then_n ?_
                refine wp_ret ?_
                obtain rfl := Option.some.inj hm
                exact (blk_r (then_r (then_r (hit_r (blk_r (then_r (ret1 rfl rfl rfl ⟨rfl, T⟩)))))))
            · replace hm := cT c55 hm
              have pc55 := of_decide_eq_true c55
              refine cond_t rfl (vb rfl c55) ?_
              refine wp_seq ?_
              refine wp_rs rfl ?_
              refine RQ.y rfl (Y.assign (v := .int .i64 (-1)) rfl) ?_
              refine RQ.nil ?_
              refine then_n ?_
              refine wp_ret ?_
              obtain rfl := Option.some.inj hm
              exact (then_r (blk_r (then_r (then_r (hit_r (blk_r (then_r (ret1 rfl rfl rfl ⟨rfl, T⟩))))))))
          · replace hm := cT c40 hm
            refine cond_t rfl (vb rfl c40) ?_
            refine wp_seq ?_
            refine wp_rs rfl ?_
            refine RQ.y rfl (Y.assign (v := .int .i64 (-1)) rfl) ?_
            refine RQ.nil ?_
            refine then_n ?_
            refine wp_ret ?_
            obtain rfl := Option.some.inj hm
            exact (then_r (blk_r (then_r (then_r (hit_r (blk_r (then_r (ret1 rfl rfl rfl ⟨rfl, T⟩))))))))
        · replace hm := cT c29 hm
          refine cond_t rfl (vb rfl c29) ?_
          refine wp_seq ?_
          refine wp_rs rfl ?_
          refine RQ.y rfl (Y.assign (v := .int .i64 (-1)) rfl) ?_
          refine RQ.nil ?_
          refine then_n ?_
          refine wp_ret ?_
          obtain rfl := Option.some.inj hm
          exact (then_r (blk_r (then_r (then_r (hit_r (blk_r (then_r (ret1 rfl rfl rfl ⟨rfl, T⟩))))))))
      · replace hm := cT c18 hm
        refine cond_t rfl (vb rfl c18) ?_
        refine wp_seq ?_
        refine wp_rs rfl ?_
        refine RQ.y rfl (Y.assign (v := .int .i64 (-1)) rfl) ?_
        refine RQ.nil ?_
        refine then_n ?_
        refine wp_ret ?_
        obtain rfl := Option.some.inj hm
        exact (then_r (blk_r (then_r (then_r (hit_r (blk_r (then_r (ret1 rfl rfl rfl ⟨rfl, T⟩))))))))
def m_laws_heldNet (d0 : DNet) (d1 : Int) : Option Int :=
  ((m_laws_heldAgentS d0.agents d1).bind fun y6 => (bif (decide (y6 < 0)) then some (-1) else some y6))
set_option maxHeartbeats 2000000 in
theorem c_m_laws_heldNet (d0 : DNet) (d1 : Int) (r : Int) (hm : m_laws_heldNet d0 d1 = some r) (v0 : Value) (w : World) (hv0 : St netRd w v0 d0) :
    Calls Tryz.prog 18 #[v0, .int .i64 d1] w fun e w' => e = .returned (.int .i64 r) ∧ Below w.heap.size w w' := by
  obtain ⟨csa0, rfl, ⟨A1, n1, c1, rfl, ⟨h1, r1⟩⟩⟩ := hv0
  have e1 := h1.len; subst e1
  have q1 := len_le r1
  have T := Below.refl w.heap.size w
  unfold m_laws_heldNet at hm
  refine enter 12 Tryz.func18 rfl rfl rfl ?_
  intro f hf
  have s0 : f 0 = .agg #[.slice A1 d0.agents.length c1] := hf 0 _ rfl
  have s1 : f 1 = .int .i64 d1 := hf 1 _ rfl
  refine wp_seq ?_
  refine wp_rl rfl ?_
  refine RL.box rfl s0 (fun w2 B3 hb4 szw2 => ?_)
  replace B3 : Blk w2 w.heap.size 31 #[.slice A1 d0.agents.length c1] := B3
  have GB3 : w.heap.size ≤ w.heap.size := T.size
  have T := Tt T hb4
  refine RL.y rfl (Y.assign (v := .int .i64 0) rfl) ?_
  refine RL.nil ?_
  refine then_n ?_
  refine wp_seq ?_
  refine wp_rb rfl ?_
  refine RQ.y rfl (Y.fieldAddr (off := 0) rfl (by kernel_rfl)) ?_
  refine RQ.y rfl (Y.load (v := .slice A1 d0.agents.length c1) rfl (by kernel_rfl) (beC (blkCell B3 (i := 0) rfl))) ?_
  refine RQ.y rfl (Y.move (v := .int .i64 d1) s1) ?_
  obtain ⟨y6, e7, hm⟩ := bnd hm
  refine RQ.call rfl (am2 rfl rfl) (by kernel_rfl) (v := .int .i64 y6) (bel (K := fun _ => True) fun w' hb' => (c_m_laws_heldAgentS d0.agents d1 _ e7 _ w' (slArg agentRd_ok h1 r1 (Tt T hb')))) ?_
  refine RQ.y rfl (Y.assign (v := .int .i64 y6) rfl) ?_
  refine RQ.nil ?_
  intro w8 hb9
  have szw8 := hb9.size
  have T := Tt T hb9
  refine then_n ?_
  refine wp_seq ?_
  refine wp_seq ?_
  refine wp_rs rfl ?_
  refine RQ.y rfl (Y.move (v := .int .i64 y6) rfl) ?_
  refine RQ.y rfl (Y.binI (v := .bool (decide (y6 < 0))) rfl rfl rfl) ?_
  refine RQ.nil ?_
  refine then_n ?_
  rcases bcases (decide (y6 < 0)) with c10 | c10
  · replace hm := cF c10 hm
    have pc10 := of_decide_eq_false c10
    refine cond_f rfl (vb rfl c10) ?_
    refine wp_skip ?_
    refine then_n ?_
    refine wp_seq ?_
    refine wp_rs rfl ?_
    refine RQ.y rfl (Y.move (v := .int .i64 y6) rfl) ?_
    refine RQ.y rfl (Y.assign (v := .int .i64 y6) rfl) ?_
    refine RQ.nil ?_
    refine then_n ?_
    refine wp_ret ?_
    obtain rfl := Option.some.inj hm
    exact (ret1 rfl rfl rfl ⟨rfl, T⟩)
  · replace hm := cT c10 hm
    have pc10 := of_decide_eq_true c10
    refine cond_t rfl (vb rfl c10) ?_
    refine wp_seq ?_
    refine wp_rs rfl ?_
    refine RQ.y rfl (Y.assign (v := .int .i64 (-1)) rfl) ?_
    refine RQ.nil ?_
    refine then_n ?_
    refine wp_ret ?_
    obtain rfl := Option.some.inj hm
    exact (then_r (ret1 rfl rfl rfl ⟨rfl, T⟩))
end
section
open Go.RowKit
set_option linter.unusedVariables false
set_option linter.unusedSimpArgs false
theorem p_heldI (k n : Nat) (h : k + n ≤ 4611686018427387904) : m_laws_heldInt64S (marks k n) (k : Int) = some ((k + n : Nat) : Int) := by
  unfold m_laws_heldInt64S
  have hl := marks_len k n
  have key := traj (L := fun g (s : Int × Int) => m_laws_heldInt64S_L1 (marks k n) m_laws_heldInt64S_A1 g s.1 s.2) (st := fun i => (((k + i : Nat) : Int), (i : Int))) (n := n) (r := some ((k + n : Nat) : Int))
    (fun g i hi => by
      have hx := marks_get (k := k) hi
      simp -implicitDefEqProofs only [m_laws_heldInt64S_L1, m_laws_heldInt64S_B1, hl, dlt hi, cond_true, getI_nat hx, Option.bind_some]
      rw [show (((k + i : Nat) : Int) != ((k + i : Nat) : Int)) = false by simp, cond_false, ck_ok (by omega), Option.bind_some]
      simp only [Int.natCast_add, Int.cast_ofNat_Int, Int.add_assoc])
    (fun g => by simp -implicitDefEqProofs only [m_laws_heldInt64S_L1, m_laws_heldInt64S_B1, hl, dge, cond_false, m_laws_heldInt64S_A1]) (n + 1) (Nat.lt_succ_self _)
  rw [hl]
  simpa using key
theorem p_heldP (k n : Nat) (h : k + 2 * n ≤ 4611686018427387904) : m_laws_heldPortS (marksF mkPort 2 k n) (k : Int) = some ((k + 2 * n : Nat) : Int) := by
  unfold m_laws_heldPortS
  have hl := marksF_len mkPort 2 k n
  have key := traj (L := fun g (s : Int × Int) => m_laws_heldPortS_L1 (marksF mkPort 2 k n) m_laws_heldPortS_A1 g s.1 s.2) (st := fun i => (((k + 2 * i : Nat) : Int), (i : Int))) (n := n) (r := some ((k + 2 * n : Nat) : Int))
    (fun g i hi => by
      have hx := marksF_get (f := mkPort) (s := 2) (k := k) hi
      simp -implicitDefEqProofs only [m_laws_heldPortS_L1, m_laws_heldPortS_B1, hl, dlt hi, cond_true, getI_nat hx, Option.bind_some, mkPort]
      rw [show (((k + 2 * i : Nat) : Int) != ((k + 2 * i : Nat) : Int)) = false by simp, cond_false, ck_ok (by omega), Option.bind_some, show (((k + 2 * i : Nat) : Int) + 1 != ((k + 2 * i : Nat) : Int) + 1) = false by simp, cond_false, ck_ok (by omega), Option.bind_some]
      have e : ((k + 2 * i : Nat) : Int) + 1 + 1 = ((k + 2 * (i + 1) : Nat) : Int) := by omega
      rw [e]; rfl)
    (fun g => by simp -implicitDefEqProofs only [m_laws_heldPortS_L1, m_laws_heldPortS_B1, hl, dge, cond_false, m_laws_heldPortS_A1]) (n + 1) (Nat.lt_succ_self _)
  rw [hl]
  simpa using key
theorem p_heldA (k : Nat) (xs : List DAgent) (hs : szAgentS xs ≤ 1048576) (hk : k ≤ 4294967296) : m_laws_heldAgentS (markA k xs) (k : Int) = some ((k + cntL cntA xs : Nat) : Int) := by
  unfold m_laws_heldAgentS
  have hl : (markA k xs).length = xs.length := mkL_len _ _
  have hc := cntL_agents xs
  have key := traj (L := fun g (s : Int × Int) => m_laws_heldAgentS_L1 (markA k xs) m_laws_heldAgentS_A1 g s.1 s.2) (st := fun i => (((k + cntL cntA (xs.take i) : Nat) : Int), (i : Int))) (n := xs.length) (r := some ((k + cntL cntA xs : Nat) : Int))
    (fun g i hi => by
      have hx0 := List.getElem?_eq_getElem hi
      have hx : (markA k xs)[i]? = some (mkAgent (k + cntL cntA (xs.take i)) xs[i]) := mkL_get hx0
      have hsz := szAgent_mem hx0 hs
      have hct := cntL_take (cnt := cntA) hx0
      have hcx : cntA xs[i] = 3 + xs[i].data.length + 2 * xs[i].ports.length := rfl
      have hcm := cntL_le (cnt := cntA) xs (i + 1)
      rw [hct, ← Nat.add_assoc]
      have hm : k + cntL cntA (xs.take i) ≤ 4298440256 ∧ k + cntL cntA (xs.take i) + cntA xs[i] ≤ 4298440256 := by omega
      clear hct hcm hx0
      generalize k + cntL cntA (xs.take i) = m at *
      generalize xs[i] = x at *
      have e1 := p_heldI (m + 3) x.data.length (by omega)
      have e2 := p_heldP (m + 3 + x.data.length) x.ports.length (by omega)
      simp -implicitDefEqProofs only [m_laws_heldAgentS_L1, m_laws_heldAgentS_B1, hl, dlt hi, cond_true, getI_nat hx, Option.bind_some, mkAgent]
      rw [show ((m : Int) != (m : Int)) = false by simp, cond_false, ck_ok (by omega), Option.bind_some, show (((m + 1 : Nat) : Int) != (m : Int) + 1) = false by simp, cond_false, ck_ok (by omega), Option.bind_some,
        show (((m + 2 : Nat) : Int) != (m : Int) + 1 + 1) = false by simp; omega, cond_false, ck_ok (by omega), Option.bind_some, show (m : Int) + 1 + 1 + 1 = ((m + 3 : Nat) : Int) by omega, e1, Option.bind_some,
        show decide (((m + 3 + x.data.length : Nat) : Int) < 0) = false by simp; omega, cond_false, e2, Option.bind_some, show decide (((m + 3 + x.data.length + 2 * x.ports.length : Nat) : Int) < 0) = false by simp; omega, cond_false]
      have e : ((m + 3 + x.data.length + 2 * x.ports.length : Nat) : Int) = (((m : Nat) + cntA x : Nat) : Int) := by omega
      rw [e]; simp only [Int.natCast_add, Int.cast_ofNat_Int, Int.add_assoc] <;> rfl)
    (fun g => by
      simp -implicitDefEqProofs only [m_laws_heldAgentS_L1, m_laws_heldAgentS_B1, hl, dge, cond_false, m_laws_heldAgentS_A1, List.take_length]) (xs.length + 1) (Nat.lt_succ_self _)
  rw [hl]
  simpa [cntL] using key
theorem heldNet_q (v : Value) (x : DNet) (w : World) (k : Int) {B : Nat} (h : RdT netRd w B v ⟨markA k.toNat x.agents⟩) (hB : B ≤ w.heap.size) (hs : szNet x ≤ 1048576) (h0 : 0 ≤ k) (hk : k ≤ 1048576) :
    Calls Tryz.prog 18 #[v, .int .i64 k] w fun e w' => e = .returned (.int .i64 ((k.toNat + cntL cntA x.agents : Nat) : Int)) ∧ Below w.heap.size w w' := by
  obtain ⟨k0, rfl⟩ := Int.eq_ofNat_of_zero_le h0
  refine c_m_laws_heldNet _ _ _ ?_ v w (h.more netRd_ok hB)
  unfold m_laws_heldNet
  rw [Int.toNat_natCast]
  simp only
  rw [p_heldA k0 x.agents hs (by omega), Option.bind_some]
  rw [show decide (((k0 + cntL cntA x.agents : Nat) : Int) < 0) = false by simp; omega, cond_false]
theorem heldNet_r (v : Value) (x : DNet) (w : World) (k : Int) (m : Nat) (em : m = k.toNat + cntL cntA x.agents) {B : Nat} (h : RdT netRd w B v ⟨markA k.toNat x.agents⟩) (hB : B ≤ w.heap.size) (hs : szNet x ≤ 1048576) (h0 : 0 ≤ k) (hk : k ≤ 1048576) :
    Calls Tryz.prog 18 #[v, .int .i64 k] w fun e w' => e = .returned (.int .i64 (m : Int)) ∧ Below w.heap.size w w' := by
  subst em; exact heldNet_q v x w k h hB hs h0 hk
theorem markNet_r (v : Value) (x : DNet) (w : World) (k : Int) (lo hi : Nat) (m : Nat) (em : m = k.toNat + cntL cntA x.agents) (h : OwT netOw w v x lo hi) (hh : hi ≤ w.heap.size) (hs : szNet x ≤ 1048576) (h0 : 0 ≤ k) (hk : k ≤ 1048576) :
    Calls Tryz.prog 13 #[v, .int .i64 k] w fun e w' => e = .returned (.int .i64 (m : Int)) ∧ ∃ wb, Below w.heap.size w wb ∧ wb.heap.size = w'.heap.size ∧ OnlyIn lo hi wb w' ∧ OwT netOw w' v ⟨markA k.toNat x.agents⟩ lo hi := by
  subst em; exact markNet_q v x w k lo hi h hh hs h0 hk
end
section
open Go.RowKit
set_option linter.unusedVariables false
theorem ownNet {e : TypeId} {w : World} {lo : Nat} {v : Value} {d : DNet} {bs : List Nat} (h : OwN e agentOw 5 w lo v d.agents bs) : OwT netOw w (.agg #[v]) d lo w.heap.size := by
  obtain ⟨A, n, c, l, rfl, h1, h2, h3, r⟩ := h.own1 agentOw_ok
  exact ⟨[.slice A n c], l, rfl, ⟨A, n, c, l, rfl, ⟨h1, r⟩, rfl⟩, h2, fun b hb => ⟨h.lo_ b (h3 b hb), h.hi b (h3 b hb)⟩⟩
end
section
open Go.RowKit
set_option linter.unusedVariables false
theorem specCanonicalNet_v (v : Value) (x : DNet) (w : World) {B : Nat} (h : RdT netRd w B v x) (hB : B ≤ w.heap.size) (hs : szNet x ≤ 1048576) :
    Calls Tryz.prog 16 #[v] w fun e w' => (∃ v', e = .returned (.tuple #[v', .int .i64 (canonicalNet x).2]) ∧ OwT netOw w' v' (canonicalNet x).1 w.heap.size w'.heap.size) ∧ Below w.heap.size w w' :=
  (c_m_spec_CanonicalNet x _ (p_sCanonicalNet x hs) v w (h.more netRd_ok hB)).mono fun e w' ⟨⟨v', bs, he, ho⟩, hb⟩ => ⟨⟨_, he, ownNet ho⟩, hb⟩
theorem implCanonicalNet_v (v : Value) (x : DNet) (w : World) {B : Nat} (h : RdT netRd w B v x) (hB : B ≤ w.heap.size) (hs : szNet x ≤ 1048576) :
    Calls Tryz.prog 17 #[v] w fun e w' => (∃ v', e = .returned (.tuple #[v', .int .i64 (canonicalNet x).2]) ∧ OwT netOw w' v' (canonicalNet x).1 w.heap.size w'.heap.size) ∧ Below w.heap.size w w' :=
  (c_m_impl_CanonicalNet x _ (p_iCanonicalNet x hs) v w (h.more netRd_ok hB)).mono fun e w' ⟨⟨v', bs, he, ho⟩, hb⟩ => ⟨⟨_, he, ownNet ho⟩, hb⟩
end
section
open Go.RowKit
set_option linter.unusedVariables false
set_option linter.unusedSimpArgs false
theorem szInt64S_v (v : Value) (xs : List Int) (left : Int) (w : World) {B : Nat} (h : RdS intRd 1 w B v xs) (hB : B ≤ w.heap.size) (h0 : 0 ≤ left) (h1 : left ≤ 1048576) :
    Calls Tryz.prog 67 #[v, .int .i64 left] w fun e w' => e = .returned (.int .i64 (szL left xs.length)) ∧ Below w.heap.size w w' := by
  obtain ⟨A, n, c, rfl, h, hnc, hcm⟩ := h
  have hr := Below.refl w.heap.size w
  have hl := h.len
  rw [← hl]
  unfold maxLen at hcm
  clear h hl
  by_cases hl : left - n < 0
  · have He := Lib.hid (szL_neg hl)
    go_enter Tryz.func67, Tryz.ntmps67
    go_wp2
    go_ret
    exact ⟨by rw [He.out]; rfl, hr⟩
  · have He := Lib.hid (szL_pos hl)
    go_enter Tryz.func67, Tryz.ntmps67
    go_wp2
    go_ret
    exact ⟨by rw [He.out]; rfl, hr⟩
theorem szPortS_v (v : Value) (xs : List DPort) (left : Int) (w : World) {B : Nat} (h : RdS portRd 2 w B v xs) (hB : B ≤ w.heap.size) (h0 : 0 ≤ left) (h1 : left ≤ 1048576) :
    Calls Tryz.prog 68 #[v, .int .i64 left] w fun e w' => e = .returned (.int .i64 (szL left xs.length)) ∧ Below w.heap.size w w' := by
  obtain ⟨A, n, c, rfl, h, hnc, hcm⟩ := h
  have hr := Below.refl w.heap.size w
  have hl := h.len
  rw [← hl]
  unfold maxLen at hcm
  clear h hl
  by_cases hl : left - n < 0
  · have He := Lib.hid (szL_neg hl)
    go_enter Tryz.func68, Tryz.ntmps68
    go_wp2
    go_ret
    exact ⟨by rw [He.out]; rfl, hr⟩
  · have He := Lib.hid (szL_pos hl)
    go_enter Tryz.func68, Tryz.ntmps68
    go_wp2
    go_ret
    exact ⟨by rw [He.out]; rfl, hr⟩
set_option maxHeartbeats 1000000 in
theorem szAgent_v (v : Value) (x : DAgent) (left : Int) (w : World) {B : Nat} (h : RdT agentRd w B v x) (hB : B ≤ w.heap.size) (h0 : 0 ≤ left) (h1 : left ≤ 1048576) :
    Calls Tryz.prog 37 #[v, .int .i64 left] w fun e w' => e = .returned (.int .i64 (szL left (szAgent x))) ∧ Below w.heap.size w w' := by
  obtain ⟨cs, rfl, A1, n1, c1, A2, n2, c2, rfl, ⟨g1, r1⟩, ⟨g2, r2⟩⟩ := h
  have hb : ∀ o1, Below w.heap.size w (w.alloc o1) := fun o1 => (Below.refl _ _).alloc (Nat.le_refl _) _
  obtain ⟨s0, es0⟩ : ∃ s : Nat, s = x.data.length := ⟨_, rfl⟩
  obtain ⟨s1, es1⟩ : ∃ s : Nat, s = x.ports.length := ⟨_, rfl⟩
  have Hs : Hid (szAgent x = s0 + s1) := by show _ = _; rw [es0, es1]; rfl
  have Es0 := Lib.hid es0
  have Es1 := Lib.hid es1
  clear es0 es1
  by_cases d0 : left - (s0 : Int) < 0
  · have He : Hid (szL left (szAgent x) = -1) := by show _ = _; rw [Hs.out, szL_neg (by omega)]
    go_enter Tryz.func37, Tryz.ntmps37
    go_wp2_with fail
    refine (szInt64S_v _ x.data (left) _ (B := B) ⟨A1, n1, c1, rfl, g1.below intRd_ok ((hb _).mono hB), r1⟩ (Nat.le_trans hB (hb _).size) (by omega) (by omega)).mono ?_
    rw [← Es0.out, szL_neg (by omega)]
    rintro e w1 ⟨rfl, q1⟩
    have T := (hb _).trans (q1.mono (hb _).size)
    have B1 := (Blk.new w _ _).below q1 (by simp)
    have z1 : w.heap.size + 1 ≤ w1.heap.size := by have := q1.size; simpa using this
    clear q1
    go_wp2_with fail
    go_ret
    exact ⟨by rw [He.out]; rfl, T⟩
  · skip
    by_cases d1 : left - s0 - (s1 : Int) < 0
    · have He : Hid (szL left (szAgent x) = -1) := by show _ = _; rw [Hs.out, szL_neg (by omega)]
      go_enter Tryz.func37, Tryz.ntmps37
      go_wp2_with fail
      refine (szInt64S_v _ x.data (left) _ (B := B) ⟨A1, n1, c1, rfl, g1.below intRd_ok ((hb _).mono hB), r1⟩ (Nat.le_trans hB (hb _).size) (by omega) (by omega)).mono ?_
      rw [← Es0.out, szL_pos (by omega)]
      rintro e w1 ⟨rfl, q1⟩
      have T := (hb _).trans (q1.mono (hb _).size)
      have B1 := (Blk.new w _ _).below q1 (by simp)
      have z1 : w.heap.size + 1 ≤ w1.heap.size := by have := q1.size; simpa using this
      clear q1
      have cB := B1.cell
      go_wp2_with fail
      clear cB
      refine (szPortS_v _ x.ports (left - s0) _ (B := B) ⟨A2, n2, c2, rfl, g2.below portRd_ok ((T).mono hB), r2⟩ (Nat.le_trans hB (T).size) (by omega) (by omega)).mono ?_
      rw [← Es1.out, szL_neg (by omega)]
      rintro e w2 ⟨rfl, q2⟩
      have T := T.trans (q2.mono T.size)
      have B1 := B1.below q2 (by omega)
      have z2 := Nat.le_trans z1 q2.size
      clear q2
      go_wp2_with fail
      go_ret
      exact ⟨by rw [He.out]; rfl, T⟩
    · skip
      have He : Hid (szL left (szAgent x) = left - s0 - s1) := by show _ = _; rw [Hs.out, szL_pos (by omega)]; try omega
      go_enter Tryz.func37, Tryz.ntmps37
      go_wp2_with fail
      refine (szInt64S_v _ x.data (left) _ (B := B) ⟨A1, n1, c1, rfl, g1.below intRd_ok ((hb _).mono hB), r1⟩ (Nat.le_trans hB (hb _).size) (by omega) (by omega)).mono ?_
      rw [← Es0.out, szL_pos (by omega)]
      rintro e w1 ⟨rfl, q1⟩
      have T := (hb _).trans (q1.mono (hb _).size)
      have B1 := (Blk.new w _ _).below q1 (by simp)
      have z1 : w.heap.size + 1 ≤ w1.heap.size := by have := q1.size; simpa using this
      clear q1
      have cB := B1.cell
      go_wp2_with fail
      clear cB
      refine (szPortS_v _ x.ports (left - s0) _ (B := B) ⟨A2, n2, c2, rfl, g2.below portRd_ok ((T).mono hB), r2⟩ (Nat.le_trans hB (T).size) (by omega) (by omega)).mono ?_
      rw [← Es1.out, szL_pos (by omega)]
      rintro e w2 ⟨rfl, q2⟩
      have T := T.trans (q2.mono T.size)
      have B1 := B1.below q2 (by omega)
      have z2 := Nat.le_trans z1 q2.size
      clear q2
      go_wp2_with fail
      go_ret
      exact ⟨by rw [He.out]; rfl, T⟩
theorem szAgentS_take {xs : List DAgent} {k : Nat} {x : DAgent} (h : xs[k]? = some x) : ((xs.take (k + 1)).map szAgent).sum = ((xs.take k).map szAgent).sum + szAgent x := by
  rw [take_succ_some h]; simp
theorem szAgentS_le (xs : List DAgent) (k : Nat) : ((xs.take k).map szAgent).sum ≤ (xs.map szAgent).sum := by
  have h : ((xs.take k ++ xs.drop k).map szAgent).sum = (xs.map szAgent).sum := by rw [List.take_append_drop]
  rw [List.map_append, List.sum_append] at h
  omega
set_option maxHeartbeats 1000000 in
theorem szAgentS_v (v : Value) (xs : List DAgent) (left : Int) (w : World) {B : Nat} (h : RdS agentRd 5 w B v xs) (hB : B ≤ w.heap.size) (h0 : 0 ≤ left) (h1 : left ≤ 1048576) :
    Calls Tryz.prog 23 #[v, .int .i64 left] w fun e w' => e = .returned (.int .i64 (szL left (szAgentS xs))) ∧ Below w.heap.size w w' := by
  obtain ⟨A, n, c, rfl, hx, hnc, hcm⟩ := h
  have hr := Below.refl w.heap.size w
  unfold maxLen at hcm
  have lx := Lib.hid hx.len
  by_cases hl : left - n < 0
  · have He : Hid (szL left (szAgentS xs) = -1) := szL_neg (by unfold szAgentS; rw [← lx.out]; omega)
    go_enter Tryz.func23, Tryz.ntmps23
    go_wp2
    go_ret
    exact ⟨by rw [He.out]; rfl, hr⟩
  · go_enter Tryz.func23, Tryz.ntmps23
    go_wp2
    go_loopw [1, 5] (fun s i wr => ∃ (k : Nat) (l : Int), k ≤ n ∧ i = .int .i64 k ∧ s = .int .i64 l ∧ 0 ≤ l ∧ l ≤ 1048576 ∧ Hid (l = left - n - (((xs.take k).map szAgent).sum : Nat)) ∧ Below w.heap.size w wr) (fun _ i _ => n - (intOf i).toNat)
    case atStart => exact ⟨0, left - n, by omega, rfl, rfl, by omega, by omega, by simp [Hid], hr⟩
    case round =>
      obtain ⟨k, s, hk, rfl, rfl, hs0, hs1, hs, hq⟩ := hrel
      by_cases hlt : k < n
      · obtain ⟨b, off, x, A1, n1, c1, A2, n2, c2, rfl, hb, hxk, hc0, hc1, hc2, hc3, hc4, ⟨g1, r1⟩, ⟨g2, r2⟩⟩ := (hx.below agentRd_ok (hq.mono hB)).agent hlt
        have Hxk := Lib.hid hxk
        clear hxk
        by_cases hd : s - (szAgent x : Int) < 0
        · have f := szL_neg hd
          have He : Hid (szL left (szAgentS xs) = -1) := szL_neg (by
            have e1 := szAgentS_le xs (k + 1)
            rw [szAgentS_take Hxk.out] at e1
            have e2 := hs.out
            have e3 := lx.out
            unfold szAgentS
            omega)
          go_wp2_with fail
          refine (szAgent_v _ x s _ (B := B) ⟨_, rfl, A1, n1, c1, A2, n2, c2, rfl, ⟨g1, r1⟩, ⟨g2, r2⟩⟩ (Nat.le_trans hB hq.size) hs0 hs1).mono ?_
          rintro e w1 ⟨rfl, q1⟩
          go_wp2_with fail
          go_ret
          exact ⟨by rw [He.out]; rfl, hq.trans (q1.mono hq.size)⟩
        · have f := szL_pos hd
          have Hn : Hid (s - (szAgent x : Int) = left - n - (((xs.take (k + 1)).map szAgent).sum : Nat)) := by
            have e1 := szAgentS_take Hxk.out
            have e2 := hs.out
            show _ = _
            rw [e1]
            omega
          go_wp2_with fail
          refine (szAgent_v _ x s _ (B := B) ⟨_, rfl, A1, n1, c1, A2, n2, c2, rfl, ⟨g1, r1⟩, ⟨g2, r2⟩⟩ (Nat.le_trans hB hq.size) hs0 hs1).mono ?_
          rintro e w1 ⟨rfl, q1⟩
          go_wp2_with fail
          go_roundw
          case rel => exact ⟨k + 1, s - (szAgent x : Int), by omega, by go_num, rfl, by omega, by omega, Hn.out, hq.trans (q1.mono hq.size)⟩
          case measure => simp [intOf]; omega
      · have He : Hid (szL left (szAgentS xs) = s) := by
          have e1 : xs.take k = xs := List.take_of_length_le (by have := lx.out; omega)
          have e2 := hs.out
          rw [e1] at e2
          have e3 := lx.out
          show _ = _
          rw [szL_pos (by unfold szAgentS; omega)]
          unfold szAgentS
          omega
        go_wp2_with fail
        go_ret
        exact ⟨by rw [He.out]; rfl, hq⟩
set_option maxHeartbeats 1000000 in
theorem szNet_v (v : Value) (x : DNet) (left : Int) (w : World) {B : Nat} (h : RdT netRd w B v x) (hB : B ≤ w.heap.size) (h0 : 0 ≤ left) (h1 : left ≤ 1048576) :
    Calls Tryz.prog 7 #[v, .int .i64 left] w fun e w' => e = .returned (.int .i64 (szL left (szNet x))) ∧ Below w.heap.size w w' := by
  obtain ⟨cs, rfl, A1, n1, c1, rfl, ⟨g1, r1⟩⟩ := h
  have hb : ∀ o1, Below w.heap.size w (w.alloc o1) := fun o1 => (Below.refl _ _).alloc (Nat.le_refl _) _
  obtain ⟨s0, es0⟩ : ∃ s : Nat, s = szAgentS x.agents := ⟨_, rfl⟩
  have Hs : Hid (szNet x = s0) := by show _ = _; rw [es0]; rfl
  have Es0 := Lib.hid es0
  clear es0
  by_cases d0 : left - (s0 : Int) < 0
  · have He : Hid (szL left (szNet x) = -1) := by show _ = _; rw [Hs.out, szL_neg (by omega)]
    go_enter Tryz.func7, Tryz.ntmps7
    go_wp2_with fail
    refine (szAgentS_v _ x.agents (left) _ (B := B) ⟨A1, n1, c1, rfl, g1.below agentRd_ok ((hb _).mono hB), r1⟩ (Nat.le_trans hB (hb _).size) (by omega) (by omega)).mono ?_
    rw [← Es0.out, szL_neg (by omega)]
    rintro e w1 ⟨rfl, q1⟩
    have T := (hb _).trans (q1.mono (hb _).size)
    have B1 := (Blk.new w _ _).below q1 (by simp)
    have z1 : w.heap.size + 1 ≤ w1.heap.size := by have := q1.size; simpa using this
    clear q1
    go_wp2_with fail
    go_ret
    exact ⟨by rw [He.out]; rfl, T⟩
  · skip
    have He : Hid (szL left (szNet x) = left - s0) := by show _ = _; rw [Hs.out, szL_pos (by omega)]; try omega
    go_enter Tryz.func7, Tryz.ntmps7
    go_wp2_with fail
    refine (szAgentS_v _ x.agents (left) _ (B := B) ⟨A1, n1, c1, rfl, g1.below agentRd_ok ((hb _).mono hB), r1⟩ (Nat.le_trans hB (hb _).size) (by omega) (by omega)).mono ?_
    rw [← Es0.out, szL_pos (by omega)]
    rintro e w1 ⟨rfl, q1⟩
    have T := (hb _).trans (q1.mono (hb _).size)
    have B1 := (Blk.new w _ _).below q1 (by simp)
    have z1 : w.heap.size + 1 ≤ w1.heap.size := by have := q1.size; simpa using this
    clear q1
    go_wp2_with fail
    go_ret
    exact ⟨by rw [He.out]; rfl, T⟩
end
section
open Go.RowKit
set_option linter.unusedVariables false
set_option linter.unusedSimpArgs false
theorem toPort_v (v : Value) (x : DPort) (w : World) {B : Nat} (h : RdT portRd w B v x) :
    Calls Tryz.prog 91 #[v] w fun e w' => e = .returned (.agg #[.int .i64 x.agent, .int .i64 x.slot]) ∧ Below w.heap.size w w' := by
  obtain ⟨cs, rfl, rfl⟩ := h
  go_enter Tryz.func91, Tryz.ntmps91
  go_wp2_with fail
  exact bodyPost_ret (v := .agg #[.int .i64 x.agent, .int .i64 x.slot]) (by simp [results, Tryz.results91, go_sem]) rfl ⟨rfl, (((Below.refl _ _).alloc (Nat.le_refl _) _).alloc (by simp) _).alloc (by simp; omega) _⟩
theorem info_PortS : (Tryz.prog.info? 65).map (fun i => (i.zero, i.size, i.bytes)) = some (some (.agg #[.int .i64 0, .int .i64 0]), 2, 16) := by kernel_rfl
set_option maxHeartbeats 1000000 in
theorem toPortS_v (v : Value) (xs : List DPort) (w : World) {B : Nat} (h : RdS portRd 2 w B v xs) (hB : B ≤ w.heap.size) (hs : xs.length ≤ 1048576) :
    Calls Tryz.prog 73 #[v] w fun e w' => Ret1 (fun v' => OwS portOw 2 w' v' xs w.heap.size w'.heap.size) e ∧ Below w.heap.size w w' := by
  obtain ⟨A, n, c, rfl, hx, hnc, hcm⟩ := h
  have lx := Lib.hid hx.len
  have hlen := hs
  have hn : n ≤ 1048576 := by have := lx.out; omega
  have hmk := run_make_sz 61 65 Tryz.underlying61 info_PortS n (by omega) (by omega)
  go_enter Tryz.func73, Tryz.ntmps73
  go_wp2
  clear hmk
  go_loopw [4] (fun i wr => ∃ k : Nat, k ≤ n ∧ i = .int .i64 k ∧ Below w.heap.size w wr ∧ w.heap.size + 1 ≤ wr.heap.size ∧ (∃ arr, Blk wr w.heap.size 65 arr ∧ Hid (arr.size = n * 2)) ∧ ∃ bs, ElAt portOw 2 wr w.heap.size 0 (xs.take k) bs ∧ bs.Nodup ∧ ∀ b ∈ bs, w.heap.size + 1 ≤ b ∧ b < wr.heap.size) (fun i _ => n - (intOf i).toNat)
  case atStart => exact ⟨0, by omega, rfl, (Below.refl _ _).alloc (Nat.le_refl _) _, by simp, ⟨_, Blk.new _ _ _, by simp [Hid, madeCells_size]⟩, [], rfl, List.nodup_nil, fun b hb => by simp at hb⟩
  case round =>
    obtain ⟨k, hk, rfl, hb, hzz, ⟨arr, BA, hasz⟩, bs, hel, hnd, hin⟩ := hrel
    by_cases hlt : k < n
    · obtain ⟨b, off, x, rfl, hlb, hxk, hc0, hc1⟩ := (hx.below portRd_ok (hb.mono hB)).port hlt
      have Hxk := Lib.hid hxk
      clear hxk
      go_wp2_with fail
      refine (toPort_v _ x _ (B := 0) ⟨_, rfl, rfl⟩).mono ?_
      rintro e w1 ⟨rfl, q1⟩
      obtain ⟨bl, HO, nd1, in1⟩ : ∃ bl, portOw w1 [.int .i64 x.agent, .int .i64 x.slot] x bl ∧ bl.Nodup ∧ ∀ b ∈ bl, wr.heap.size ≤ b ∧ b < w1.heap.size := ⟨[], ⟨rfl, rfl⟩, List.nodup_nil, fun b hb => by simp at hb⟩
      have BA := BA.below q1 (by omega)
      obtain ⟨z0, hz0⟩ := BA.some_ (i := k * 2) (by rw [hasz.out]; omega)
      obtain ⟨z1, hz1⟩ := BA.some_ (i := k * 2 + 1) (by rw [hasz.out]; omega)
      have fz := BA.frozen
      have zz := q1.size
      have Hel := Lib.hid (hel.keep portOw_ok (q1.block _ (by omega)) (fun k hk => q1.block k (hin k hk).2))
      clear hel
      have TB : ∀ y0 y1, Below w.heap.size w ((w1.setCell ⟨w.heap.size, k * 2, none⟩ y0).setCell ⟨w.heap.size, k * 2 + 1, none⟩ y1) := fun y0 y1 => (((hb.trans (q1.mono hb.size)).setCell (p := ⟨w.heap.size, k * 2, none⟩) (Nat.le_refl _) _).setCell (p := ⟨w.heap.size, k * 2 + 1, none⟩) (Nat.le_refl _) _)
      go_wp2_with fail
      go_roundw
      case rel =>
        refine ⟨k + 1, by omega, by go_num, TB _ _, by simp [World.setCell]; omega, ⟨_, ((BA.set_ (k * 2) _).set_ (k * 2 + 1) _), by simpa [Hid] using hasz⟩, bs ++ bl, ?_⟩
        rw [take_succ_some Hxk.out]
        have hlk : (xs.take k).length = k := by have := lx.out; simp; omega
        have h1 := ElAt.setRun portOw_ok (vs := [.int .i64 x.agent, .int .i64 x.slot]) (p := k * 2) Hel.out (fun hh => by have := hin _ hh; omega) (Or.inr (by rw [hlk]; omega))
        have hnn := nodup_two hnd nd1 hin in1 hzz zz
        refine ⟨ElAt.append h1 (ElAt.one (portOw_ok.keep (w' := setRun w1 w.heap.size (k * 2) [.int .i64 x.agent, .int .i64 x.slot]) (fun b hb => setRun_block (fun e => by have := in1 b hb; omega)) HO) ?_), hnn.1, fun b hb => by have := hnn.2 b hb; simp only [World.size_setCell]; exact this⟩
        rw [hlk, Nat.zero_add]
        exact setRun_csAt (vs := [.int .i64 x.agent, .int .i64 x.slot]) (fun j hj => by
          have hj : j < 2 := by simpa using hj
          match j, hj with
          | 0, _ => exact ⟨z0, hz0⟩
          | 1, _ => exact ⟨z1, hz1⟩) (fun j hj => fz _)
      case measure => simp [intOf]; omega
    · have hkn : k = n := by omega
      have e : xs.take k = xs := List.take_of_length_le (by have := lx.out; omega)
      rw [e] at hel
      have Hkn := Lib.hid hkn
      clear hkn e
      go_wp2
      go_ret
      exact ⟨⟨_, rfl, some ⟨w.heap.size, 0, none⟩, n, n, w.heap.size :: bs, rfl, ⟨lx.out, .inr ⟨_, _, bs, rfl, rfl, hel⟩⟩, List.nodup_cons.2 ⟨fun hh => by have := hin _ hh; omega, hnd⟩, fun b hb => by
        rcases List.mem_cons.1 hb with rfl | hb
        · omega
        · have := hin b hb; omega, Nat.le_refl _, by unfold maxLen; omega⟩, hb⟩
end
section
open Go.RowKit
set_option linter.unusedVariables false
set_option linter.unusedSimpArgs false
set_option maxHeartbeats 1000000 in
theorem toAgent_v (v : Value) (x : DAgent) (w : World) {B : Nat} (h : RdT agentRd w B v x) (hB : B ≤ w.heap.size) (hs : szAgent x ≤ 1048576) :
    Calls Tryz.prog 44 #[v] w fun e w' => Ret1 (fun v' => OwT agentOw w' v' x w.heap.size w'.heap.size) e ∧ Below w.heap.size w w' := by
  obtain ⟨cs, rfl, A1, n1, c1, A2, n2, c2, rfl, ⟨h1, r1⟩, ⟨h2, r2⟩⟩ := h
  unfold szAgent at hs
  have hb : ∀ o1 o2 o3, Below w.heap.size w (((w.alloc o1).alloc o2).alloc o3) := fun o1 o2 o3 => (((Below.refl _ _).alloc (Nat.le_refl _) _).alloc (by simp) _).alloc (by simp; omega) _
  go_enter Tryz.func44, Tryz.ntmps44
  go_wp2_with fail
  refine (toInt64S_v _ x.data _ (B := B) ⟨A1, n1, c1, rfl, h1.below intRd_ok ((hb _ _ _).mono hB), r1⟩ (Nat.le_trans hB (hb _ _ _).size) (by first | omega | (unfold lenOk; omega))).mono ?_
  rintro e w1 ⟨⟨v1, rfl, O1⟩, q1⟩
  have z1 : w.heap.size + 1 + 1 + 1 ≤ w1.heap.size := by have := q1.size; simpa using this
  have O1 := O1.wide (lo' := w.heap.size + 1 + 1 + 1) (hi' := w1.heap.size) (by simp) (Nat.le_refl _)
  obtain ⟨A1', m1, d1, bs1, rfl, ow1, nd1, in1, rr1⟩ := O1
  have T1 := (hb _ _ _).trans (q1.mono (hb _ _ _).size)
  have BB := blk3_0.below q1 (by simp <;> omega)
  have BR := blk3_1.below q1 (by simp <;> omega)
  have BO := blk3_2.below q1 (by simp <;> omega)
  clear q1
  have cB := BB.cell
  have cO := BO.cell
  have fO := BO.frozen
  go_wp2_with fail
  clear cB cO fO
  have T1 := T1.setCell (p := ⟨w.heap.size + 1 + 1, 3, none⟩) (by simp; omega) (.slice A1' m1 d1)
  have BB := BB.far (p := ⟨w.heap.size + 1 + 1, 3, none⟩) (by simp; omega) (.slice A1' m1 d1)
  have BR := BR.far (p := ⟨w.heap.size + 1 + 1, 3, none⟩) (by simp) (.slice A1' m1 d1)
  have BO := BO.set_ 3 (.slice A1' m1 d1)
  have ow1 := ow1.keep intOw_ok (w' := World.setCell w1 ⟨w.heap.size + 1 + 1, 3, none⟩ (.slice A1' m1 d1)) (fun k hk => Below.heap_setCell _ _ _ _ (by have := in1 k hk; simp; omega))
  refine (toPortS_v _ x.ports _ (B := B) ⟨A2, n2, c2, rfl, h2.below portRd_ok (T1.mono hB), r2⟩ (Nat.le_trans hB T1.size) (by first | omega | (unfold lenOk; omega))).mono ?_
  rintro e w2 ⟨⟨v2, rfl, O2⟩, q2⟩
  have z2 : w1.heap.size ≤ w2.heap.size := by have := q2.size; simpa using this
  have O2 := O2.wide (lo' := w1.heap.size) (hi' := w2.heap.size) (by simp) (Nat.le_refl _)
  obtain ⟨A2', m2, d2, bs2, rfl, ow2, nd2, in2, rr2⟩ := O2
  have T1 := T1.trans (q2.mono T1.size)
  have BB := BB.below q2 (by simp <;> omega)
  have BR := BR.below q2 (by simp <;> omega)
  have BO := BO.below q2 (by simp <;> omega)
  have ow1 := ow1.keep intOw_ok (w' := w2) (fun k hk => q2.block k (by have := in1 k hk; simp <;> omega))
  clear q2
  have cB := BB.cell
  have cO := BO.cell
  have fO := BO.frozen
  have cR := BR.cell
  have fR := BR.frozen
  go_wp2_with fail
  have hfin : ∀ w', OnlyIn (w.heap.size + 1) (w.heap.size + 1 + 1 + 1) w2 w' → (Ret1 (fun v' => OwT agentOw w' v' x w.heap.size w'.heap.size) (.returned (.agg #[.int .i64 x.kind, .int .i64 x.level, .int .i64 x.value, (.slice A1' m1 d1), (.slice A2' m2 d2)])) ∧ Below w.heap.size w w') := fun w' ho => by
    refine ⟨⟨_, rfl, [.int .i64 x.kind, .int .i64 x.level, .int .i64 x.value, (.slice A1' m1 d1), (.slice A2' m2 d2)], bs1 ++ bs2, rfl, ⟨A1', m1, d1, A2', m2, d2, bs1, bs2, rfl, ⟨ow1.keep intOw_ok (fun k hk => ho.block k (.inr (by have := in1 k hk; omega))), rr1⟩, ⟨ow2.keep portOw_ok (fun k hk => ho.block k (.inr (by have := in2 k hk; omega))), rr2⟩, rfl⟩, ?_⟩, T1.trans (ho.below.mono (by omega))⟩
    have h1 : bs1.Nodup ∧ ∀ b ∈ bs1, w.heap.size ≤ b ∧ b < w1.heap.size := ⟨nd1, fun b hb => by have := in1 b hb; omega⟩
    have h2 := nodup_two (lo := w.heap.size) (mid := w1.heap.size) (hi := w2.heap.size) h1.1 nd2 (fun b hb => by have := h1.2 b hb; omega) in2 (by omega) (by omega)
    exact ⟨h2.1, fun b hb => by have := h2.2 b hb; have := ho.size; omega⟩
  refine bodyPost_ret (v := .agg #[.int .i64 x.kind, .int .i64 x.level, .int .i64 x.value, (.slice A1' m1 d1), (.slice A2' m2 d2)]) (by simp [results, Tryz.results44, go_sem, cR]) rfl (hfin _ ?_)
  repeat (first | (with_reducible exact OnlyIn.refl _ _ _) | (with_reducible refine OnlyIn.setCell ?_ ⟨by simp, by simp⟩ _))
theorem szAgentS_el {xs : List DAgent} {k : Nat} {x : DAgent} (h : xs[k]? = some x) : szAgent x ≤ szAgentS xs := by
  have h1 := szAgentS_take h
  have h2 := szAgentS_le xs (k + 1)
  unfold szAgentS
  omega
theorem info_AgentS : (Tryz.prog.info? 63).map (fun i => (i.zero, i.size, i.bytes)) = some (some (.agg #[.int .i64 0, .int .i64 0, .int .i64 0, .slice none 0 0, .slice none 0 0]), 5, 72) := by kernel_rfl
set_option maxHeartbeats 1000000 in
theorem toAgentS_v (v : Value) (xs : List DAgent) (w : World) {B : Nat} (h : RdS agentRd 5 w B v xs) (hB : B ≤ w.heap.size) (hs : szAgentS xs ≤ 1048576) :
    Calls Tryz.prog 26 #[v] w fun e w' => Ret1 (fun v' => OwS agentOw 5 w' v' xs w.heap.size w'.heap.size) e ∧ Below w.heap.size w w' := by
  obtain ⟨A, n, c, rfl, hx, hnc, hcm⟩ := h
  have lx := Lib.hid hx.len
  have hlen : xs.length ≤ 1048576 := by unfold szAgentS at hs; omega
  have hn : n ≤ 1048576 := by have := lx.out; omega
  have hmk := run_make_sz 29 63 Tryz.underlying29 info_AgentS n (by omega) (by omega)
  go_enter Tryz.func26, Tryz.ntmps26
  go_wp2
  clear hmk
  go_loopw [4] (fun i wr => ∃ k : Nat, k ≤ n ∧ i = .int .i64 k ∧ Below w.heap.size w wr ∧ w.heap.size + 1 ≤ wr.heap.size ∧ (∃ arr, Blk wr w.heap.size 63 arr ∧ Hid (arr.size = n * 5)) ∧ ∃ bs, ElAt agentOw 5 wr w.heap.size 0 (xs.take k) bs ∧ bs.Nodup ∧ ∀ b ∈ bs, w.heap.size + 1 ≤ b ∧ b < wr.heap.size) (fun i _ => n - (intOf i).toNat)
  case atStart => exact ⟨0, by omega, rfl, (Below.refl _ _).alloc (Nat.le_refl _) _, by simp, ⟨_, Blk.new _ _ _, by simp [Hid, madeCells_size]⟩, [], rfl, List.nodup_nil, fun b hb => by simp at hb⟩
  case round =>
    obtain ⟨k, hk, rfl, hb, hzz, ⟨arr, BA, hasz⟩, bs, hel, hnd, hin⟩ := hrel
    by_cases hlt : k < n
    · obtain ⟨b, off, x, A1, n1, c1, A2, n2, c2, rfl, hlb, hxk, hc0, hc1, hc2, hc3, hc4, ⟨h1, r1⟩, ⟨h2, r2⟩⟩ := (hx.below agentRd_ok (hb.mono hB)).agent hlt
      have Hxk := Lib.hid hxk
      clear hxk
      go_wp2_with fail
      refine (toAgent_v _ x _ (B := B) ⟨_, rfl, A1, n1, c1, A2, n2, c2, rfl, ⟨h1, r1⟩, ⟨h2, r2⟩⟩ (Nat.le_trans hB hb.size) (by have := szAgentS_el Hxk.out; omega)).mono ?_
      rintro e w1 ⟨⟨v1, rfl, O1⟩, q1⟩
      obtain ⟨cs1, bl, rfl, HO, nd1, in1⟩ := O1
      have HO' := HO
      obtain ⟨A1', m1, d1, A2', m2, d2, b1, b2, rfl, _⟩ := HO'
      have BA := BA.below q1 (by omega)
      obtain ⟨z0, hz0⟩ := BA.some_ (i := k * 5) (by rw [hasz.out]; omega)
      obtain ⟨z1, hz1⟩ := BA.some_ (i := k * 5 + 1) (by rw [hasz.out]; omega)
      obtain ⟨z2, hz2⟩ := BA.some_ (i := k * 5 + 2) (by rw [hasz.out]; omega)
      obtain ⟨z3, hz3⟩ := BA.some_ (i := k * 5 + 3) (by rw [hasz.out]; omega)
      obtain ⟨z4, hz4⟩ := BA.some_ (i := k * 5 + 4) (by rw [hasz.out]; omega)
      have fz := BA.frozen
      have zz := q1.size
      have Hel := Lib.hid (hel.keep agentOw_ok (q1.block _ (by omega)) (fun k hk => q1.block k (hin k hk).2))
      clear hel
      have TB : ∀ y0 y1 y2 y3 y4, Below w.heap.size w (((((w1.setCell ⟨w.heap.size, k * 5, none⟩ y0).setCell ⟨w.heap.size, k * 5 + 1, none⟩ y1).setCell ⟨w.heap.size, k * 5 + 2, none⟩ y2).setCell ⟨w.heap.size, k * 5 + 3, none⟩ y3).setCell ⟨w.heap.size, k * 5 + 4, none⟩ y4) := fun y0 y1 y2 y3 y4 => ((((((hb.trans (q1.mono hb.size)).setCell (p := ⟨w.heap.size, k * 5, none⟩) (Nat.le_refl _) _).setCell (p := ⟨w.heap.size, k * 5 + 1, none⟩) (Nat.le_refl _) _).setCell (p := ⟨w.heap.size, k * 5 + 2, none⟩) (Nat.le_refl _) _).setCell (p := ⟨w.heap.size, k * 5 + 3, none⟩) (Nat.le_refl _) _).setCell (p := ⟨w.heap.size, k * 5 + 4, none⟩) (Nat.le_refl _) _)
      go_wp2_with fail
      go_roundw
      case rel =>
        refine ⟨k + 1, by omega, by go_num, TB _ _ _ _ _, by simp [World.setCell]; omega, ⟨_, (((((BA.set_ (k * 5) _).set_ (k * 5 + 1) _).set_ (k * 5 + 2) _).set_ (k * 5 + 3) _).set_ (k * 5 + 4) _), by simpa [Hid] using hasz⟩, bs ++ bl, ?_⟩
        rw [take_succ_some Hxk.out]
        have hlk : (xs.take k).length = k := by have := lx.out; simp; omega
        have h1 := ElAt.setRun agentOw_ok (vs := [.int .i64 x.kind, .int .i64 x.level, .int .i64 x.value, .slice A1' m1 d1, .slice A2' m2 d2]) (p := k * 5) Hel.out (fun hh => by have := hin _ hh; omega) (Or.inr (by rw [hlk]; omega))
        have hnn := nodup_two hnd nd1 hin in1 hzz zz
        refine ⟨ElAt.append h1 (ElAt.one (agentOw_ok.keep (w' := setRun w1 w.heap.size (k * 5) [.int .i64 x.kind, .int .i64 x.level, .int .i64 x.value, .slice A1' m1 d1, .slice A2' m2 d2]) (fun b hb => setRun_block (fun e => by have := in1 b hb; omega)) HO) ?_), hnn.1, fun b hb => by have := hnn.2 b hb; simp only [World.size_setCell]; exact this⟩
        rw [hlk, Nat.zero_add]
        exact setRun_csAt (vs := [.int .i64 x.kind, .int .i64 x.level, .int .i64 x.value, .slice A1' m1 d1, .slice A2' m2 d2]) (fun j hj => by
          have hj : j < 5 := by simpa using hj
          match j, hj with
          | 0, _ => exact ⟨z0, hz0⟩
          | 1, _ => exact ⟨z1, hz1⟩
          | 2, _ => exact ⟨z2, hz2⟩
          | 3, _ => exact ⟨z3, hz3⟩
          | 4, _ => exact ⟨z4, hz4⟩) (fun j hj => fz _)
      case measure => simp [intOf]; omega
    · have hkn : k = n := by omega
      have e : xs.take k = xs := List.take_of_length_le (by have := lx.out; omega)
      rw [e] at hel
      have Hkn := Lib.hid hkn
      clear hkn e
      go_wp2
      go_ret
      exact ⟨⟨_, rfl, some ⟨w.heap.size, 0, none⟩, n, n, w.heap.size :: bs, rfl, ⟨lx.out, .inr ⟨_, _, bs, rfl, rfl, hel⟩⟩, List.nodup_cons.2 ⟨fun hh => by have := hin _ hh; omega, hnd⟩, fun b hb => by
        rcases List.mem_cons.1 hb with rfl | hb
        · omega
        · have := hin b hb; omega, Nat.le_refl _, by unfold maxLen; omega⟩, hb⟩
set_option maxHeartbeats 1000000 in
theorem toNet_v (v : Value) (x : DNet) (w : World) {B : Nat} (h : RdT netRd w B v x) (hB : B ≤ w.heap.size) (hs : szNet x ≤ 1048576) :
    Calls Tryz.prog 9 #[v] w fun e w' => Ret1 (fun v' => OwT netOw w' v' x w.heap.size w'.heap.size) e ∧ Below w.heap.size w w' := by
  obtain ⟨cs, rfl, A1, n1, c1, rfl, ⟨h1, r1⟩⟩ := h
  unfold szNet at hs
  have hb : ∀ o1 o2 o3, Below w.heap.size w (((w.alloc o1).alloc o2).alloc o3) := fun o1 o2 o3 => (((Below.refl _ _).alloc (Nat.le_refl _) _).alloc (by simp) _).alloc (by simp; omega) _
  go_enter Tryz.func9, Tryz.ntmps9
  go_wp2_with fail
  refine (toAgentS_v _ x.agents _ (B := B) ⟨A1, n1, c1, rfl, h1.below agentRd_ok ((hb _ _ _).mono hB), r1⟩ (Nat.le_trans hB (hb _ _ _).size) (by first | omega | (unfold lenOk; omega))).mono ?_
  rintro e w1 ⟨⟨v1, rfl, O1⟩, q1⟩
  have z1 : w.heap.size + 1 + 1 + 1 ≤ w1.heap.size := by have := q1.size; simpa using this
  have O1 := O1.wide (lo' := w.heap.size + 1 + 1 + 1) (hi' := w1.heap.size) (by simp) (Nat.le_refl _)
  obtain ⟨A1', m1, d1, bs1, rfl, ow1, nd1, in1, rr1⟩ := O1
  have T1 := (hb _ _ _).trans (q1.mono (hb _ _ _).size)
  have BB := blk3_0.below q1 (by simp <;> omega)
  have BR := blk3_1.below q1 (by simp <;> omega)
  have BO := blk3_2.below q1 (by simp <;> omega)
  clear q1
  have cB := BB.cell
  have cO := BO.cell
  have fO := BO.frozen
  have cR := BR.cell
  have fR := BR.frozen
  go_wp2_with fail
  have hfin : ∀ w', OnlyIn (w.heap.size + 1) (w.heap.size + 1 + 1 + 1) w1 w' → (Ret1 (fun v' => OwT netOw w' v' x w.heap.size w'.heap.size) (.returned (.agg #[(.slice A1' m1 d1)])) ∧ Below w.heap.size w w') := fun w' ho => by
    refine ⟨⟨_, rfl, [(.slice A1' m1 d1)], bs1, rfl, ⟨A1', m1, d1, bs1, rfl, ⟨ow1.keep agentOw_ok (fun k hk => ho.block k (.inr (by have := in1 k hk; omega))), rr1⟩, rfl⟩, ?_⟩, T1.trans (ho.below.mono (by omega))⟩
    have h1 : bs1.Nodup ∧ ∀ b ∈ bs1, w.heap.size ≤ b ∧ b < w1.heap.size := ⟨nd1, fun b hb => by have := in1 b hb; omega⟩
    exact ⟨h1.1, fun b hb => by have := h1.2 b hb; have := ho.size; omega⟩
  refine bodyPost_ret (v := .agg #[(.slice A1' m1 d1)]) (by simp [results, Tryz.results9, go_sem, cR]) rfl (hfin _ ?_)
  repeat (first | (with_reducible exact OnlyIn.refl _ _ _) | (with_reducible refine OnlyIn.setCell ?_ ⟨by simp, by simp⟩ _))
end
section
open Go.RowKit
set_option linter.unusedVariables false
set_option linter.unusedSimpArgs false
set_option maxHeartbeats 1000000 in
theorem eqPort_v (v u : Value) (x y : DPort) (w : World) {B B' : Nat} (h : RdT portRd w B v x) (h' : RdT portRd w B' u y) (hB : B ≤ w.heap.size) (hB' : B' ≤ w.heap.size) :
    Calls Tryz.prog 111 #[v, u] w fun e w' => e = .returned (.bool (decide (x = y))) ∧ Below w.heap.size w w' := by
  obtain ⟨cs, rfl, rfl⟩ := h
  obtain ⟨cs, rfl, rfl⟩ := h'
  have hb : ∀ o1 o2, Below w.heap.size w ((w.alloc o1).alloc o2) := fun o1 o2 => ((Below.refl _ _).alloc (Nat.le_refl _) _).alloc (by simp) _
  by_cases e0 : x.agent = y.agent
  · have f0 : (x.agent != y.agent) = false := by simp [e0]
    by_cases e1 : x.slot = y.slot
    · have f1 : (x.slot != y.slot) = false := by simp [e1]
      have He : Hid (decide (x = y) = true) := decide_eq_true (by cases x; cases y; simp_all)
      clear e0 e1
      go_enter Tryz.func111, Tryz.ntmps111
      go_wp2_with fail
      go_ret
      exact ⟨by rw [He.out]; rfl, hb _ _⟩
    · have f1 : (x.slot != y.slot) = true := by simp [e1]
      have He : Hid (decide (x = y) = false) := decide_eq_false (by intro exy; exact e1 (by rw [exy]))
      clear e0 e1
      go_enter Tryz.func111, Tryz.ntmps111
      go_wp2_with fail
      go_ret
      exact ⟨by rw [He.out]; rfl, hb _ _⟩
  · have f0 : (x.agent != y.agent) = true := by simp [e0]
    have He : Hid (decide (x = y) = false) := decide_eq_false (by intro exy; exact e0 (by rw [exy]))
    clear e0
    go_enter Tryz.func111, Tryz.ntmps111
    go_wp2_with fail
    go_ret
    exact ⟨by rw [He.out]; rfl, hb _ _⟩
set_option maxHeartbeats 1000000 in
theorem eqPortS_v (v u : Value) (xs ys : List DPort) (w : World) {B B' : Nat} (h : RdS portRd 2 w B v xs) (h' : RdS portRd 2 w B' u ys) (hB : B ≤ w.heap.size) (hB' : B' ≤ w.heap.size) :
    Calls Tryz.prog 81 #[v, u] w fun e w' => e = .returned (.bool (eqL xs ys)) ∧ Below w.heap.size w w' := by
  obtain ⟨A, n, c, rfl, hx, hnc, hcm⟩ := h
  obtain ⟨C, m, d, rfl, hy, hmd, hdm⟩ := h'
  unfold maxLen at hcm hdm
  have lx := Lib.hid hx.len
  have ly := Lib.hid hy.len
  have hr := Below.refl w.heap.size w
  by_cases hnm : n = m
  · subst hnm
    go_enter Tryz.func81, Tryz.ntmps81
    go_wp2
    go_loopw [5] (fun i wr => ∃ k : Nat, k ≤ n ∧ i = .int .i64 k ∧ Hid (xs.take k = ys.take k) ∧ Below w.heap.size w wr) (fun i _ => n - (intOf i).toNat)
    case atStart => exact ⟨0, by omega, rfl, rfl, hr⟩
    case round =>
      obtain ⟨k, hk, rfl, ht, hq⟩ := hrel
      by_cases hlt : k < n
      · have hx' := hx.below portRd_ok (hq.mono hB)
        have hy' := hy.below portRd_ok (hq.mono hB')
        obtain ⟨b, off, x, rfl, hb, hxk, hc0, hc1⟩ := hx'.port hlt
        obtain ⟨b', off', y, rfl, hb', hyk, hc0', hc1'⟩ := hy'.port hlt
        have Hxk := Lib.hid hxk
        have Hyk := Lib.hid hyk
        clear hxk hyk hx' hy'
        have hzB : B ≤ wr.drew.heap.size := Nat.le_trans hB hq.size
        have hzB' : B' ≤ wr.drew.heap.size := Nat.le_trans hB' hq.size
        by_cases hxy : x = y
        · have hf : decide (x = y) = true := decide_eq_true hxy
          have Hxy := Lib.hid hxy
          clear hxy
          go_wp2_with fail
          go_region_with (go_at_call 111; refine (eqPort_v _ _ x y _ (B := 0) (B' := 0) ⟨_, rfl, rfl⟩ ⟨_, rfl, rfl⟩ (Nat.zero_le _) (Nat.zero_le _)).mono ?_; rintro e w1 ⟨rfl, hq1⟩)
          all_goals
            go_wp2_with fail
            go_roundw
            case rel => exact ⟨k + 1, by omega, by go_num, eqL_step Hxk.out Hyk.out ht.out Hxy.out, hq.drew.trans (hq1.mono hq.size)⟩
            case measure => simp [intOf]; omega
        · have hf : decide (x = y) = false := decide_eq_false hxy
          have Hno := Lib.hid (eqL_no Hxk.out Hyk.out hxy)
          clear hxy
          go_wp2_with fail
          go_region_with (go_at_call 111; refine (eqPort_v _ _ x y _ (B := 0) (B' := 0) ⟨_, rfl, rfl⟩ ⟨_, rfl, rfl⟩ (Nat.zero_le _) (Nat.zero_le _)).mono ?_; rintro e w1 ⟨rfl, hq1⟩)
          all_goals
            go_wp2_with fail
            go_ret
            exact ⟨by rw [Hno.out]; rfl, hq.drew.trans (hq1.mono hq.size)⟩
      · have Hyes := Lib.hid (eqL_yes (k := k) ht.out (by have := lx.out; omega) (by have := ly.out; omega))
        go_wp2
        go_ret
        exact ⟨by rw [Hyes.out]; rfl, hq⟩
  · have Hno := Lib.hid (eqL_len (xs := xs) (ys := ys) (by have := lx.out; have := ly.out; omega))
    have hf : ((n : Int) != (m : Int)) = true := by simp; omega
    go_enter Tryz.func81, Tryz.ntmps81
    go_wp2
    go_ret
    exact ⟨by rw [Hno.out]; rfl, hr⟩
end
section
open Go.RowKit
set_option linter.unusedVariables false
set_option linter.unusedSimpArgs false
set_option maxHeartbeats 1000000 in
theorem eqAgent_v (v u : Value) (x y : DAgent) (w : World) {B B' : Nat} (h : RdT agentRd w B v x) (h' : RdT agentRd w B' u y) (hB : B ≤ w.heap.size) (hB' : B' ≤ w.heap.size) :
    Calls Tryz.prog 59 #[v, u] w fun e w' => e = .returned (.bool (decide (x = y))) ∧ Below w.heap.size w w' := by
  obtain ⟨cs, rfl, A1, n1, c1, A2, n2, c2, rfl, ⟨h1, r1⟩, ⟨h2, r2⟩⟩ := h
  obtain ⟨cs, rfl, A1', n1', c1', A2', n2', c2', rfl, ⟨h1', r1'⟩, ⟨h2', r2'⟩⟩ := h'
  have hb : ∀ o1 o2, Below w.heap.size w ((w.alloc o1).alloc o2) := fun o1 o2 => ((Below.refl _ _).alloc (Nat.le_refl _) _).alloc (by simp) _
  by_cases e0 : x.kind = y.kind
  · have f0 : (x.kind != y.kind) = false := by simp [e0]
    by_cases e1 : x.level = y.level
    · have f1 : (x.level != y.level) = false := by simp [e1]
      by_cases e2 : x.value = y.value
      · have f2 : (x.value != y.value) = false := by simp [e2]
        by_cases e3 : x.data = y.data
        · have f3 : eqL x.data y.data = true := decide_eq_true e3
          by_cases e4 : x.ports = y.ports
          · have f4 : eqL x.ports y.ports = true := decide_eq_true e4
            have He : Hid (decide (x = y) = true) := decide_eq_true (by cases x; cases y; simp_all)
            clear e0 e1 e2 e3 e4
            go_enter Tryz.func59, Tryz.ntmps59
            go_wp2_with fail
            refine (eqInt64S_v _ _ x.data y.data _ (B := B) (B' := B') ⟨A1, n1, c1, rfl, h1.below intRd_ok ((hb _ _).mono hB), r1⟩ ⟨A1', n1', c1', rfl, h1'.below intRd_ok ((hb _ _).mono hB'), r1'⟩ (Nat.le_trans hB (hb _ _).size) (Nat.le_trans hB' (hb _ _).size)).mono ?_
            rintro e w1 ⟨rfl, q1⟩
            have T := (hb _ _).trans (q1.mono (hb _ _).size)
            have B1 := blk2_0.below q1 (by simp <;> omega)
            have B2 := blk2_1.below q1 (by simp <;> omega)
            have z1 : w.heap.size + 1 + 1 ≤ w1.heap.size := by have := q1.size; simpa using this
            clear q1
            have g1 := B1.cell
            have g2 := B2.cell
            go_wp2_with fail
            clear g1 g2
            refine (eqPortS_v _ _ x.ports y.ports _ (B := B) (B' := B') ⟨A2, n2, c2, rfl, h2.below portRd_ok ((T).mono hB), r2⟩ ⟨A2', n2', c2', rfl, h2'.below portRd_ok ((T).mono hB'), r2'⟩ (Nat.le_trans hB (T).size) (Nat.le_trans hB' (T).size)).mono ?_
            rintro e w2 ⟨rfl, q2⟩
            have T := T.trans (q2.mono T.size)
            have B1 := B1.below q2 (by omega)
            have B2 := B2.below q2 (by omega)
            have z2 := Nat.le_trans z1 q2.size
            clear q2
            go_wp2_with fail
            go_ret
            exact ⟨by rw [He.out]; rfl, T⟩
          · have f4 : eqL x.ports y.ports = false := decide_eq_false e4
            have He : Hid (decide (x = y) = false) := decide_eq_false (by intro exy; exact e4 (by rw [exy]))
            clear e0 e1 e2 e3 e4
            go_enter Tryz.func59, Tryz.ntmps59
            go_wp2_with fail
            refine (eqInt64S_v _ _ x.data y.data _ (B := B) (B' := B') ⟨A1, n1, c1, rfl, h1.below intRd_ok ((hb _ _).mono hB), r1⟩ ⟨A1', n1', c1', rfl, h1'.below intRd_ok ((hb _ _).mono hB'), r1'⟩ (Nat.le_trans hB (hb _ _).size) (Nat.le_trans hB' (hb _ _).size)).mono ?_
            rintro e w1 ⟨rfl, q1⟩
            have T := (hb _ _).trans (q1.mono (hb _ _).size)
            have B1 := blk2_0.below q1 (by simp <;> omega)
            have B2 := blk2_1.below q1 (by simp <;> omega)
            have z1 : w.heap.size + 1 + 1 ≤ w1.heap.size := by have := q1.size; simpa using this
            clear q1
            have g1 := B1.cell
            have g2 := B2.cell
            go_wp2_with fail
            clear g1 g2
            refine (eqPortS_v _ _ x.ports y.ports _ (B := B) (B' := B') ⟨A2, n2, c2, rfl, h2.below portRd_ok ((T).mono hB), r2⟩ ⟨A2', n2', c2', rfl, h2'.below portRd_ok ((T).mono hB'), r2'⟩ (Nat.le_trans hB (T).size) (Nat.le_trans hB' (T).size)).mono ?_
            rintro e w2 ⟨rfl, q2⟩
            have T := T.trans (q2.mono T.size)
            have B1 := B1.below q2 (by omega)
            have B2 := B2.below q2 (by omega)
            have z2 := Nat.le_trans z1 q2.size
            clear q2
            go_wp2_with fail
            go_ret
            exact ⟨by rw [He.out]; rfl, T⟩
        · have f3 : eqL x.data y.data = false := decide_eq_false e3
          have He : Hid (decide (x = y) = false) := decide_eq_false (by intro exy; exact e3 (by rw [exy]))
          clear e0 e1 e2 e3
          go_enter Tryz.func59, Tryz.ntmps59
          go_wp2_with fail
          refine (eqInt64S_v _ _ x.data y.data _ (B := B) (B' := B') ⟨A1, n1, c1, rfl, h1.below intRd_ok ((hb _ _).mono hB), r1⟩ ⟨A1', n1', c1', rfl, h1'.below intRd_ok ((hb _ _).mono hB'), r1'⟩ (Nat.le_trans hB (hb _ _).size) (Nat.le_trans hB' (hb _ _).size)).mono ?_
          rintro e w1 ⟨rfl, q1⟩
          have T := (hb _ _).trans (q1.mono (hb _ _).size)
          have B1 := blk2_0.below q1 (by simp <;> omega)
          have B2 := blk2_1.below q1 (by simp <;> omega)
          have z1 : w.heap.size + 1 + 1 ≤ w1.heap.size := by have := q1.size; simpa using this
          clear q1
          go_wp2_with fail
          go_ret
          exact ⟨by rw [He.out]; rfl, T⟩
      · have f2 : (x.value != y.value) = true := by simp [e2]
        have He : Hid (decide (x = y) = false) := decide_eq_false (by intro exy; exact e2 (by rw [exy]))
        clear e0 e1 e2
        go_enter Tryz.func59, Tryz.ntmps59
        go_wp2_with fail
        go_ret
        exact ⟨by rw [He.out]; rfl, hb _ _⟩
    · have f1 : (x.level != y.level) = true := by simp [e1]
      have He : Hid (decide (x = y) = false) := decide_eq_false (by intro exy; exact e1 (by rw [exy]))
      clear e0 e1
      go_enter Tryz.func59, Tryz.ntmps59
      go_wp2_with fail
      go_ret
      exact ⟨by rw [He.out]; rfl, hb _ _⟩
  · have f0 : (x.kind != y.kind) = true := by simp [e0]
    have He : Hid (decide (x = y) = false) := decide_eq_false (by intro exy; exact e0 (by rw [exy]))
    clear e0
    go_enter Tryz.func59, Tryz.ntmps59
    go_wp2_with fail
    go_ret
    exact ⟨by rw [He.out]; rfl, hb _ _⟩
set_option maxHeartbeats 1000000 in
theorem eqAgentS_v (v u : Value) (xs ys : List DAgent) (w : World) {B B' : Nat} (h : RdS agentRd 5 w B v xs) (h' : RdS agentRd 5 w B' u ys) (hB : B ≤ w.heap.size) (hB' : B' ≤ w.heap.size) :
    Calls Tryz.prog 29 #[v, u] w fun e w' => e = .returned (.bool (eqL xs ys)) ∧ Below w.heap.size w w' := by
  obtain ⟨A, n, c, rfl, hx, hnc, hcm⟩ := h
  obtain ⟨C, m, d, rfl, hy, hmd, hdm⟩ := h'
  unfold maxLen at hcm hdm
  have lx := Lib.hid hx.len
  have ly := Lib.hid hy.len
  have hr := Below.refl w.heap.size w
  by_cases hnm : n = m
  · subst hnm
    go_enter Tryz.func29, Tryz.ntmps29
    go_wp2
    go_loopw [5] (fun i wr => ∃ k : Nat, k ≤ n ∧ i = .int .i64 k ∧ Hid (xs.take k = ys.take k) ∧ Below w.heap.size w wr) (fun i _ => n - (intOf i).toNat)
    case atStart => exact ⟨0, by omega, rfl, rfl, hr⟩
    case round =>
      obtain ⟨k, hk, rfl, ht, hq⟩ := hrel
      by_cases hlt : k < n
      · have hx' := hx.below agentRd_ok (hq.mono hB)
        have hy' := hy.below agentRd_ok (hq.mono hB')
        obtain ⟨b, off, x, A1, n1, c1, A2, n2, c2, rfl, hb, hxk, hc0, hc1, hc2, hc3, hc4, ⟨h1, r1⟩, ⟨h2, r2⟩⟩ := hx'.agent hlt
        obtain ⟨b', off', y, A1', n1', c1', A2', n2', c2', rfl, hb', hyk, hc0', hc1', hc2', hc3', hc4', ⟨h1', r1'⟩, ⟨h2', r2'⟩⟩ := hy'.agent hlt
        have Hxk := Lib.hid hxk
        have Hyk := Lib.hid hyk
        clear hxk hyk hx' hy'
        have hzB : B ≤ wr.drew.heap.size := Nat.le_trans hB hq.size
        have hzB' : B' ≤ wr.drew.heap.size := Nat.le_trans hB' hq.size
        by_cases hxy : x = y
        · have hf : decide (x = y) = true := decide_eq_true hxy
          have Hxy := Lib.hid hxy
          clear hxy
          go_wp2_with fail
          go_region_with (go_at_call 59; refine (eqAgent_v _ _ x y _ (B := B) (B' := B') ⟨_, rfl, A1, n1, c1, A2, n2, c2, rfl, ⟨h1.drew intRd_ok, r1⟩, ⟨h2.drew portRd_ok, r2⟩⟩ ⟨_, rfl, A1', n1', c1', A2', n2', c2', rfl, ⟨h1'.drew intRd_ok, r1'⟩, ⟨h2'.drew portRd_ok, r2'⟩⟩ hzB hzB').mono ?_; rintro e w1 ⟨rfl, hq1⟩)
          all_goals
            go_wp2_with fail
            go_roundw
            case rel => exact ⟨k + 1, by omega, by go_num, eqL_step Hxk.out Hyk.out ht.out Hxy.out, hq.drew.trans (hq1.mono hq.size)⟩
            case measure => simp [intOf]; omega
        · have hf : decide (x = y) = false := decide_eq_false hxy
          have Hno := Lib.hid (eqL_no Hxk.out Hyk.out hxy)
          clear hxy
          go_wp2_with fail
          go_region_with (go_at_call 59; refine (eqAgent_v _ _ x y _ (B := B) (B' := B') ⟨_, rfl, A1, n1, c1, A2, n2, c2, rfl, ⟨h1.drew intRd_ok, r1⟩, ⟨h2.drew portRd_ok, r2⟩⟩ ⟨_, rfl, A1', n1', c1', A2', n2', c2', rfl, ⟨h1'.drew intRd_ok, r1'⟩, ⟨h2'.drew portRd_ok, r2'⟩⟩ hzB hzB').mono ?_; rintro e w1 ⟨rfl, hq1⟩)
          all_goals
            go_wp2_with fail
            go_ret
            exact ⟨by rw [Hno.out]; rfl, hq.drew.trans (hq1.mono hq.size)⟩
      · have Hyes := Lib.hid (eqL_yes (k := k) ht.out (by have := lx.out; omega) (by have := ly.out; omega))
        go_wp2
        go_ret
        exact ⟨by rw [Hyes.out]; rfl, hq⟩
  · have Hno := Lib.hid (eqL_len (xs := xs) (ys := ys) (by have := lx.out; have := ly.out; omega))
    have hf : ((n : Int) != (m : Int)) = true := by simp; omega
    go_enter Tryz.func29, Tryz.ntmps29
    go_wp2
    go_ret
    exact ⟨by rw [Hno.out]; rfl, hr⟩
set_option maxHeartbeats 1000000 in
theorem eqNet_v (v u : Value) (x y : DNet) (w : World) {B B' : Nat} (h : RdT netRd w B v x) (h' : RdT netRd w B' u y) (hB : B ≤ w.heap.size) (hB' : B' ≤ w.heap.size) :
    Calls Tryz.prog 12 #[v, u] w fun e w' => e = .returned (.bool (decide (x = y))) ∧ Below w.heap.size w w' := by
  obtain ⟨cs, rfl, A1, n1, c1, rfl, ⟨h1, r1⟩⟩ := h
  obtain ⟨cs, rfl, A1', n1', c1', rfl, ⟨h1', r1'⟩⟩ := h'
  have hb : ∀ o1 o2, Below w.heap.size w ((w.alloc o1).alloc o2) := fun o1 o2 => ((Below.refl _ _).alloc (Nat.le_refl _) _).alloc (by simp) _
  by_cases e0 : x.agents = y.agents
  · have f0 : eqL x.agents y.agents = true := decide_eq_true e0
    have He : Hid (decide (x = y) = true) := decide_eq_true (by cases x; cases y; simp_all)
    clear e0
    go_enter Tryz.func12, Tryz.ntmps12
    go_wp2_with fail
    refine (eqAgentS_v _ _ x.agents y.agents _ (B := B) (B' := B') ⟨A1, n1, c1, rfl, h1.below agentRd_ok ((hb _ _).mono hB), r1⟩ ⟨A1', n1', c1', rfl, h1'.below agentRd_ok ((hb _ _).mono hB'), r1'⟩ (Nat.le_trans hB (hb _ _).size) (Nat.le_trans hB' (hb _ _).size)).mono ?_
    rintro e w1 ⟨rfl, q1⟩
    have T := (hb _ _).trans (q1.mono (hb _ _).size)
    have B1 := blk2_0.below q1 (by simp <;> omega)
    have B2 := blk2_1.below q1 (by simp <;> omega)
    have z1 : w.heap.size + 1 + 1 ≤ w1.heap.size := by have := q1.size; simpa using this
    clear q1
    go_wp2_with fail
    go_ret
    exact ⟨by rw [He.out]; rfl, T⟩
  · have f0 : eqL x.agents y.agents = false := decide_eq_false e0
    have He : Hid (decide (x = y) = false) := decide_eq_false (by intro exy; exact e0 (by rw [exy]))
    clear e0
    go_enter Tryz.func12, Tryz.ntmps12
    go_wp2_with fail
    refine (eqAgentS_v _ _ x.agents y.agents _ (B := B) (B' := B') ⟨A1, n1, c1, rfl, h1.below agentRd_ok ((hb _ _).mono hB), r1⟩ ⟨A1', n1', c1', rfl, h1'.below agentRd_ok ((hb _ _).mono hB'), r1'⟩ (Nat.le_trans hB (hb _ _).size) (Nat.le_trans hB' (hb _ _).size)).mono ?_
    rintro e w1 ⟨rfl, q1⟩
    have T := (hb _ _).trans (q1.mono (hb _ _).size)
    have B1 := blk2_0.below q1 (by simp <;> omega)
    have B2 := blk2_1.below q1 (by simp <;> omega)
    have z1 : w.heap.size + 1 + 1 ≤ w1.heap.size := by have := q1.size; simpa using this
    clear q1
    go_wp2_with fail
    go_ret
    exact ⟨by rw [He.out]; rfl, T⟩
end
section
open Go.RowKit
set_option linter.unusedVariables false
set_option linter.unusedSimpArgs false
set_option maxRecDepth 100000
set_option maxHeartbeats 8000000 in
theorem walk_CanonicalNet (w : World) (v0 : Value) (x : DNet) (R0 : RdT netRd w w.heap.size v0 x) :
    Calls Tryz.prog 4 #[v0] w fun e w' => e = .returned (.bool true) ∧ Below w.heap.size w w' := by
  obtain ⟨a0A0, a0n0, a0c0, rfl⟩ : ∃ a0A0 a0n0 a0c0, v0 = .agg #[.slice a0A0 a0n0 a0c0] := by obtain ⟨cs, rfl, ⟨A0, n0, c0, rfl, _⟩⟩ := R0; exact ⟨A0, n0, c0, rfl⟩
  by_cases d0 : (szNet x : Int) ≤ 1048576
  case neg =>
    have T := Below.refl w.heap.size w
    have T : Below w.heap.size w (w.alloc (.cells #[.slice a0A0 a0n0 a0c0] 24)) := T.alloc (by first | exact Nat.le_refl _ | (simp; done) | (simp; omega)) _
    have B0 : Blk (w.alloc (.cells #[.slice a0A0 a0n0 a0c0] 24)) (w.heap.size) 24 #[.slice a0A0 a0n0 a0c0] := by have := Blk.new w 24 #[.slice a0A0 a0n0 a0c0]; simpa using this
    have zb0 : (w.alloc (.cells #[.slice a0A0 a0n0 a0c0] 24)).heap.size = w.heap.size + 1 := by simp
    go_enter Tryz.func4, Tryz.ntmps4
    go_wp2_with fail
    refine (szNet_v _ x (1048576) _ (R0.below netRd_ok T) T.size (by omega) (by omega)).mono ?_
    rw [szL_neg (by omega)]
    rintro e w1 ⟨rfl, b1⟩
    have z1 := b1.size
    have B0 := B0.below b1 (by omega)
    have T := T.trans (b1.mono (by omega))
    have gB0 := B0.cell
    go_wp2_with fail
    go_ret
    exact ⟨rfl, T⟩
  have s0 : szNet x ≤ 1048576 := by omega
  have sr := canonicalNet_sz x s0
  have T := Below.refl w.heap.size w
  have T : Below w.heap.size w (w.alloc (.cells #[.slice a0A0 a0n0 a0c0] 24)) := T.alloc (by first | exact Nat.le_refl _ | (simp; done) | (simp; omega)) _
  have B0 : Blk (w.alloc (.cells #[.slice a0A0 a0n0 a0c0] 24)) (w.heap.size) 24 #[.slice a0A0 a0n0 a0c0] := by have := Blk.new w 24 #[.slice a0A0 a0n0 a0c0]; simpa using this
  have zb0 : (w.alloc (.cells #[.slice a0A0 a0n0 a0c0] 24)).heap.size = w.heap.size + 1 := by simp
  go_enter Tryz.func4, Tryz.ntmps4
  go_wp2_with fail
  refine (szNet_v _ x (1048576) _ (R0.below netRd_ok T) T.size (by omega) (by omega)).mono ?_
  rw [szL_pos (by omega)]
  rintro e w1 ⟨rfl, b1⟩
  have z1 := b1.size
  have B0 := B0.below b1 (by omega)
  have T := T.trans (b1.mono (by omega))
  have gB0 := B0.cell
  go_wp2_with fail
  refine (toNet_v _ x _ (R0.below netRd_ok T) T.size s0).mono ?_
  rintro e w2 ⟨⟨t1, rfl, p2⟩, b2⟩
  have z2 := b2.size
  have B0 := B0.below b2 (by omega)
  have T := T.trans (b2.mono (by omega))
  clear gB0
  have gB0 := B0.cell
  go_wp2_with fail
  refine (specCanonicalNet_v _ x _ (p2.reads (netOw_reads (w2).heap.size) (by omega)) (Nat.le_refl _) s0).mono ?_
  rintro e w3 ⟨⟨u4, rfl, G3⟩, b3⟩
  have z3 := b3.size
  have B0 := B0.below b3 (by omega)
  have p2 := p2.below netOw_ok b3 (by omega)
  have T := T.trans (b3.mono (by omega))
  clear gB0
  have gB0 := B0.cell
  clear p2
  obtain ⟨l6A0, l6n0, l6c0, rfl⟩ : ∃ l6A0 l6n0 l6c0, u4 = .agg #[.slice l6A0 l6n0 l6c0] := by obtain ⟨cs, bs, rfl, ⟨A0, n0, c0, b0, rfl, _⟩, _⟩ := G3; exact ⟨A0, n0, c0, rfl⟩
  have b4 : Below w3.heap.size w3 (w3.alloc (.cells #[.slice l6A0 l6n0 l6c0] 31)) := (Below.refl _ _).alloc (Nat.le_refl _) _
  have z4 : (w3.alloc (.cells #[.slice l6A0 l6n0 l6c0] 31)).heap.size = w3.heap.size + 1 := World.size_alloc _ _
  have B0 := B0.below b4 (by omega)
  have G3 := G3.below netOw_ok b4 (by omega)
  have T := T.trans (b4.mono (by omega))
  have X5 : Blk (w3.alloc (.cells #[.slice l6A0 l6n0 l6c0] 31)) w3.heap.size 31 #[.slice l6A0 l6n0 l6c0] := Blk.new _ _ _
  clear gB0
  have gB0 := B0.cell
  have gX5 := X5.cell
  go_wp2_with fail
  refine (toNet_v _ x _ (R0.below netRd_ok T) T.size s0).mono ?_
  rintro e w5 ⟨⟨t7, rfl, p8⟩, b5⟩
  have z5 := b5.size
  have B0 := B0.below b5 (by omega)
  have X5 := X5.below b5 (by omega)
  have G3 := G3.below netOw_ok b5 (by omega)
  have T := T.trans (b5.mono (by omega))
  clear gB0
  clear gX5
  have gB0 := B0.cell
  have gX5 := X5.cell
  obtain ⟨l10A0, l10n0, l10c0, rfl⟩ : ∃ l10A0 l10n0 l10c0, t7 = .agg #[.slice l10A0 l10n0 l10c0] := by obtain ⟨cs, bs, rfl, ⟨A0, n0, c0, b0, rfl, _⟩, _⟩ := p8; exact ⟨A0, n0, c0, rfl⟩
  have b6 : Below w5.heap.size w5 (w5.alloc (.cells #[.slice l10A0 l10n0 l10c0] 31)) := (Below.refl _ _).alloc (Nat.le_refl _) _
  have z6 : (w5.alloc (.cells #[.slice l10A0 l10n0 l10c0] 31)).heap.size = w5.heap.size + 1 := World.size_alloc _ _
  have B0 := B0.below b6 (by omega)
  have X5 := X5.below b6 (by omega)
  have G3 := G3.below netOw_ok b6 (by omega)
  have p8 := p8.below netOw_ok b6 (by omega)
  have T := T.trans (b6.mono (by omega))
  have X9 : Blk (w5.alloc (.cells #[.slice l10A0 l10n0 l10c0] 31)) w5.heap.size 31 #[.slice l10A0 l10n0 l10c0] := Blk.new _ _ _
  clear gB0
  clear gX5
  have gB0 := B0.cell
  have gX5 := X5.cell
  have gX9 := X9.cell
  go_wp2_with fail
  refine (implCanonicalNet_v _ x _ (p8.reads (netOw_reads ((w5.alloc (.cells #[.slice l10A0 l10n0 l10c0] 31))).heap.size) (by omega)) (Nat.le_refl _) s0).mono ?_
  rintro e w7 ⟨⟨u12, rfl, G11⟩, b7⟩
  have z7 := b7.size
  have B0 := B0.below b7 (by omega)
  have X5 := X5.below b7 (by omega)
  have X9 := X9.below b7 (by omega)
  have G3 := G3.below netOw_ok b7 (by omega)
  have p8 := p8.below netOw_ok b7 (by omega)
  have T := T.trans (b7.mono (by omega))
  clear gB0
  clear gX5
  clear gX9
  have gB0 := B0.cell
  have gX5 := X5.cell
  have gX9 := X9.cell
  obtain ⟨l14A0, l14n0, l14c0, rfl⟩ : ∃ l14A0 l14n0 l14c0, u12 = .agg #[.slice l14A0 l14n0 l14c0] := by obtain ⟨cs, bs, rfl, ⟨A0, n0, c0, b0, rfl, _⟩, _⟩ := G11; exact ⟨A0, n0, c0, rfl⟩
  have b8 : Below w7.heap.size w7 (w7.alloc (.cells #[.slice l14A0 l14n0 l14c0] 31)) := (Below.refl _ _).alloc (Nat.le_refl _) _
  have z8 : (w7.alloc (.cells #[.slice l14A0 l14n0 l14c0] 31)).heap.size = w7.heap.size + 1 := World.size_alloc _ _
  have B0 := B0.below b8 (by omega)
  have X5 := X5.below b8 (by omega)
  have X9 := X9.below b8 (by omega)
  have G3 := G3.below netOw_ok b8 (by omega)
  have p8 := p8.below netOw_ok b8 (by omega)
  have G11 := G11.below netOw_ok b8 (by omega)
  have T := T.trans (b8.mono (by omega))
  have X13 : Blk (w7.alloc (.cells #[.slice l14A0 l14n0 l14c0] 31)) w7.heap.size 31 #[.slice l14A0 l14n0 l14c0] := Blk.new _ _ _
  clear gB0
  clear gX5
  clear gX9
  have gB0 := B0.cell
  have gX5 := X5.cell
  have gX9 := X9.cell
  have gX13 := X13.cell
  go_wp2_with fail
  refine (eqNet_v _ _ _ _ _ (G11.reads (netOw_reads ((w7.alloc (.cells #[.slice l14A0 l14n0 l14c0] 31))).heap.size) (by omega)) (G3.reads (netOw_reads ((w7.alloc (.cells #[.slice l14A0 l14n0 l14c0] 31))).heap.size) (by omega)) (Nat.le_refl _) (Nat.le_refl _)).mono ?_
  rintro e w9 ⟨rfl, b9⟩
  have z9 := b9.size
  have B0 := B0.below b9 (by omega)
  have X5 := X5.below b9 (by omega)
  have X9 := X9.below b9 (by omega)
  have X13 := X13.below b9 (by omega)
  have G3 := G3.below netOw_ok b9 (by omega)
  have p8 := p8.below netOw_ok b9 (by omega)
  have G11 := G11.below netOw_ok b9 (by omega)
  have T := T.trans (b9.mono (by omega))
  clear gB0
  clear gX5
  clear gX9
  clear gX13
  have gB0 := B0.cell
  have gX5 := X5.cell
  have gX9 := X9.cell
  have gX13 := X13.cell
  go_wp2_with fail
  have T := T.drew
  have B0 := B0.drew
  have X5 := X5.drew
  have X9 := X9.drew
  have X13 := X13.drew
  have G3 := G3.keep netOw_ok (w' := w9.drew) (fun _ _ _ => rfl)
  have p8 := p8.keep netOw_ok (w' := w9.drew) (fun _ _ _ => rfl)
  have G11 := G11.keep netOw_ok (w' := w9.drew) (fun _ _ _ => rfl)
  have zd10 : w9.drew.heap.size = w9.heap.size := rfl
  go_region_held3 (fun w' => w'.cell? ⟨w5.heap.size, 0, none⟩ = some (.slice l10A0 l10n0 l10c0) ∧ w'.cell? ⟨w.heap.size, 0, none⟩ = some (.slice a0A0 a0n0 a0c0)) (exact ⟨gX9 0, gB0 0⟩) (first
    | (go_at_call 9; refine (toNet_v _ x _ (R0.below netRd_ok T) T.size s0).mono ?_; rintro e w11 ⟨⟨t15, rfl, p16⟩, b11⟩; have z11 := b11.size; have B0 := B0.below b11 (by omega); have X5 := X5.below b11 (by omega); have X9 := X9.below b11 (by omega); have X13 := X13.below b11 (by omega); have G3 := G3.below netOw_ok b11 (by omega); have p8 := p8.below netOw_ok b11 (by omega); have G11 := G11.below netOw_ok b11 (by omega); have T := T.trans (b11.mono (by omega)); clear gB0; clear gX5; clear gX9; clear gX13; have gB0 := B0.cell; have gX5 := X5.cell; have gX9 := X9.cell; have gX13 := X13.cell)
    | (go_at_call 12; refine (eqNet_v _ _ _ _ _ (p8.reads (netOw_reads (w11).heap.size) (by omega)) (p16.reads (netOw_reads (w11).heap.size) (by omega)) (Nat.le_refl _) (Nat.le_refl _)).mono ?_; rintro e w12 ⟨rfl, b12⟩; have z12 := b12.size; have B0 := B0.below b12 (by omega); have X5 := X5.below b12 (by omega); have X9 := X9.below b12 (by omega); have X13 := X13.below b12 (by omega); have G3 := G3.below netOw_ok b12 (by omega); have p8 := p8.below netOw_ok b12 (by omega); have G11 := G11.below netOw_ok b12 (by omega); have p16 := p16.below netOw_ok b12 (by omega); have T := T.trans (b12.mono (by omega)); clear gB0; clear gX5; clear gX9; clear gX13; have gB0 := B0.cell; have gX5 := X5.cell; have gX9 := X9.cell; have gX13 := X13.cell))
  go_wp2_with fail
  refine (markNet_v _ _ _ _ _ _ p8 (by omega) s0 (by omega) (by omega)).mono ?_
  rintro e w13 ⟨m17, rfl, wb13, b13, e13, b14⟩
  clear p8
  have z13 := b13.size
  have B0 := B0.below b13 (by omega)
  have X5 := X5.below b13 (by omega)
  have X9 := X9.below b13 (by omega)
  have X13 := X13.below b13 (by omega)
  have G3 := G3.below netOw_ok b13 (by omega)
  have G11 := G11.below netOw_ok b13 (by omega)
  have p16 := p16.below netOw_ok b13 (by omega)
  have T := T.trans (b13.mono (by omega))
  have z14 := Nat.le_of_eq e13
  have y14 := Nat.le_of_eq e13.symm
  have B0 := B0.only b14 (by omega)
  have X5 := X5.only b14 (by omega)
  have X9 := X9.only b14 (by omega)
  have X13 := X13.only b14 (by omega)
  have G3 := G3.only netOw_ok b14 (by omega)
  have G11 := G11.only netOw_ok b14 (by omega)
  have p16 := p16.only netOw_ok b14 (by omega)
  have T := T.trans (b14.below.mono (by omega))
  have hm17 : decide ((m17 : Int) < 0) = false := by simp
  clear gB0
  clear gX5
  clear gX9
  clear gX13
  have gB0 := B0.cell
  have gX5 := X5.cell
  have gX9 := X9.cell
  have gX13 := X13.cell
  go_wp2_with fail
  refine (eqNet_v _ _ _ _ _ (G11.reads (netOw_reads (w13).heap.size) (by omega)) (G3.reads (netOw_reads (w13).heap.size) (by omega)) (Nat.le_refl _) (Nat.le_refl _)).mono ?_
  rintro e w15 ⟨rfl, b15⟩
  have z15 := b15.size
  have B0 := B0.below b15 (by omega)
  have X5 := X5.below b15 (by omega)
  have X9 := X9.below b15 (by omega)
  have X13 := X13.below b15 (by omega)
  have G3 := G3.below netOw_ok b15 (by omega)
  have G11 := G11.below netOw_ok b15 (by omega)
  have p16 := p16.below netOw_ok b15 (by omega)
  have T := T.trans (b15.mono (by omega))
  clear gB0
  clear gX5
  clear gX9
  clear gX13
  have gB0 := B0.cell
  have gX5 := X5.cell
  have gX9 := X9.cell
  have gX13 := X13.cell
  go_wp2_with fail
  obtain ⟨mq, emq⟩ : ∃ m : Nat, m = (1 : Int).toNat + cntL cntA ((canonicalNet x).1).agents := ⟨_, rfl⟩
  have hmq : decide ((mq : Int) < 0) = false := by simp
  refine (markNet_r _ _ _ _ _ _ mq emq G11 (by omega) sr (by omega) (by omega)).mono ?_
  rintro e w16 ⟨rfl, wb16, b16, e16, b17, G11⟩
  have z16 := b16.size
  have B0 := B0.below b16 (by omega)
  have X5 := X5.below b16 (by omega)
  have X9 := X9.below b16 (by omega)
  have X13 := X13.below b16 (by omega)
  have G3 := G3.below netOw_ok b16 (by omega)
  have p16 := p16.below netOw_ok b16 (by omega)
  have T := T.trans (b16.mono (by omega))
  have z17 := Nat.le_of_eq e16
  have y17 := Nat.le_of_eq e16.symm
  have B0 := B0.only b17 (by omega)
  have X5 := X5.only b17 (by omega)
  have X9 := X9.only b17 (by omega)
  have X13 := X13.only b17 (by omega)
  have G3 := G3.only netOw_ok b17 (by omega)
  have p16 := p16.only netOw_ok b17 (by omega)
  have T := T.trans (b17.below.mono (by omega))
  clear gB0
  clear gX5
  clear gX9
  clear gX13
  have gB0 := B0.cell
  have gX5 := X5.cell
  have gX9 := X9.cell
  have gX13 := X13.cell
  go_wp2_with fail
  refine (heldNet_r _ ((canonicalNet x).1) _ _ mq emq (G11.reads (netOw_reads (w16).heap.size) (by omega)) (Nat.le_refl _) sr (by omega) (by omega)).mono ?_
  rintro e w18 ⟨rfl, b18⟩
  have z18 := b18.size
  have B0 := B0.below b18 (by omega)
  have X5 := X5.below b18 (by omega)
  have X9 := X9.below b18 (by omega)
  have X13 := X13.below b18 (by omega)
  have G3 := G3.below netOw_ok b18 (by omega)
  have G11 := G11.below netOw_ok b18 (by omega)
  have p16 := p16.below netOw_ok b18 (by omega)
  have T := T.trans (b18.mono (by omega))
  clear gB0
  clear gX5
  clear gX9
  clear gX13
  have gB0 := B0.cell
  have gX5 := X5.cell
  have gX9 := X9.cell
  have gX13 := X13.cell
  go_wp2_with fail
  refine (toNet_v _ x _ (R0.below netRd_ok T) T.size s0).mono ?_
  rintro e w19 ⟨⟨t18, rfl, p19⟩, b19⟩
  have z19 := b19.size
  have B0 := B0.below b19 (by omega)
  have X5 := X5.below b19 (by omega)
  have X9 := X9.below b19 (by omega)
  have X13 := X13.below b19 (by omega)
  have G3 := G3.below netOw_ok b19 (by omega)
  have G11 := G11.below netOw_ok b19 (by omega)
  have p16 := p16.below netOw_ok b19 (by omega)
  have T := T.trans (b19.mono (by omega))
  clear gB0
  clear gX5
  clear gX9
  clear gX13
  have gB0 := B0.cell
  have gX5 := X5.cell
  have gX9 := X9.cell
  have gX13 := X13.cell
  go_wp2_with fail
  refine (implCanonicalNet_v _ x _ (p19.reads (netOw_reads (w19).heap.size) (by omega)) (Nat.le_refl _) s0).mono ?_
  rintro e w20 ⟨⟨u21, rfl, G20⟩, b20⟩
  have z20 := b20.size
  have B0 := B0.below b20 (by omega)
  have X5 := X5.below b20 (by omega)
  have X9 := X9.below b20 (by omega)
  have X13 := X13.below b20 (by omega)
  have G3 := G3.below netOw_ok b20 (by omega)
  have G11 := G11.below netOw_ok b20 (by omega)
  have p16 := p16.below netOw_ok b20 (by omega)
  have p19 := p19.below netOw_ok b20 (by omega)
  have T := T.trans (b20.mono (by omega))
  clear gB0
  clear gX5
  clear gX9
  clear gX13
  have gB0 := B0.cell
  have gX5 := X5.cell
  have gX9 := X9.cell
  have gX13 := X13.cell
  clear p19
  obtain ⟨l23A0, l23n0, l23c0, rfl⟩ : ∃ l23A0 l23n0 l23c0, u21 = .agg #[.slice l23A0 l23n0 l23c0] := by obtain ⟨cs, bs, rfl, ⟨A0, n0, c0, b0, rfl, _⟩, _⟩ := G20; exact ⟨A0, n0, c0, rfl⟩
  have b21 : Below w20.heap.size w20 (w20.alloc (.cells #[.slice l23A0 l23n0 l23c0] 31)) := (Below.refl _ _).alloc (Nat.le_refl _) _
  have z21 : (w20.alloc (.cells #[.slice l23A0 l23n0 l23c0] 31)).heap.size = w20.heap.size + 1 := World.size_alloc _ _
  have B0 := B0.below b21 (by omega)
  have X5 := X5.below b21 (by omega)
  have X9 := X9.below b21 (by omega)
  have X13 := X13.below b21 (by omega)
  have G3 := G3.below netOw_ok b21 (by omega)
  have G11 := G11.below netOw_ok b21 (by omega)
  have p16 := p16.below netOw_ok b21 (by omega)
  have G20 := G20.below netOw_ok b21 (by omega)
  have T := T.trans (b21.mono (by omega))
  have X22 : Blk (w20.alloc (.cells #[.slice l23A0 l23n0 l23c0] 31)) w20.heap.size 31 #[.slice l23A0 l23n0 l23c0] := Blk.new _ _ _
  clear gB0
  clear gX5
  clear gX9
  clear gX13
  have gB0 := B0.cell
  have gX5 := X5.cell
  have gX9 := X9.cell
  have gX13 := X13.cell
  have gX22 := X22.cell
  go_wp2_with fail
  refine (eqNet_v _ _ _ _ _ (G20.reads (netOw_reads ((w20.alloc (.cells #[.slice l23A0 l23n0 l23c0] 31))).heap.size) (by omega)) (G3.reads (netOw_reads ((w20.alloc (.cells #[.slice l23A0 l23n0 l23c0] 31))).heap.size) (by omega)) (Nat.le_refl _) (Nat.le_refl _)).mono ?_
  rintro e w22 ⟨rfl, b22⟩
  have z22 := b22.size
  have B0 := B0.below b22 (by omega)
  have X5 := X5.below b22 (by omega)
  have X9 := X9.below b22 (by omega)
  have X13 := X13.below b22 (by omega)
  have X22 := X22.below b22 (by omega)
  have G3 := G3.below netOw_ok b22 (by omega)
  have G11 := G11.below netOw_ok b22 (by omega)
  have p16 := p16.below netOw_ok b22 (by omega)
  have G20 := G20.below netOw_ok b22 (by omega)
  have T := T.trans (b22.mono (by omega))
  clear gB0
  clear gX5
  clear gX9
  clear gX13
  clear gX22
  have gB0 := B0.cell
  have gX5 := X5.cell
  have gX9 := X9.cell
  have gX13 := X13.cell
  have gX22 := X22.cell
  go_wp2_with fail
  refine (heldNet_r _ ((canonicalNet x).1) _ _ mq emq (G11.reads (netOw_reads (w22).heap.size) (by omega)) (Nat.le_refl _) sr (by omega) (by omega)).mono ?_
  rintro e w23 ⟨rfl, b23⟩
  have z23 := b23.size
  have B0 := B0.below b23 (by omega)
  have X5 := X5.below b23 (by omega)
  have X9 := X9.below b23 (by omega)
  have X13 := X13.below b23 (by omega)
  have X22 := X22.below b23 (by omega)
  have G3 := G3.below netOw_ok b23 (by omega)
  have G11 := G11.below netOw_ok b23 (by omega)
  have p16 := p16.below netOw_ok b23 (by omega)
  have G20 := G20.below netOw_ok b23 (by omega)
  have T := T.trans (b23.mono (by omega))
  clear gB0
  clear gX5
  clear gX9
  clear gX13
  clear gX22
  have gB0 := B0.cell
  have gX5 := X5.cell
  have gX9 := X9.cell
  have gX13 := X13.cell
  have gX22 := X22.cell
  go_wp2_with fail
  go_ret
  exact ⟨rfl, T⟩
end
section
open Go.RowKit Go.ChangeShapes Go.WideShapes Go.Deep Go.WideMaps
set_option linter.unusedVariables false
def Opens {α : Type} (P : Program) (t : TypeId) (R : Rd α) : Prop := ∀ (H : Type) (enc : TypeId × Value → H) (W : World) (fuel : Nat) (cs : List Value) (x : DataW H × List MemPlace),
  DataW.trod enc P W 0 (fun _ => true) true fuel t cs = some x → ∃ d, R W W.heap.size cs d
theorem opens_int {P : Program} {t : TypeId} (ht : P.underlying t = some (.int .i64)) : Opens P t intRd := fun H enc W fuel cs x h => by
  obtain ⟨n, hc, _, _⟩ := DataW.trod_int ht h
  exact ⟨n, hc⟩
theorem spot_none {w : World} {a : Addr} {v : Value} (h : w.cell? a = some v) : a.spot = none := by
  unfold World.cell? at h
  split at h
  · cases hs : a.spot with
    | none => rfl
    | some s => simp [hs] at h
  · simp at h
theorem opens_slice {α : Type} {P : Program} {t e : TypeId} {R : Rd α} {sz : Nat} (ht : P.underlying t = some (.slice e)) (hsz : P.cellsOf e = sz) (hpos : 0 < sz) (ok : RdOk R sz) (he : Opens P e R) : Opens P t (slRd R sz) := fun H enc W fuel cs x h => by
  rcases open_slice ht h with ⟨rfl, rfl⟩ | ⟨a, len, cap, m, n, D, Pl, rfl, hb, hl, hm, hmm, hx, hel⟩
  · exact ⟨[], none, 0, 0, rfl, SlAt.none_, Nat.le_refl _, Nat.zero_le _⟩
  · have hmc : len ≤ m := by rw [hmm]; simp; omega
    have hel' : ∀ i, i < len → ∃ p : List Value × α, R W W.heap.size p.1 p.2 ∧ ∀ j, j < sz → W.cell? (a.add (i * sz + j)) = p.1[j]? := fun i hi => by
      obtain ⟨cs', hc, htr⟩ := hel i (by omega)
      obtain ⟨d, hd⟩ := he H enc W n cs' (D i, Pl i) htr
      obtain ⟨_, hlen, hat⟩ := World.cells?_some hc
      exact ⟨(cs', d), hd, fun j hj => by
        have := hat j (by rw [hsz]; exact hj)
        rw [hsz, Go.Deep.add_add] at this
        exact this⟩
    rcases Nat.eq_zero_or_pos len with h0 | h0
    · subst h0
      exact ⟨[], some a, 0, cap, rfl, SlAt.none_, Nat.zero_le _, hm⟩
    · have hne : Nonempty (List Value × α) := let ⟨p, _⟩ := hel' 0 h0; ⟨p⟩
      have hf : ∃ f : Nat → List Value × α, ∀ i, i < len → R W W.heap.size (f i).1 (f i).2 ∧ ∀ j, j < sz → W.cell? (a.add (i * sz + j)) = (f i).1[j]? := by
        classical
        refine ⟨fun i => if hi : i < len then Classical.choose (hel' i hi) else Classical.choice hne, fun i hi => ?_⟩
        simp only [dif_pos hi]
        exact Classical.choose_spec (hel' i hi)
      obtain ⟨f, hf⟩ := hf
      have hc0 : ∃ v, W.cell? a = some v := by
        obtain ⟨hR, hc⟩ := hf 0 h0
        have hlR := ok.len hR
        have h1 := hc 0 hpos
        have h2 : a.add (0 * sz + 0) = a := by simp [Addr.add]
        rw [h2, List.getElem?_eq_getElem (by omega)] at h1
        exact ⟨_, h1⟩
      obtain ⟨v0, hv0⟩ := hc0
      have hsp := spot_none hv0
      have hbl := World.block_lt_of_cell? _ _ hv0
      have ea : a = ⟨a.block, a.off, none⟩ := by cases a; simp_all
      refine ⟨(List.range len).map fun i => (f i).2, some a, len, cap, rfl, ⟨by simp, fun _ => ⟨a.block, a.off, by rw [← ea], hbl, fun i x hx => ?_⟩⟩, hl, hm⟩
      have hi : i < len := by simpa using lt_of_some hx
      have hx' : (f i).2 = x := by simpa [hi] using hx
      subst hx'
      obtain ⟨hR, hc⟩ := hf i hi
      refine ⟨_, hR, fun j v hj => ?_⟩
      have hj' : j < sz := by have := lt_of_some hj; rw [ok.len hR] at this; exact this
      have h1 := hc j hj'
      rw [hj] at h1
      have e2 : a.add (i * sz + j) = ⟨a.block, a.off + i * sz + j, none⟩ := by
        rw [ea]; simp only [Addr.add_lit]; congr 1; omega
      rw [← e2]
      exact h1
/-- An argument's value as its cells. -/
theorem opens_arg {α : Type} {P : Program} {t : TypeId} {R : Rd α} (h : Opens P t R) {H : Type} {enc : TypeId × Value → H} {W : World} {v : Value} {d : DataW H} {ps : List MemPlace} (ht : DataW.Trod enc P W 0 (fun _ => true) true t v d ps) : ∃ x, R W W.heap.size v.cells.toList x := by
  obtain ⟨fuel, hf⟩ := ht
  exact h H enc W fuel _ _ hf
end
section
open Go.RowKit
theorem opens_ints : Opens Tryz.prog 26 (slRd intRd 1) := opens_slice Tryz.underlying26 (by kernel_rfl) (by decide) intRd_ok (opens_int Tryz.underlying2)
end
section
open Go.RowKit Go.ChangeShapes Go.WideShapes Go.Deep Go.WideMaps
set_option linter.unusedVariables false
set_option linter.unusedSimpArgs false
theorem trod_fields {P : Program} {t : TypeId} {fs : Array Field} {H : Type} {enc : TypeId × Value → H} {W : World} {fuel : Nat} {cs : List Value} {x : DataW H × List MemPlace} (ht : P.underlying t = some (.struct fs)) (h : DataW.trod enc P W 0 (fun _ => true) true fuel t cs = some x) :
    cs.length = P.cellsOf t ∧ ∃ n, ∀ (i : Nat) (f : Field), fs[i]? = some f → ∃ y, DataW.trod enc P W 0 (fun _ => true) true n f.type ((cs.drop f.offset).take (P.cellsOf f.type)) = some y := by
  obtain ⟨xs, n, _, _, hl, hlen, hf⟩ := DataW.trod_struct ht h
  refine ⟨hl, n, fun i f hi => ?_⟩
  have hlt : i < fs.size := (Array.getElem?_eq_some_iff.1 hi).1
  exact ⟨xs[i], by rw [hf i f hi]; exact List.getElem?_eq_getElem (by omega)⟩
/-- A struct argument. -/
theorem open_st {α : Type} {P : Program} {t : TypeId} {fs : Array Field} {R : Rd α} (h : Opens P t R) (ht : P.underlying t = some (.struct fs)) {r : Reach} {b0 : Nat} {H : Type} {enc : TypeId × Value → H} {W : World} {v : Value} {d : DataW H} {ps : List MemPlace}
    (hv : Value.okWide P W r b0 t v) (hd : DataW.Trod enc P W 0 (fun _ => true) true t v d ps) : ∃ x, RdT R W W.heap.size v x := by
  obtain ⟨cs, rfl, _⟩ := okWide_struct ht hv
  obtain ⟨x, hx⟩ := opens_arg h hd
  exact ⟨x, cs.toList, by simp, by simpa [Value.cells] using hx⟩
theorem len1 {α : Type} {l : List α} (h : l.length = 1) : ∃ a0, l = [a0] := by
  match l, h with
  | [a0], _ => exact ⟨a0, rfl⟩
theorem len2 {α : Type} {l : List α} (h : l.length = 2) : ∃ a0 a1, l = [a0, a1] := by
  match l, h with
  | [a0, a1], _ => exact ⟨a0, a1, rfl⟩
theorem len5 {α : Type} {l : List α} (h : l.length = 5) : ∃ a0 a1 a2 a3 a4, l = [a0, a1, a2, a3, a4] := by
  match l, h with
  | [a0, a1, a2, a3, a4], _ => exact ⟨a0, a1, a2, a3, a4, rfl⟩
theorem opens_Port : Opens Tryz.prog 116 portRd := fun H enc W fuel cs x h => by
  obtain ⟨hl, m, hf⟩ := trod_fields Tryz.underlying116 h
  replace hl : cs.length = 2 := hl.trans (by kernel_rfl)
  obtain ⟨a0, a1, rfl⟩ := len2 hl
  obtain ⟨y0, h0⟩ : ∃ y, DataW.trod enc Tryz.prog W 0 (fun _ => true) true m 2 (([a0, a1].drop 0).take (Tryz.prog.cellsOf 2)) = some y := hf 0 _ rfl
  have k0 : Tryz.prog.cellsOf 2 = 1 := by kernel_rfl
  rw [k0] at h0; simp only [List.drop_zero, List.drop_succ_cons, List.take_succ_cons, List.take_zero] at h0
  obtain ⟨d0, e0⟩ := opens_int Tryz.underlying2 H enc W _ _ _ h0
  unfold intRd at e0; simp only [List.cons.injEq, and_true] at e0
  obtain ⟨y1, h1⟩ : ∃ y, DataW.trod enc Tryz.prog W 0 (fun _ => true) true m 2 (([a0, a1].drop 1).take (Tryz.prog.cellsOf 2)) = some y := hf 1 _ rfl
  have k1 : Tryz.prog.cellsOf 2 = 1 := by kernel_rfl
  rw [k1] at h1; simp only [List.drop_zero, List.drop_succ_cons, List.take_succ_cons, List.take_zero] at h1
  obtain ⟨d1, e1⟩ := opens_int Tryz.underlying2 H enc W _ _ _ h1
  unfold intRd at e1; simp only [List.cons.injEq, and_true] at e1
  subst e0; subst e1
  exact ⟨⟨d0, d1⟩, rfl⟩
theorem opens_PortS : Opens Tryz.prog 56 (slRd portRd 2) := opens_slice Tryz.underlying56 (by kernel_rfl) (by decide) portRd_ok opens_Port
theorem opens_Agent : Opens Tryz.prog 58 agentRd := fun H enc W fuel cs x h => by
  obtain ⟨hl, m, hf⟩ := trod_fields Tryz.underlying58 h
  replace hl : cs.length = 5 := hl.trans (by kernel_rfl)
  obtain ⟨a0, a1, a2, a3, a4, rfl⟩ := len5 hl
  obtain ⟨y0, h0⟩ : ∃ y, DataW.trod enc Tryz.prog W 0 (fun _ => true) true m 2 (([a0, a1, a2, a3, a4].drop 0).take (Tryz.prog.cellsOf 2)) = some y := hf 0 _ rfl
  have k0 : Tryz.prog.cellsOf 2 = 1 := by kernel_rfl
  rw [k0] at h0; simp only [List.drop_zero, List.drop_succ_cons, List.take_succ_cons, List.take_zero] at h0
  obtain ⟨d0, e0⟩ := opens_int Tryz.underlying2 H enc W _ _ _ h0
  unfold intRd at e0; simp only [List.cons.injEq, and_true] at e0
  obtain ⟨y1, h1⟩ : ∃ y, DataW.trod enc Tryz.prog W 0 (fun _ => true) true m 2 (([a0, a1, a2, a3, a4].drop 1).take (Tryz.prog.cellsOf 2)) = some y := hf 1 _ rfl
  have k1 : Tryz.prog.cellsOf 2 = 1 := by kernel_rfl
  rw [k1] at h1; simp only [List.drop_zero, List.drop_succ_cons, List.take_succ_cons, List.take_zero] at h1
  obtain ⟨d1, e1⟩ := opens_int Tryz.underlying2 H enc W _ _ _ h1
  unfold intRd at e1; simp only [List.cons.injEq, and_true] at e1
  obtain ⟨y2, h2⟩ : ∃ y, DataW.trod enc Tryz.prog W 0 (fun _ => true) true m 2 (([a0, a1, a2, a3, a4].drop 2).take (Tryz.prog.cellsOf 2)) = some y := hf 2 _ rfl
  have k2 : Tryz.prog.cellsOf 2 = 1 := by kernel_rfl
  rw [k2] at h2; simp only [List.drop_zero, List.drop_succ_cons, List.take_succ_cons, List.take_zero] at h2
  obtain ⟨d2, e2⟩ := opens_int Tryz.underlying2 H enc W _ _ _ h2
  unfold intRd at e2; simp only [List.cons.injEq, and_true] at e2
  obtain ⟨y3, h3⟩ : ∃ y, DataW.trod enc Tryz.prog W 0 (fun _ => true) true m 26 (([a0, a1, a2, a3, a4].drop 3).take (Tryz.prog.cellsOf 26)) = some y := hf 3 _ rfl
  have k3 : Tryz.prog.cellsOf 26 = 1 := by kernel_rfl
  rw [k3] at h3; simp only [List.drop_zero, List.drop_succ_cons, List.take_succ_cons, List.take_zero] at h3
  obtain ⟨d3, A3, n3, c3, e3, g3, r3⟩ := opens_ints H enc W _ _ _ h3
  simp only [List.cons.injEq, and_true] at e3
  obtain ⟨y4, h4⟩ : ∃ y, DataW.trod enc Tryz.prog W 0 (fun _ => true) true m 56 (([a0, a1, a2, a3, a4].drop 4).take (Tryz.prog.cellsOf 56)) = some y := hf 4 _ rfl
  have k4 : Tryz.prog.cellsOf 56 = 1 := by kernel_rfl
  rw [k4] at h4; simp only [List.drop_zero, List.drop_succ_cons, List.take_succ_cons, List.take_zero] at h4
  obtain ⟨d4, A4, n4, c4, e4, g4, r4⟩ := opens_PortS H enc W _ _ _ h4
  simp only [List.cons.injEq, and_true] at e4
  subst e0; subst e1; subst e2; subst e3; subst e4
  exact ⟨⟨d0, d1, d2, d3, d4⟩, A3, n3, c3, A4, n4, c4, rfl, ⟨g3, r3⟩, ⟨g4, r4⟩⟩
theorem opens_AgentS : Opens Tryz.prog 22 (slRd agentRd 5) := opens_slice Tryz.underlying22 (by kernel_rfl) (by decide) agentRd_ok opens_Agent
theorem opens_Net : Opens Tryz.prog 24 netRd := fun H enc W fuel cs x h => by
  obtain ⟨hl, m, hf⟩ := trod_fields Tryz.underlying24 h
  replace hl : cs.length = 1 := hl.trans (by kernel_rfl)
  obtain ⟨a0, rfl⟩ := len1 hl
  obtain ⟨y0, h0⟩ : ∃ y, DataW.trod enc Tryz.prog W 0 (fun _ => true) true m 22 (([a0].drop 0).take (Tryz.prog.cellsOf 22)) = some y := hf 0 _ rfl
  have k0 : Tryz.prog.cellsOf 22 = 1 := by kernel_rfl
  rw [k0] at h0; simp only [List.drop_zero, List.drop_succ_cons, List.take_succ_cons, List.take_zero] at h0
  obtain ⟨d0, A0, n0, c0, e0, g0, r0⟩ := opens_AgentS H enc W _ _ _ h0
  simp only [List.cons.injEq, and_true] at e0
  subst e0
  exact ⟨⟨d0⟩, A0, n0, c0, rfl, ⟨g0, r0⟩⟩
end
section
open Go.ChangeShapes Go.WideShapes Go.ChangeAt Go.RowKit Go.WideElems
set_option linter.unusedVariables false
theorem own : ownKnob Tryz.prog.godebug = none := by kernel_rfl
theorem laid : laidOutB Tryz.prog = true := by kernel_rfl
section
variable {H : Type} {enc : TypeId × Value → H}
theorem trodAll_stays {W W' : World} {sp : Nat → Bool} (hb : Below W.heap.size W W') : ∀ (ts : List TypeId) (vs : List Value) (ds : List (DataW H)) (ps : List MemPlace),
    (∀ t ∈ ts, Tryz.prog.readableRec t = true ∧ t < Tryz.prog.types.size) → DataW.TrodAll enc Tryz.prog W 0 (fun _ => true) true ts vs ds ps →
    (∀ x ∈ ps, x.block < W.heap.size) → (∀ x ∈ ps, sp x.block = true) → DataW.TrodAll enc Tryz.prog W' 0 sp true ts vs ds ps
  | [], [], [], ps, _, h, _, _ => h
  | t :: ts, v :: vs, d :: ds, ps, hts, h, hlt, hsp => by
    obtain ⟨p, q, h1, h2, rfl⟩ := h
    have ht := hts t (by simp)
    exact ⟨p, q, Trod_stays laid ht.1 ht.2 h1 (fun x hx => hb.same (hlt x (by simp [hx]))) (fun x hx => hsp x (by simp [hx])),
      trodAll_stays hb ts vs ds q (fun t' h' => hts t' (by simp [h'])) h2 (fun x hx => hlt x (by simp [hx])) (fun x hx => hsp x (by simp [hx])), rfl⟩
  | [], _ :: _, _, _, _, h, _, _ => h.elim
  | [], [], _ :: _, _, _, h, _, _ => h.elim
  | _ :: _, [], _, _, _, h, _, _ => h.elim
  | _ :: _, _ :: _, [], _, _, h, _, _ => h.elim
theorem post_law {f : Func} {s : ChangeSpec} {W W' : World} {args : Array Value} {ds : List (DataW H)} {before : List MemPlace}
    (hv : s.vars = []) (hr1 : f.resultTypes = #[4])
    (hp0 : (f.params.toList.all fun t => Tryz.prog.readableRec t && decide (t < Tryz.prog.types.size)) = true)
    (hres : (s.fn H (ds ++ [])).results = [.lit (.bool true)]) (hargs : (s.fn H (ds ++ [])).args = ds) (hvars : (s.fn H (ds ++ [])).vars = [])
    (hW : DataW.Whole enc Tryz.prog f.params.toList s.vars false W args.toList ds [] before)
    (hb : Below W.heap.size W W') :
    s.post enc Tryz.prog f false true false false W args (.bool true) W' := by
  have hp : ∀ t ∈ f.params.toList, Tryz.prog.readableRec t = true ∧ t < Tryz.prog.types.size := fun t ht => by simpa using List.all_eq_true.1 hp0 t ht
  have hlt : ∀ p ∈ before, p.block < W.heap.size := fun p hp => hW.lt p hp
  have hold : ∀ p ∈ before, (fun b => decide (b < W.heap.size)) p.block = true := fun p hp => by simpa using hlt p hp
  have hWh := hW
  obtain ⟨p, q, hA, hV, rfl, hfz, _⟩ := hWh
  rw [hv] at hV
  obtain rfl : q = [] := hV
  rw [List.append_nil] at hlt hold
  have hA' : ∀ sp : Nat → Bool, (∀ x ∈ p, sp x.block = true) → DataW.TrodAll enc Tryz.prog W' 0 sp true f.params.toList args.toList ds p := fun sp hsp =>
    trodAll_stays hb _ _ _ _ hp hA hlt hsp
  rw [List.append_nil] at hW
  refine ⟨ds, [], p, [], p, [], hW, ?_, ?_, ?_, World.keptBut_mono (fun x hx => ⟨hx, ?_⟩) (hb.frame (· ∈ p)), fun h => by cases h⟩
  · rw [hres, hr1]
    exact trodAll_cons_mk (shut_bool Tryz.underlying4 _) trodAll_mk0
  · rw [hargs]
    exact hA' _ hold
  · rw [hvars, hv]
    rfl
  · simp [hx]
end
end
end Go.Proofs.YtebioddcnldjkaaGreat
