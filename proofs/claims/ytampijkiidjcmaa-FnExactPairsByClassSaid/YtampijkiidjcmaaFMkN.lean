/- markAgentS and markNet: they write into the blocks of their argument alone. -/
import Derived.Test.YtampijkiidjcmaaFMk4
namespace Go.Proofs.Ytampijkiidjcmaa
open Go.RowKit
set_option linter.unusedVariables false
theorem Blk.only {w w' : World} {g lo hi : Nat} {t : TypeId} {cs : Array Value} (h : Blk w g t cs) (ho : OnlyIn lo hi w w') (hg : g < lo ∨ hi ≤ g) : Blk w' g t cs := (ho.block g hg).trans h
def cntA (x : DAgent) : Nat := 3 + x.data.length + 2 * x.ports.length
theorem cntL_agents (xs : List DAgent) : cntL cntA xs ≤ 3 * szAgentS xs := by
  unfold szAgentS cntL
  have : ∀ ys : List DAgent, (ys.map cntA).sum ≤ 3 * ys.length + 2 * (ys.map szAgent).sum := by
    intro ys
    induction ys with
    | nil => simp
    | cons y ys ih =>
      have e : szAgent y = y.data.length + y.ports.length := rfl
      simp only [List.map_cons, List.sum_cons, List.length_cons, cntA]
      omega
  have := this xs
  omega
theorem szAgent_mem {xs : List DAgent} {k : Nat} {x : DAgent} (h : xs[k]? = some x) (hs : szAgentS xs ≤ 1048576) : x.data.length ≤ 1048576 ∧ x.ports.length ≤ 1048576 := by
  have h1 : szAgent x ≤ (xs.map szAgent).sum := by
    have hm := List.mem_of_getElem? h
    clear h hs
    induction xs with
    | nil => cases hm
    | cons y ys ih =>
      rcases List.mem_cons.1 hm with rfl | h
      · simp
      · have := ih h; simp; omega
  have e : szAgent x = x.data.length + x.ports.length := rfl
  unfold szAgentS at hs
  omega
theorem set3_block {w : World} {b p j : Nat} {u0 u1 u2 : Value} (h : j ≠ b) : (((w.setCell ⟨b, p, none⟩ u0).setCell ⟨b, p + 1, none⟩ u1).setCell ⟨b, p + 2, none⟩ u2).heap[j]? = w.heap[j]? := by
  rw [Below.heap_setCell _ ⟨b, p + 2, none⟩ _ _ h, Below.heap_setCell _ ⟨b, p + 1, none⟩ _ _ h, Below.heap_setCell _ ⟨b, p, none⟩ _ _ h]
theorem set3_cell {w : World} {b p q : Nat} {u0 u1 u2 : Value} (h : p + 3 ≤ q) : (((w.setCell ⟨b, p, none⟩ u0).setCell ⟨b, p + 1, none⟩ u1).setCell ⟨b, p + 2, none⟩ u2).cell? ⟨b, q, none⟩ = w.cell? ⟨b, q, none⟩ := by
  rw [World.cell?_setCell_other _ _ _ _ (fun e => by injection e with _ e2; omega), World.cell?_setCell_other _ _ _ _ (fun e => by injection e with _ e2; omega), World.cell?_setCell_other _ _ _ _ (fun e => by injection e with _ e2; omega)]
/-- What lies ahead of the loop. -/
def Ahead (wr : World) (A : Option Addr) (k : Nat) (rest : List DAgent) (bs : List Nat) : Prop :=
  rest = [] ∨ ∃ b o b2, A = some ⟨b, o, none⟩ ∧ ElAt agentOw 5 wr b (o + k * 5) rest b2 ∧ b ∈ bs ∧ b ∉ b2 ∧ b2.Nodup ∧ ∀ j ∈ b2, j ∈ bs

set_option maxHeartbeats 4000000 in
theorem markAgentS_c (A : Option Addr) (n c k0 : Nat) (xs : List DAgent) (bs : List Nat) (w : World) (hx : OwAt agentOw 5 w A n xs bs) (hnd : bs.Nodup) (hs : szAgentS xs ≤ 1048576) (hk0 : k0 ≤ 4294967296) :
    Calls Try.prog 70 #[.slice A n c, .int .i64 k0] w fun e w' => e = .returned (.int .i64 ((k0 + cntL cntA xs : Nat) : Int)) ∧ Only bs w w' := by
  have lx := Lib.hid hx.len
  have hn : n ≤ 1048576 := by have := lx.out; unfold szAgentS at hs; omega
  have hcl := cntL_agents xs
  have hst := Lib.hid (show Ahead w A 0 xs bs by
    rcases hx.2 with ⟨e1, e2⟩ | ⟨b, o, b2, e1, e2, h⟩
    · exact .inl e1
    · rw [e2] at hnd ⊢
      exact .inr ⟨b, o, b2, e1, by simpa using h, by simp, (List.nodup_cons.1 hnd).1, (List.nodup_cons.1 hnd).2, fun j hj => by simp [hj]⟩)
  clear hx
  go_enter Try.func70, Try.ntmps70
  go_wp2_with fail
  go_loopw [1, 5] (fun kk i wr => ∃ k : Nat, k ≤ n ∧ i = .int .i64 k ∧ kk = .int .i64 ((k0 : Int) + (cntL cntA (xs.take k) : Nat)) ∧ Only bs w wr ∧ Hid (Ahead wr A k (xs.drop k) bs)) (fun _ i _ => n - (intOf i).toNat)
  case atStart => exact ⟨0, by omega, rfl, by simp [cntL], Only.refl _ _, hst.out⟩
  case round =>
    obtain ⟨k, hk, rfl, rfl, ho, hm⟩ := hrel
    by_cases hlt : k < n
    · obtain ⟨x, hxk⟩ : ∃ x, xs[k]? = some x := ⟨_, List.getElem?_eq_getElem (by have := lx.out; omega)⟩
      have hm := hm.out
      rw [drop_some hxk] at hm
      rcases hm with h0 | ⟨b, o, b2, rfl, hE, hbb, hb2, hn2, hin⟩
      · cases h0
      obtain ⟨cs, bx, b3, hO, hc, rfl, h2⟩ := hE
      obtain ⟨A1, n1, c1, A2, n2, c2, bd, bp, rfl, ⟨hd, rd⟩, ⟨hp, rp⟩, rfl⟩ := hO
      obtain ⟨hc0, hd0⟩ := hc 0 _ rfl
      obtain ⟨hc1, hd1⟩ := hc 1 _ rfl
      obtain ⟨hc2, hd2⟩ := hc 2 _ rfl
      obtain ⟨hc3, hd3⟩ := hc 3 _ rfl
      obtain ⟨hc4, hd4⟩ := hc 4 _ rfl
      rw [Nat.add_zero] at hc0 hd0
      have hsz := szAgent_mem hxk hs
      have hct := cntL_take (cnt := cntA) hxk
      have hcx : cntA x = 3 + x.data.length + 2 * x.ports.length := rfl
      have hcm := cntL_le (cnt := cntA) xs (k + 1)
      have hck := cntL_le (cnt := cntA) xs k
      have nb : b ∉ bd ∧ b ∉ bp ∧ b ∉ b3 := by simpa using hb2
      have hn2' := List.nodup_append.1 hn2
      have hn3 := List.nodup_append.1 hn2'.1
      have ld := Lib.hid hd.len
      have lp := Lib.hid hp.len
      have T0 : ∀ (u0 u1 u2 : Value), Touch b (o + k * 5) 5 (bd ++ bp) wr (((wr.setCell ⟨b, o + k * 5, none⟩ u0).setCell ⟨b, o + k * 5 + 1, none⟩ u1).setCell ⟨b, o + k * 5 + 2, none⟩ u2) := fun u0 u1 u2 =>
        ((Touch.refl.set (by omega) (by omega) _).set (by omega) (by omega) _).set (by omega) (by omega) _
      have HE := Lib.hid h2
      have HD := Lib.hid hd
      have HP := Lib.hid hp
      have HX := Lib.hid hxk
      have HT := Lib.hid T0
      have HI := Lib.hid hin
      have N1 := Lib.hid hn2'
      have N2 := Lib.hid hn3
      have NB := Lib.hid nb
      have HB := Lib.hid hb2
      have HL := Lib.hid hct
      clear h2 hd hp hxk T0 hin hn2' hn3 nb hb2 hc hn2 hct
      go_wp2_with fail
      have T3 := HT.out (.int .i64 ((k0 : Int) + (cntL cntA (xs.take k) : Nat))) (.int .i64 ((k0 : Int) + (cntL cntA (xs.take k) : Nat) + 1)) (.int .i64 ((k0 : Int) + (cntL cntA (xs.take k) : Nat) + 1 + 1))
      rw [show (k0 : Int) + (cntL cntA (xs.take k) : Nat) + 1 + 1 + 1 = ((k0 + cntL cntA (xs.take k) + 3 : Nat) : Int) from by omega]
      have OD : OwAt intOw 1 (((wr.setCell ⟨b, o + k * 5, none⟩ (.int .i64 ((k0 : Int) + (cntL cntA (xs.take k) : Nat)))).setCell ⟨b, o + k * 5 + 1, none⟩ (.int .i64 ((k0 : Int) + (cntL cntA (xs.take k) : Nat) + 1))).setCell ⟨b, o + k * 5 + 2, none⟩ (.int .i64 ((k0 : Int) + (cntL cntA (xs.take k) : Nat) + 1 + 1))) A1 n1 x.data bd :=
        HD.out.keep intOw_ok (fun j hj => set3_block (fun e => NB.out.1 (by rw [← e]; exact hj)))
      refine (markInt64S_c A1 n1 c1 (k0 + cntL cntA (xs.take k) + 3) x.data bd _ OD N2.out.1 (by have := ld.out; omega) (by omega)).mono ?_
      rintro e w4 ⟨rfl, _, o4⟩
      have hc4' : w4.cell? ⟨b, o + k * 5 + 4, none⟩ = some (.slice A2 n2 c2) := ((World.cell?_of_block (a := ⟨b, o + k * 5 + 4, none⟩) (o4.block b NB.out.1)).trans (set3_cell (by omega))).trans hc4
      go_wp2_with fail
      rw [show (k0 : Int) + (cntL cntA (xs.take k) : Nat) + 3 + (n1 : Nat) = ((k0 + cntL cntA (xs.take k) + 3 + n1 : Nat) : Int) from by omega]
      have OP : OwAt portOw 2 w4 A2 n2 x.ports bp := HP.out.keep portOw_ok (fun j hj => (o4.block j (fun hjd => N2.out.2.2 j hjd j hj rfl)).trans (set3_block (fun e => NB.out.2.1 (by rw [← e]; exact hj))))
      refine (markPortS_c A2 n2 c2 _ x.ports bp w4 OP N2.out.2.1 (by have := lp.out; omega) (by have := ld.out; omega)).mono ?_
      rintro e w5 ⟨rfl, _, o5⟩
      go_wp2_with fail
      go_roundw
      case rel =>
        have e1 := ld.out
        have e2 := lp.out
        have e3 := HL.out
        have OO : Only (b :: (bd ++ bp)) wr w5 := (T3.only_.trans (o4.mono (fun j hj => by simp [hj]))).trans (o5.mono (fun j hj => by simp [hj]))
        refine ⟨k + 1, by omega, by go_num, congrArg (Value.int .i64) (by omega), ho.trans (OO.mono (fun j hj => ?_)), .inr ⟨b, o, b3, rfl, ?_, hbb, NB.out.2.2, N1.out.2.1, fun j hj => HI.out j (by simp [hj])⟩⟩
        · rcases List.mem_cons.1 hj with rfl | hj
          · exact hbb
          · exact HI.out j (by simp only [List.mem_append] at hj ⊢; exact .inl hj)
        · rw [show o + (k + 1) * 5 = o + k * 5 + 5 by omega]
          refine ElAt.keepC agentOw_ok (w := wr) (fun q h1 h2 => ?_) (fun j hj => ?_) HE.out
          · have hw3 := T3.cell q (.inr (by omega))
            have hf3 := T3.frozen q
            refine ⟨?_, ?_⟩
            · exact ((World.cell?_of_block (a := ⟨b, q, none⟩) (o5.block b NB.out.2.1)).trans (World.cell?_of_block (a := ⟨b, q, none⟩) (o4.block b NB.out.1))).trans hw3
            · exact ((World.frozen?_of_block (a := ⟨b, q, none⟩) (o5.block b NB.out.2.1)).trans (World.frozen?_of_block (a := ⟨b, q, none⟩) (o4.block b NB.out.1))).trans hf3
          · exact OO.block j (fun hin => by
              rcases List.mem_cons.1 hin with rfl | hin
              · exact NB.out.2.2 hj
              · exact N1.out.2.2 j hin j hj rfl)
      case measure => simp [intOf]; omega
    · obtain rfl : n = k := by omega
      have hlast : xs.take n = xs := List.take_of_length_le (by have := lx.out; omega)
      rw [hlast]
      have HLast := Lib.hid hlast
      clear hlast
      go_wp2_with fail
      go_ret
      exact ⟨retI (by omega), ho⟩

theorem markNet_v (v : Value) (x : DNet) (w : World) (k : Int) (lo hi : Nat) (h : OwT netOw w v x lo hi) (hh : hi ≤ w.heap.size) (hs : szNet x ≤ 1048576) (h0 : 0 ≤ k) (hk : k ≤ 1048576) :
    Calls Try.prog 23 #[v, .int .i64 k] w fun e w' => ∃ m : Nat, e = .returned (.int .i64 (m : Int)) ∧ ∃ wb, Below w.heap.size w wb ∧ wb.heap.size = w'.heap.size ∧ OnlyIn lo hi wb w' := by
  obtain ⟨cs, bs, rfl, ⟨A1, n1, c1, b1, rfl, ⟨h1, r1⟩, rfl⟩, hnd, hb⟩ := h
  obtain ⟨k0, rfl⟩ := Int.eq_ofNat_of_zero_le h0
  have hA : ∀ o1, Below w.heap.size w (w.alloc o1) := fun o1 => (Below.refl _ _).alloc (Nat.le_refl _) _
  have HK := Lib.hid (show ∀ o1, OwAt agentOw 5 (w.alloc o1) A1 n1 x.agents bs from fun o1 => h1.keep agentOw_ok (fun j hj => (hA o1).block j (by have := hb j hj; omega)))
  have HN := Lib.hid hnd
  have HB := Lib.hid hb
  have HS : szAgentS x.agents ≤ 1048576 := hs
  have hcl := cntL_agents x.agents
  clear h1 hb hnd
  go_enter Try.func23, Try.ntmps23
  go_wp2_with fail
  refine (markAgentS_c A1 n1 c1 k0 x.agents bs _ (HK.out _) HN.out HS (by omega)).mono ?_
  rintro e w1 ⟨rfl, o1⟩
  go_wp2_with fail
  go_ret
  exact ⟨_, rfl, _, hA _, o1.size.symm, o1.in_ HB.out⟩

end Go.Proofs.Ytampijkiidjcmaa
