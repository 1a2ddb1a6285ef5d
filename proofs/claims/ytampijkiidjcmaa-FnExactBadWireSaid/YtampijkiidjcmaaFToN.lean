/- Copies of nets. -/
import Derived.Test.YtampijkiidjcmaaFTo
namespace Go.Proofs.Ytampijkiidjcmaa
open Go.RowKit
set_option linter.unusedVariables false
set_option linter.unusedSimpArgs false

set_option maxHeartbeats 1000000 in
theorem toAgent_v (v : Value) (x : DAgent) (w : World) {B : Nat} (h : RdT agentRd w B v x) (hB : B ≤ w.heap.size) (hs : szAgent x ≤ 1048576) :
    Calls Try.prog 110 #[v] w fun e w' => Ret1 (fun v' => OwT agentOw w' v' x w.heap.size w'.heap.size) e ∧ Below w.heap.size w w' := by
  obtain ⟨cs, rfl, A1, n1, c1, A2, n2, c2, rfl, ⟨h1, r1⟩, ⟨h2, r2⟩⟩ := h
  unfold szAgent at hs
  have hb : ∀ o1 o2 o3, Below w.heap.size w (((w.alloc o1).alloc o2).alloc o3) := fun o1 o2 o3 => (((Below.refl _ _).alloc (Nat.le_refl _) _).alloc (by simp) _).alloc (by simp; omega) _
  go_enter Try.func110, Try.ntmps110
  go_wp2_with fail
  refine (toInt64S_v _ x.data _ (B := B) ⟨A1, n1, c1, rfl, h1.below intRd_ok ((hb _ _ _).mono hB), r1⟩ (Nat.le_trans hB (hb _ _ _).size) (by first | omega | (unfold lenOk; omega))).mono ?_
  rintro e w1 ⟨⟨v1, rfl, O1⟩, q1⟩
  have z1 : w.heap.size + 1 + 1 + 1 ≤ w1.heap.size := by have := q1.size; simpa using this
  have O1 := O1.wide (lo' := w.heap.size + 1 + 1 + 1) (hi' := w1.heap.size) (by simp) (Nat.le_refl _)
  obtain ⟨A1', m1, d1, bs1, rfl, ow1, nd1, in1, rr1⟩ := O1
  have T1 := (hb _ _ _).trans (q1.mono (hb _ _ _).size)
  have BB := blk3_0.below q1 (by simp <;> omega)
  have BR := blk3_1.below q1 (by simp <;> omega)
  have BO := blk3_2.below q1 (by simp <;> omega)
  clear q1
  have cB := BB.cell
  have cO := BO.cell
  have fO := BO.frozen
  go_wp2_with fail
  clear cB cO fO
  have T1 := T1.setCell (p := ⟨w.heap.size + 1 + 1, 3, none⟩) (by simp; omega) (.slice A1' m1 d1)
  have BB := BB.far (p := ⟨w.heap.size + 1 + 1, 3, none⟩) (by simp; omega) (.slice A1' m1 d1)
  have BR := BR.far (p := ⟨w.heap.size + 1 + 1, 3, none⟩) (by simp) (.slice A1' m1 d1)
  have BO := BO.set_ 3 (.slice A1' m1 d1)
  have ow1 := ow1.keep intOw_ok (w' := World.setCell w1 ⟨w.heap.size + 1 + 1, 3, none⟩ (.slice A1' m1 d1)) (fun k hk => Below.heap_setCell _ _ _ _ (by have := in1 k hk; simp; omega))
  refine (toPortS_v _ x.ports _ (B := B) ⟨A2, n2, c2, rfl, h2.below portRd_ok (T1.mono hB), r2⟩ (Nat.le_trans hB T1.size) (by first | omega | (unfold lenOk; omega))).mono ?_
  rintro e w2 ⟨⟨v2, rfl, O2⟩, q2⟩
  have z2 : w1.heap.size ≤ w2.heap.size := by have := q2.size; simpa using this
  have O2 := O2.wide (lo' := w1.heap.size) (hi' := w2.heap.size) (by simp) (Nat.le_refl _)
  obtain ⟨A2', m2, d2, bs2, rfl, ow2, nd2, in2, rr2⟩ := O2
  have T1 := T1.trans (q2.mono T1.size)
  have BB := BB.below q2 (by simp <;> omega)
  have BR := BR.below q2 (by simp <;> omega)
  have BO := BO.below q2 (by simp <;> omega)
  have ow1 := ow1.keep intOw_ok (w' := w2) (fun k hk => q2.block k (by have := in1 k hk; simp <;> omega))
  clear q2
  have cB := BB.cell
  have cO := BO.cell
  have fO := BO.frozen
  have cR := BR.cell
  have fR := BR.frozen
  go_wp2_with fail
  have hfin : ∀ w', OnlyIn (w.heap.size + 1) (w.heap.size + 1 + 1 + 1) w2 w' → (Ret1 (fun v' => OwT agentOw w' v' x w.heap.size w'.heap.size) (.returned (.agg #[.int .i64 x.kind, .int .i64 x.level, .int .i64 x.value, (.slice A1' m1 d1), (.slice A2' m2 d2)])) ∧ Below w.heap.size w w') := fun w' ho => by
    refine ⟨⟨_, rfl, [.int .i64 x.kind, .int .i64 x.level, .int .i64 x.value, (.slice A1' m1 d1), (.slice A2' m2 d2)], bs1 ++ bs2, rfl, ⟨A1', m1, d1, A2', m2, d2, bs1, bs2, rfl, ⟨ow1.keep intOw_ok (fun k hk => ho.block k (.inr (by have := in1 k hk; omega))), rr1⟩, ⟨ow2.keep portOw_ok (fun k hk => ho.block k (.inr (by have := in2 k hk; omega))), rr2⟩, rfl⟩, ?_⟩, T1.trans (ho.below.mono (by omega))⟩
    have h1 : bs1.Nodup ∧ ∀ b ∈ bs1, w.heap.size ≤ b ∧ b < w1.heap.size := ⟨nd1, fun b hb => by have := in1 b hb; omega⟩
    have h2 := nodup_two (lo := w.heap.size) (mid := w1.heap.size) (hi := w2.heap.size) h1.1 nd2 (fun b hb => by have := h1.2 b hb; omega) in2 (by omega) (by omega)
    exact ⟨h2.1, fun b hb => by have := h2.2 b hb; have := ho.size; omega⟩
  refine bodyPost_ret (v := .agg #[.int .i64 x.kind, .int .i64 x.level, .int .i64 x.value, (.slice A1' m1 d1), (.slice A2' m2 d2)]) (by simp [results, Try.results110, go_sem, cR]) rfl (hfin _ ?_)
  repeat (first | (with_reducible exact OnlyIn.refl _ _ _) | (with_reducible refine OnlyIn.setCell ?_ ⟨by simp, by simp⟩ _))

theorem szAgentS_el {xs : List DAgent} {k : Nat} {x : DAgent} (h : xs[k]? = some x) : szAgent x ≤ szAgentS xs := by
  have h1 := szAgentS_take h
  have h2 := szAgentS_le xs (k + 1)
  unfold szAgentS
  omega
theorem info_AgentS : (Try.prog.info? 89).map (fun i => (i.zero, i.size, i.bytes)) = some (some (.agg #[.int .i64 0, .int .i64 0, .int .i64 0, .slice none 0 0, .slice none 0 0]), 5, 72) := by kernel_rfl
set_option maxHeartbeats 1000000 in
theorem toAgentS_v (v : Value) (xs : List DAgent) (w : World) {B : Nat} (h : RdS agentRd 5 w B v xs) (hB : B ≤ w.heap.size) (hs : szAgentS xs ≤ 1048576) :
    Calls Try.prog 62 #[v] w fun e w' => Ret1 (fun v' => OwS agentOw 5 w' v' xs w.heap.size w'.heap.size) e ∧ Below w.heap.size w w' := by
  obtain ⟨A, n, c, rfl, hx, hnc, hcm⟩ := h
  have lx := Lib.hid hx.len
  have hlen : xs.length ≤ 1048576 := by unfold szAgentS at hs; omega
  have hn : n ≤ 1048576 := by have := lx.out; omega
  have hmk := run_make_sz 28 89 Try.underlying28 info_AgentS n (by omega) (by omega)
  go_enter Try.func62, Try.ntmps62
  go_wp2
  clear hmk
  go_loopw [4] (fun i wr => ∃ k : Nat, k ≤ n ∧ i = .int .i64 k ∧ Below w.heap.size w wr ∧ w.heap.size + 1 ≤ wr.heap.size ∧ (∃ arr, Blk wr w.heap.size 89 arr ∧ Hid (arr.size = n * 5)) ∧ ∃ bs, ElAt agentOw 5 wr w.heap.size 0 (xs.take k) bs ∧ bs.Nodup ∧ ∀ b ∈ bs, w.heap.size + 1 ≤ b ∧ b < wr.heap.size) (fun i _ => n - (intOf i).toNat)
  case atStart => exact ⟨0, by omega, rfl, (Below.refl _ _).alloc (Nat.le_refl _) _, by simp, ⟨_, Blk.new _ _ _, by simp [Hid, madeCells_size]⟩, [], rfl, List.nodup_nil, fun b hb => by simp at hb⟩
  case round =>
    obtain ⟨k, hk, rfl, hb, hzz, ⟨arr, BA, hasz⟩, bs, hel, hnd, hin⟩ := hrel
    by_cases hlt : k < n
    · obtain ⟨b, off, x, A1, n1, c1, A2, n2, c2, rfl, hlb, hxk, hc0, hc1, hc2, hc3, hc4, ⟨h1, r1⟩, ⟨h2, r2⟩⟩ := (hx.below agentRd_ok (hb.mono hB)).agent hlt
      have Hxk := Lib.hid hxk
      clear hxk
      go_wp2_with fail
      refine (toAgent_v _ x _ (B := B) ⟨_, rfl, A1, n1, c1, A2, n2, c2, rfl, ⟨h1, r1⟩, ⟨h2, r2⟩⟩ (Nat.le_trans hB hb.size) (by have := szAgentS_el Hxk.out; omega)).mono ?_
      rintro e w1 ⟨⟨v1, rfl, O1⟩, q1⟩
      obtain ⟨cs1, bl, rfl, HO, nd1, in1⟩ := O1
      have HO' := HO
      obtain ⟨A1', m1, d1, A2', m2, d2, b1, b2, rfl, _⟩ := HO'
      have BA := BA.below q1 (by omega)
      obtain ⟨z0, hz0⟩ := BA.some_ (i := k * 5) (by rw [hasz.out]; omega)
      obtain ⟨z1, hz1⟩ := BA.some_ (i := k * 5 + 1) (by rw [hasz.out]; omega)
      obtain ⟨z2, hz2⟩ := BA.some_ (i := k * 5 + 2) (by rw [hasz.out]; omega)
      obtain ⟨z3, hz3⟩ := BA.some_ (i := k * 5 + 3) (by rw [hasz.out]; omega)
      obtain ⟨z4, hz4⟩ := BA.some_ (i := k * 5 + 4) (by rw [hasz.out]; omega)
      have fz := BA.frozen
      have zz := q1.size
      have Hel := Lib.hid (hel.keep agentOw_ok (q1.block _ (by omega)) (fun k hk => q1.block k (hin k hk).2))
      clear hel
      have TB : ∀ y0 y1 y2 y3 y4, Below w.heap.size w (((((w1.setCell ⟨w.heap.size, k * 5, none⟩ y0).setCell ⟨w.heap.size, k * 5 + 1, none⟩ y1).setCell ⟨w.heap.size, k * 5 + 2, none⟩ y2).setCell ⟨w.heap.size, k * 5 + 3, none⟩ y3).setCell ⟨w.heap.size, k * 5 + 4, none⟩ y4) := fun y0 y1 y2 y3 y4 => ((((((hb.trans (q1.mono hb.size)).setCell (p := ⟨w.heap.size, k * 5, none⟩) (Nat.le_refl _) _).setCell (p := ⟨w.heap.size, k * 5 + 1, none⟩) (Nat.le_refl _) _).setCell (p := ⟨w.heap.size, k * 5 + 2, none⟩) (Nat.le_refl _) _).setCell (p := ⟨w.heap.size, k * 5 + 3, none⟩) (Nat.le_refl _) _).setCell (p := ⟨w.heap.size, k * 5 + 4, none⟩) (Nat.le_refl _) _)
      go_wp2_with fail
      go_roundw
      case rel =>
        refine ⟨k + 1, by omega, by go_num, TB _ _ _ _ _, by simp [World.setCell]; omega, ⟨_, (((((BA.set_ (k * 5) _).set_ (k * 5 + 1) _).set_ (k * 5 + 2) _).set_ (k * 5 + 3) _).set_ (k * 5 + 4) _), by simpa [Hid] using hasz⟩, bs ++ bl, ?_⟩
        rw [take_succ_some Hxk.out]
        have hlk : (xs.take k).length = k := by have := lx.out; simp; omega
        have h1 := ElAt.setRun agentOw_ok (vs := [.int .i64 x.kind, .int .i64 x.level, .int .i64 x.value, .slice A1' m1 d1, .slice A2' m2 d2]) (p := k * 5) Hel.out (fun hh => by have := hin _ hh; omega) (Or.inr (by rw [hlk]; omega))
        have hnn := nodup_two hnd nd1 hin in1 hzz zz
        refine ⟨ElAt.append h1 (ElAt.one (agentOw_ok.keep (w' := setRun w1 w.heap.size (k * 5) [.int .i64 x.kind, .int .i64 x.level, .int .i64 x.value, .slice A1' m1 d1, .slice A2' m2 d2]) (fun b hb => setRun_block (fun e => by have := in1 b hb; omega)) HO) ?_), hnn.1, fun b hb => by have := hnn.2 b hb; simp only [World.size_setCell]; exact this⟩
        rw [hlk, Nat.zero_add]
        exact setRun_csAt (vs := [.int .i64 x.kind, .int .i64 x.level, .int .i64 x.value, .slice A1' m1 d1, .slice A2' m2 d2]) (fun j hj => by
          have hj : j < 5 := by simpa using hj
          match j, hj with
          | 0, _ => exact ⟨z0, hz0⟩
          | 1, _ => exact ⟨z1, hz1⟩
          | 2, _ => exact ⟨z2, hz2⟩
          | 3, _ => exact ⟨z3, hz3⟩
          | 4, _ => exact ⟨z4, hz4⟩) (fun j hj => fz _)
      case measure => simp [intOf]; omega
    · have hkn : k = n := by omega
      have e : xs.take k = xs := List.take_of_length_le (by have := lx.out; omega)
      rw [e] at hel
      have Hkn := Lib.hid hkn
      clear hkn e
      go_wp2
      go_ret
      exact ⟨⟨_, rfl, some ⟨w.heap.size, 0, none⟩, n, n, w.heap.size :: bs, rfl, ⟨lx.out, .inr ⟨_, _, bs, rfl, rfl, hel⟩⟩, List.nodup_cons.2 ⟨fun hh => by have := hin _ hh; omega, hnd⟩, fun b hb => by
        rcases List.mem_cons.1 hb with rfl | hb
        · omega
        · have := hin b hb; omega, Nat.le_refl _, by unfold maxLen; omega⟩, hb⟩

set_option maxHeartbeats 1000000 in
theorem toNet_v (v : Value) (x : DNet) (w : World) {B : Nat} (h : RdT netRd w B v x) (hB : B ≤ w.heap.size) (hs : szNet x ≤ 1048576) :
    Calls Try.prog 17 #[v] w fun e w' => Ret1 (fun v' => OwT netOw w' v' x w.heap.size w'.heap.size) e ∧ Below w.heap.size w w' := by
  obtain ⟨cs, rfl, A1, n1, c1, rfl, ⟨h1, r1⟩⟩ := h
  unfold szNet at hs
  have hb : ∀ o1 o2 o3, Below w.heap.size w (((w.alloc o1).alloc o2).alloc o3) := fun o1 o2 o3 => (((Below.refl _ _).alloc (Nat.le_refl _) _).alloc (by simp) _).alloc (by simp; omega) _
  go_enter Try.func17, Try.ntmps17
  go_wp2_with fail
  refine (toAgentS_v _ x.agents _ (B := B) ⟨A1, n1, c1, rfl, h1.below agentRd_ok ((hb _ _ _).mono hB), r1⟩ (Nat.le_trans hB (hb _ _ _).size) (by first | omega | (unfold lenOk; omega))).mono ?_
  rintro e w1 ⟨⟨v1, rfl, O1⟩, q1⟩
  have z1 : w.heap.size + 1 + 1 + 1 ≤ w1.heap.size := by have := q1.size; simpa using this
  have O1 := O1.wide (lo' := w.heap.size + 1 + 1 + 1) (hi' := w1.heap.size) (by simp) (Nat.le_refl _)
  obtain ⟨A1', m1, d1, bs1, rfl, ow1, nd1, in1, rr1⟩ := O1
  have T1 := (hb _ _ _).trans (q1.mono (hb _ _ _).size)
  have BB := blk3_0.below q1 (by simp <;> omega)
  have BR := blk3_1.below q1 (by simp <;> omega)
  have BO := blk3_2.below q1 (by simp <;> omega)
  clear q1
  have cB := BB.cell
  have cO := BO.cell
  have fO := BO.frozen
  have cR := BR.cell
  have fR := BR.frozen
  go_wp2_with fail
  have hfin : ∀ w', OnlyIn (w.heap.size + 1) (w.heap.size + 1 + 1 + 1) w1 w' → (Ret1 (fun v' => OwT netOw w' v' x w.heap.size w'.heap.size) (.returned (.agg #[(.slice A1' m1 d1)])) ∧ Below w.heap.size w w') := fun w' ho => by
    refine ⟨⟨_, rfl, [(.slice A1' m1 d1)], bs1, rfl, ⟨A1', m1, d1, bs1, rfl, ⟨ow1.keep agentOw_ok (fun k hk => ho.block k (.inr (by have := in1 k hk; omega))), rr1⟩, rfl⟩, ?_⟩, T1.trans (ho.below.mono (by omega))⟩
    have h1 : bs1.Nodup ∧ ∀ b ∈ bs1, w.heap.size ≤ b ∧ b < w1.heap.size := ⟨nd1, fun b hb => by have := in1 b hb; omega⟩
    exact ⟨h1.1, fun b hb => by have := h1.2 b hb; have := ho.size; omega⟩
  refine bodyPost_ret (v := .agg #[(.slice A1' m1 d1)]) (by simp [results, Try.results17, go_sem, cR]) rfl (hfin _ ?_)
  repeat (first | (with_reducible exact OnlyIn.refl _ _ _) | (with_reducible refine OnlyIn.setCell ?_ ⟨by simp, by simp⟩ _))

theorem szNetS_el {xs : List DNet} {k : Nat} {x : DNet} (h : xs[k]? = some x) : szNet x ≤ szNetS xs := by
  have h1 := szNetS_take h
  have h2 := szNetS_le xs (k + 1)
  unfold szNetS
  omega
theorem info_NetS : (Try.prog.info? 30).map (fun i => (i.zero, i.size, i.bytes)) = some (some (.agg #[.slice none 0 0]), 1, 24) := by kernel_rfl
set_option maxHeartbeats 1000000 in
theorem toNetS_v (v : Value) (xs : List DNet) (w : World) {B : Nat} (h : RdS netRd 1 w B v xs) (hB : B ≤ w.heap.size) (hs : szNetS xs ≤ 1048576) :
    Calls Try.prog 54 #[v] w fun e w' => Ret1 (fun v' => OwS netOw 1 w' v' xs w.heap.size w'.heap.size) e ∧ Below w.heap.size w w' := by
  obtain ⟨A, n, c, rfl, hx, hnc, hcm⟩ := h
  have lx := Lib.hid hx.len
  have hlen : xs.length ≤ 1048576 := by unfold szNetS at hs; omega
  have hn : n ≤ 1048576 := by have := lx.out; omega
  have hmk := run_make_sz 73 30 Try.underlying73 info_NetS n (by omega) (by omega)
  go_enter Try.func54, Try.ntmps54
  go_wp2
  clear hmk
  go_loopw [4] (fun i wr => ∃ k : Nat, k ≤ n ∧ i = .int .i64 k ∧ Below w.heap.size w wr ∧ w.heap.size + 1 ≤ wr.heap.size ∧ (∃ arr, Blk wr w.heap.size 30 arr ∧ Hid (arr.size = n * 1)) ∧ ∃ bs, ElAt netOw 1 wr w.heap.size 0 (xs.take k) bs ∧ bs.Nodup ∧ ∀ b ∈ bs, w.heap.size + 1 ≤ b ∧ b < wr.heap.size) (fun i _ => n - (intOf i).toNat)
  case atStart => exact ⟨0, by omega, rfl, (Below.refl _ _).alloc (Nat.le_refl _) _, by simp, ⟨_, Blk.new _ _ _, by simp [Hid, madeCells_size]⟩, [], rfl, List.nodup_nil, fun b hb => by simp at hb⟩
  case round =>
    obtain ⟨k, hk, rfl, hb, hzz, ⟨arr, BA, hasz⟩, bs, hel, hnd, hin⟩ := hrel
    by_cases hlt : k < n
    · obtain ⟨b, off, x, A1, n1, c1, rfl, hlb, hxk, hc0, ⟨h1, r1⟩⟩ := (hx.below netRd_ok (hb.mono hB)).net hlt
      have Hxk := Lib.hid hxk
      clear hxk
      go_wp2_with fail
      refine (toNet_v _ x _ (B := B) ⟨_, rfl, A1, n1, c1, rfl, ⟨h1, r1⟩⟩ (Nat.le_trans hB hb.size) (by have := szNetS_el Hxk.out; omega)).mono ?_
      rintro e w1 ⟨⟨v1, rfl, O1⟩, q1⟩
      obtain ⟨cs1, bl, rfl, HO, nd1, in1⟩ := O1
      have HO' := HO
      obtain ⟨A1', m1, d1, b1, rfl, _⟩ := HO'
      have BA := BA.below q1 (by omega)
      obtain ⟨z0, hz0⟩ := BA.some_ (i := k) (by rw [hasz.out]; omega)
      have fz := BA.frozen
      have zz := q1.size
      have Hel := Lib.hid (hel.keep netOw_ok (q1.block _ (by omega)) (fun k hk => q1.block k (hin k hk).2))
      clear hel
      have TB : ∀ y0, Below w.heap.size w (w1.setCell ⟨w.heap.size, k, none⟩ y0) := fun y0 => ((hb.trans (q1.mono hb.size)).setCell (p := ⟨w.heap.size, k, none⟩) (Nat.le_refl _) _)
      go_wp2_with fail
      go_roundw
      case rel =>
        refine ⟨k + 1, by omega, by go_num, TB _, by simp [World.setCell]; omega, ⟨_, (BA.set_ k _), by simpa [Hid] using hasz⟩, bs ++ bl, ?_⟩
        rw [take_succ_some Hxk.out]
        have hlk : (xs.take k).length = k := by have := lx.out; simp; omega
        have h1 := ElAt.setRun netOw_ok (vs := [.slice A1' m1 d1]) (p := k) Hel.out (fun hh => by have := hin _ hh; omega) (Or.inr (by rw [hlk]; omega))
        have hnn := nodup_two hnd nd1 hin in1 hzz zz
        refine ⟨ElAt.append h1 (ElAt.one (netOw_ok.keep (w' := setRun w1 w.heap.size k [.slice A1' m1 d1]) (fun b hb => setRun_block (fun e => by have := in1 b hb; omega)) HO) ?_), hnn.1, fun b hb => by have := hnn.2 b hb; simp only [World.size_setCell]; exact this⟩
        rw [hlk, Nat.zero_add, Nat.mul_one]
        exact setRun_csAt (vs := [.slice A1' m1 d1]) (fun j hj => by
          have hj : j < 1 := by simpa using hj
          match j, hj with
          | 0, _ => exact ⟨z0, hz0⟩) (fun j hj => fz _)
      case measure => simp [intOf]; omega
    · have hkn : k = n := by omega
      have e : xs.take k = xs := List.take_of_length_le (by have := lx.out; omega)
      rw [e] at hel
      have Hkn := Lib.hid hkn
      clear hkn e
      go_wp2
      go_ret
      exact ⟨⟨_, rfl, some ⟨w.heap.size, 0, none⟩, n, n, w.heap.size :: bs, rfl, ⟨lx.out, .inr ⟨_, _, bs, rfl, rfl, hel⟩⟩, List.nodup_cons.2 ⟨fun hh => by have := hin _ hh; omega, hnd⟩, fun b hb => by
        rcases List.mem_cons.1 hb with rfl | hb
        · omega
        · have := hin b hb; omega, Nat.le_refl _, by unfold maxLen; omega⟩, hb⟩

end Go.Proofs.Ytampijkiidjcmaa
