/- Copies of data of numbers alone: the laws' helpers to.. -/
import Derived.Test.YtampijkiidjcmaaTyp
import Derived.Test.YtampijkiidjcmaaIntsV
import Derived.Test.YtampijkiidjcmaaFSz
namespace Go.Proofs.Ytampijkiidjcmaa
open Go.RowKit
set_option linter.unusedVariables false
set_option linter.unusedSimpArgs false

theorem toPort_v (v : Value) (x : DPort) (w : World) {B : Nat} (h : RdT portRd w B v x) :
    Calls Try.prog 179 #[v] w fun e w' => e = .returned (.agg #[.int .i64 x.agent, .int .i64 x.slot]) ∧ Below w.heap.size w w' := by
  obtain ⟨cs, rfl, rfl⟩ := h
  go_enter Try.func179, Try.ntmps179
  go_wp2_with fail
  exact bodyPost_ret (v := .agg #[.int .i64 x.agent, .int .i64 x.slot]) (by simp [results, Try.results179, go_sem]) rfl ⟨rfl, (((Below.refl _ _).alloc (Nat.le_refl _) _).alloc (by simp) _).alloc (by simp; omega) _⟩

theorem info_PortS : (Try.prog.info? 53).map (fun i => (i.zero, i.size, i.bytes)) = some (some (.agg #[.int .i64 0, .int .i64 0]), 2, 16) := by kernel_rfl
set_option maxHeartbeats 1000000 in
theorem toPortS_v (v : Value) (xs : List DPort) (w : World) {B : Nat} (h : RdS portRd 2 w B v xs) (hB : B ≤ w.heap.size) (hs : xs.length ≤ 1048576) :
    Calls Try.prog 161 #[v] w fun e w' => Ret1 (fun v' => OwS portOw 2 w' v' xs w.heap.size w'.heap.size) e ∧ Below w.heap.size w w' := by
  obtain ⟨A, n, c, rfl, hx, hnc, hcm⟩ := h
  have lx := Lib.hid hx.len
  have hlen := hs
  have hn : n ≤ 1048576 := by have := lx.out; omega
  have hmk := run_make_sz 87 53 Try.underlying87 info_PortS n (by omega) (by omega)
  go_enter Try.func161, Try.ntmps161
  go_wp2
  clear hmk
  go_loopw [4] (fun i wr => ∃ k : Nat, k ≤ n ∧ i = .int .i64 k ∧ Below w.heap.size w wr ∧ w.heap.size + 1 ≤ wr.heap.size ∧ (∃ arr, Blk wr w.heap.size 53 arr ∧ Hid (arr.size = n * 2)) ∧ ∃ bs, ElAt portOw 2 wr w.heap.size 0 (xs.take k) bs ∧ bs.Nodup ∧ ∀ b ∈ bs, w.heap.size + 1 ≤ b ∧ b < wr.heap.size) (fun i _ => n - (intOf i).toNat)
  case atStart => exact ⟨0, by omega, rfl, (Below.refl _ _).alloc (Nat.le_refl _) _, by simp, ⟨_, Blk.new _ _ _, by simp [Hid, madeCells_size]⟩, [], rfl, List.nodup_nil, fun b hb => by simp at hb⟩
  case round =>
    obtain ⟨k, hk, rfl, hb, hzz, ⟨arr, BA, hasz⟩, bs, hel, hnd, hin⟩ := hrel
    by_cases hlt : k < n
    · obtain ⟨b, off, x, rfl, hlb, hxk, hc0, hc1⟩ := (hx.below portRd_ok (hb.mono hB)).port hlt
      have Hxk := Lib.hid hxk
      clear hxk
      go_wp2_with fail
      refine (toPort_v _ x _ (B := 0) ⟨_, rfl, rfl⟩).mono ?_
      rintro e w1 ⟨rfl, q1⟩
      obtain ⟨bl, HO, nd1, in1⟩ : ∃ bl, portOw w1 [.int .i64 x.agent, .int .i64 x.slot] x bl ∧ bl.Nodup ∧ ∀ b ∈ bl, wr.heap.size ≤ b ∧ b < w1.heap.size := ⟨[], ⟨rfl, rfl⟩, List.nodup_nil, fun b hb => by simp at hb⟩
      have BA := BA.below q1 (by omega)
      obtain ⟨z0, hz0⟩ := BA.some_ (i := k * 2) (by rw [hasz.out]; omega)
      obtain ⟨z1, hz1⟩ := BA.some_ (i := k * 2 + 1) (by rw [hasz.out]; omega)
      have fz := BA.frozen
      have zz := q1.size
      have Hel := Lib.hid (hel.keep portOw_ok (q1.block _ (by omega)) (fun k hk => q1.block k (hin k hk).2))
      clear hel
      have TB : ∀ y0 y1, Below w.heap.size w ((w1.setCell ⟨w.heap.size, k * 2, none⟩ y0).setCell ⟨w.heap.size, k * 2 + 1, none⟩ y1) := fun y0 y1 => (((hb.trans (q1.mono hb.size)).setCell (p := ⟨w.heap.size, k * 2, none⟩) (Nat.le_refl _) _).setCell (p := ⟨w.heap.size, k * 2 + 1, none⟩) (Nat.le_refl _) _)
      go_wp2_with fail
      go_roundw
      case rel =>
        refine ⟨k + 1, by omega, by go_num, TB _ _, by simp [World.setCell]; omega, ⟨_, ((BA.set_ (k * 2) _).set_ (k * 2 + 1) _), by simpa [Hid] using hasz⟩, bs ++ bl, ?_⟩
        rw [take_succ_some Hxk.out]
        have hlk : (xs.take k).length = k := by have := lx.out; simp; omega
        have h1 := ElAt.setRun portOw_ok (vs := [.int .i64 x.agent, .int .i64 x.slot]) (p := k * 2) Hel.out (fun hh => by have := hin _ hh; omega) (Or.inr (by rw [hlk]; omega))
        have hnn := nodup_two hnd nd1 hin in1 hzz zz
        refine ⟨ElAt.append h1 (ElAt.one (portOw_ok.keep (w' := setRun w1 w.heap.size (k * 2) [.int .i64 x.agent, .int .i64 x.slot]) (fun b hb => setRun_block (fun e => by have := in1 b hb; omega)) HO) ?_), hnn.1, fun b hb => by have := hnn.2 b hb; simp only [World.size_setCell]; exact this⟩
        rw [hlk, Nat.zero_add]
        exact setRun_csAt (vs := [.int .i64 x.agent, .int .i64 x.slot]) (fun j hj => by
          have hj : j < 2 := by simpa using hj
          match j, hj with
          | 0, _ => exact ⟨z0, hz0⟩
          | 1, _ => exact ⟨z1, hz1⟩) (fun j hj => fz _)
      case measure => simp [intOf]; omega
    · have hkn : k = n := by omega
      have e : xs.take k = xs := List.take_of_length_le (by have := lx.out; omega)
      rw [e] at hel
      have Hkn := Lib.hid hkn
      clear hkn e
      go_wp2
      go_ret
      exact ⟨⟨_, rfl, some ⟨w.heap.size, 0, none⟩, n, n, w.heap.size :: bs, rfl, ⟨lx.out, .inr ⟨_, _, bs, rfl, rfl, hel⟩⟩, List.nodup_cons.2 ⟨fun hh => by have := hin _ hh; omega, hnd⟩, fun b hb => by
        rcases List.mem_cons.1 hb with rfl | hb
        · omega
        · have := hin b hb; omega, Nat.le_refl _, by unfold maxLen; omega⟩, hb⟩

end Go.Proofs.Ytampijkiidjcmaa
