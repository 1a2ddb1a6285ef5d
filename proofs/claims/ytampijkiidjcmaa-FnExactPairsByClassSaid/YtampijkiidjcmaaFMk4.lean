/- The helpers mark.. and held.. of lists of flat structs (printed by fam4.py). -/
import Derived.Test.YtampijkiidjcmaaIntsV
import Derived.Test.YtampijkiidjcmaaTyp
namespace Go.Proofs.Ytampijkiidjcmaa
open Go.RowKit
set_option linter.unusedVariables false
def marksF {α : Type} (f : Nat → α) (s k n : Nat) : List α := (List.range n).map fun i => f (k + s * i)
theorem marksF_len {α : Type} (f : Nat → α) (s k n : Nat) : (marksF f s k n).length = n := by simp [marksF]
theorem marksF_succ {α : Type} (f : Nat → α) (s k n : Nat) : marksF f s k (n + 1) = marksF f s k n ++ [f (k + s * n)] := by simp [marksF, List.range_succ]
theorem marksF_get {α : Type} {f : Nat → α} {s k n i : Nat} (hi : i < n) : (marksF f s k n)[i]? = some (f (k + s * i)) := by simp [marksF, hi]
def mkPort (k : Nat) : DPort := (⟨(k : Int), (k : Int) + 1⟩ : DPort)
def mkPair (k : Nat) : DPair := (⟨(k : Int), (k : Int) + 1⟩ : DPair)
def mkWire (k : Nat) : DWire := (⟨⟨(k : Int), (k : Int) + 1⟩, ⟨(k : Int) + 1 + 1, (k : Int) + 1 + 1 + 1⟩⟩ : DWire)

theorem mkPort_cells (k0 k : Nat) : [Value.int .i64 (mkPort (k0 + 2 * k)).agent, Value.int .i64 (mkPort (k0 + 2 * k)).slot] = [.int .i64 ((k0 : Int) + 2 * k), .int .i64 ((k0 : Int) + 2 * k + 1)] := by simp [mkPort]
set_option maxHeartbeats 2000000 in
theorem markPortS_c (A : Option Addr) (n c k0 : Nat) (xs : List DPort) (bs : List Nat) (w : World) (hx : OwAt portOw 2 w A n xs bs) (hnd : bs.Nodup) (hn : n ≤ 4294967296) (hk0 : k0 ≤ 4611686018427387904) :
    Calls Try.prog 121 #[.slice A n c, .int .i64 k0] w fun e w' => e = .returned (.int .i64 ((k0 + 2 * n : Nat) : Int)) ∧ OwAt portOw 2 w' A n (marksF mkPort 2 k0 n) bs ∧ Only bs w w' := by
  have lx := Lib.hid hx.len
  have hmid := Lib.hid hx.mid
  clear hx
  go_enter Try.func121, Try.ntmps121
  go_wp2
  go_loopw [1, 5] (fun kk i wr => ∃ k : Nat, k ≤ n ∧ i = .int .i64 k ∧ kk = .int .i64 ((k0 : Int) + 2 * k) ∧ Only bs w wr ∧ Hid (MidAt portOw 2 wr A (marksF mkPort 2 k0 k) (xs.drop k) bs)) (fun _ i _ => n - (intOf i).toNat)
  case atStart => exact ⟨0, by omega, rfl, by simp, Only.refl _ _, hmid.out⟩
  case round =>
    obtain ⟨k, hk, rfl, rfl, ho, hm⟩ := hrel
    by_cases hlt : k < n
    · obtain ⟨x, hxk⟩ : ∃ x, xs[k]? = some x := ⟨_, List.getElem?_eq_getElem (by have := lx.out; omega)⟩
      have hm := hm.out
      rw [drop_some hxk] at hm
      obtain ⟨b, o, cs, b1, bx, b2, rfl, hbs, hO, hc, h1, h2⟩ := hm.next
      obtain ⟨rfl, rfl⟩ := hO
      rw [marksF_len] at hc h2
      obtain ⟨hc0, hd0⟩ := hc 0 _ rfl
      obtain ⟨hc1, hd1⟩ := hc 1 _ rfl
      rw [Nat.add_zero] at hc0 hd0
      have HN := Lib.hid hbs
      have Hx := Lib.hid hxk
      have H1 := Lib.hid h1
      have H2 := Lib.hid h2
      clear hbs hxk h1 h2 hm hc
      go_wp2
      go_roundw
      case rel =>
        have hnd' := hnd
        rw [HN.out] at hnd'
        have hb : b ∉ b1 ∧ b ∉ b2 := by simpa using (List.nodup_cons.1 hnd').1
        have hlen : (marksF mkPort 2 k0 k).length = k := marksF_len _ _ _ _
        refine ⟨k + 1, by omega, by go_num, by go_num, ?_, ?_⟩
        · exact ((ho.setCell (by rw [HN.out]; simp) _).setCell (by rw [HN.out]; simp) _)
        rw [marksF_succ, HN.out]
        refine MidAt.step (o := o) rfl (ElAt.setRun portOw_ok (vs := [.int .i64 ((k0 : Int) + 2 * k), .int .i64 ((k0 : Int) + 2 * k + 1)]) (p := o + k * 2) H1.out hb.1 (Or.inr (by omega))) (cs := [.int .i64 ((k0 : Int) + 2 * k), .int .i64 ((k0 : Int) + 2 * k + 1)]) ⟨(mkPort_cells k0 k).symm, rfl⟩ ?_ ?_
        · rw [hlen]
          exact setRun_csAt (vs := [.int .i64 ((k0 : Int) + 2 * k), .int .i64 ((k0 : Int) + 2 * k + 1)]) (fun j hj => by
            match j, hj with
            | 0, _ => exact ⟨_, hc0⟩
            | 1, _ => exact ⟨_, hc1⟩
            | j + 2, hj => simp at hj; omega) (fun j hj => by
            match j, hj with
            | 0, _ => exact hd0
            | 1, _ => exact hd1
            | j + 2, hj => simp at hj; omega)
        · rw [hlen]
          exact ElAt.setRun portOw_ok (vs := [.int .i64 ((k0 : Int) + 2 * k), .int .i64 ((k0 : Int) + 2 * k + 1)]) (p := o + k * 2) H2.out hb.2 (Or.inl (by simp))
      case measure => simp [intOf]; omega
    · obtain rfl : n = k := by omega
      have hm := hm.out
      rw [List.drop_of_length_le (by have := lx.out; omega)] at hm
      have Hm := Lib.hid (hm.whole (n := n) (marksF_len _ _ _ _).symm)
      clear hm
      go_wp2
      go_ret
      exact ⟨rfl, Hm.out, ho⟩
theorem markPortS_v (v : Value) (xs : List DPort) (w : World) (k : Int) (lo hi : Nat) (h : OwS portOw 2 w v xs lo hi) (hs : lenOk xs) (h0 : 0 ≤ k) (hk : k ≤ 4611686018427387904) :
    Calls Try.prog 121 #[v, .int .i64 k] w fun e w' => e = .returned (.int .i64 (k + 2 * xs.length)) ∧ OwS portOw 2 w' v (marksF mkPort 2 k.toNat xs.length) lo hi ∧ OnlyIn lo hi w w' := by
  obtain ⟨A, n, c, bs, rfl, h, h1, h2, r⟩ := h
  have hl := h.len
  obtain ⟨k0, rfl⟩ := Int.eq_ofNat_of_zero_le h0
  refine (markPortS_c A n c k0 xs bs w h h1 (by unfold lenOk at hs; omega) (by omega)).mono ?_
  rintro e w' ⟨rfl, h3, h4⟩
  rw [← hl]
  exact ⟨retI (by omega), ⟨A, n, c, bs, rfl, h3, h1, h2, r⟩, h4.in_ h2⟩

set_option maxHeartbeats 2000000 in
theorem heldPortS_c (A : Option Addr) (n c k0 : Nat) (w : World) {B : Nat} (hx : SlAt portRd 2 w B A n (marksF mkPort 2 k0 n)) (hn : n ≤ 4294967296) (hk0 : k0 ≤ 4611686018427387904) :
    Calls Try.prog 134 #[.slice A n c, .int .i64 k0] w fun e w' => e = .returned (.int .i64 ((k0 + 2 * n : Nat) : Int)) ∧ w = w' := by
  go_enter Try.func134, Try.ntmps134
  go_wp2
  go_loop [1, 5] (fun kk i => ∃ k : Nat, k ≤ n ∧ i = .int .i64 k ∧ kk = .int .i64 ((k0 : Int) + 2 * k)) (fun _ i => n - (intOf i).toNat)
  case atStart => exact ⟨0, by omega, rfl, by simp⟩
  case round =>
    obtain ⟨k, hk, rfl, rfl⟩ := hrel
    by_cases hlt : k < n
    · obtain ⟨b, off, rfl, hc⟩ : ∃ b off, A = some ⟨b, off, none⟩ ∧ (w.cell? ⟨b, off + k * 2, none⟩ = some (.int .i64 ((k0 : Int) + 2 * k)) ∧ w.cell? ⟨b, off + k * 2 + 1, none⟩ = some (.int .i64 ((k0 : Int) + 2 * k + 1))) := by
        have hxk : (marksF mkPort 2 k0 n)[k]? = some _ := marksF_get hlt
        obtain ⟨b, off, rfl, hb, h⟩ := hx.2 (by omega)
        obtain ⟨cs, hR, hcc⟩ := h _ _ hxk
        have hR : cs = _ := Eq.trans hR (mkPort_cells k0 k)
        subst hR
        exact ⟨b, off, rfl, hcc 0 _ rfl, hcc 1 _ rfl⟩
      obtain ⟨hc0, hc1⟩ := hc
      go_wp2
      go_round
      case rel => exact ⟨k + 1, by omega, by go_num, by go_num⟩
      case measure => simp [intOf]; omega
    · obtain rfl : n = k := by omega
      go_wp2
      go_ret
      exact ⟨rfl, rfl⟩
theorem heldPortS_v (v : Value) (xs : List DPort) (w : World) (k : Int) {B : Nat} (h : RdS portRd 2 w B v (marksF mkPort 2 k.toNat xs.length)) (hs : lenOk xs) (h0 : 0 ≤ k) (hk : k ≤ 4611686018427387904) :
    Calls Try.prog 134 #[v, .int .i64 k] w fun e w' => e = .returned (.int .i64 (k + 2 * xs.length)) ∧ Below w.heap.size w w' := by
  obtain ⟨A, n, c, rfl, h, hnc, hcm⟩ := h
  have hl : n = xs.length := by have := h.len; rw [marksF_len] at this; exact this
  rw [← hl] at h
  obtain ⟨k0, rfl⟩ := Int.eq_ofNat_of_zero_le h0
  refine (heldPortS_c A n c k0 w h (by unfold lenOk at hs; omega) (by omega)).mono ?_
  rintro e w' ⟨rfl, rfl⟩
  exact ⟨retI (by omega), Below.refl _ _⟩

end Go.Proofs.Ytampijkiidjcmaa
