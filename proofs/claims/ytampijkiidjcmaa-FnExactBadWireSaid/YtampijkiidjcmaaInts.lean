/- The helpers of the laws on lists of numbers: their size, copy, equality, marks. -/
import Derived.Test.YtampijkiidjcmaaScal
import Derived.Test.YtampijkiidjcmaaOwn
import Derived.Laws.MakeOwn
namespace Go.Proofs.Ytampijkiidjcmaa
open Go.RowKit
set_option linter.unusedVariables false

theorem szInt64S_c (A : Option Addr) (n c : Nat) (left : Int) (hn : n ≤ 9223372036854775807) (h0 : 0 ≤ left) (h1 : left ≤ 1048576) (w : World) :
    Calls Try.prog 157 #[.slice A n c, .int .i64 left] w fun e w' => e = .returned (.int .i64 (szL left n)) ∧ w = w' := by
  by_cases hl : left - n < 0
  · have He := Lib.hid (szL_neg hl)
    go_enter Try.func157, Try.ntmps157
    go_wp2
    go_ret
    exact ⟨by rw [He.out]; rfl, rfl⟩
  · have He := Lib.hid (szL_pos hl)
    go_enter Try.func157, Try.ntmps157
    go_wp2
    go_ret
    exact ⟨by rw [He.out]; rfl, rfl⟩

theorem eqInt64S_c (A C : Option Addr) (n c m d : Nat) (xs ys : List Int) (w : World) {B : Nat} (hx : SlAt intRd 1 w B A n xs) (hy : SlAt intRd 1 w B C m ys) (hn : n ≤ 9223372036854775807) (hm : m ≤ 9223372036854775807) :
    Calls Try.prog 22 #[.slice A n c, .slice C m d] w fun e w' => e = .returned (.bool (eqL xs ys)) ∧ ∃ q, w' = w.drewN q := by
  have lx := Lib.hid hx.len
  have ly := Lib.hid hy.len
  by_cases hnm : n = m
  · subst hnm
    go_enter Try.func22, Try.ntmps22
    go_wp2
    go_loopw [5] (fun i wr => ∃ k : Nat, k ≤ n ∧ i = .int .i64 k ∧ Hid (xs.take k = ys.take k) ∧ Hid (∃ q, wr = w.drewN q)) (fun i _ => n - (intOf i).toNat)
    case atStart => exact ⟨0, by omega, rfl, rfl, ⟨0, rfl⟩⟩
    case round =>
      obtain ⟨k, hk, rfl, ht, hq⟩ := hrel
      by_cases hlt : k < n
      · obtain ⟨b, off, x, rfl, hb, hxk, hc⟩ := hx.int hlt
        obtain ⟨b', off', y, rfl, hb', hyk, hc'⟩ := hy.int hlt
        have Hxk := Lib.hid hxk
        have Hyk := Lib.hid hyk
        clear hxk hyk
        obtain ⟨q, rfl⟩ := hq
        by_cases hxy : x = y
        · have hf : (x != y) = false := by simp [hxy]
          have Hxy := Lib.hid hxy
          clear hxy
          go_wp2
          go_quiet (fail)
          go_wp2
          go_roundw
          case rel => exact ⟨k + 1, by omega, by go_num, eqL_step Hxk.out Hyk.out ht.out Hxy.out, ⟨_, rfl⟩⟩
          case measure => simp [intOf]; omega
        · have hf : (x != y) = true := by simp [hxy]
          have Hno := Lib.hid (eqL_no Hxk.out Hyk.out hxy)
          clear hxy
          go_wp2
          go_quiet (fail)
          go_wp2
          go_ret
          exact ⟨by rw [Hno.out]; rfl, (by first | exact ⟨_, rfl⟩ | exact ⟨_, World.drewN_drewN _ _ _⟩)⟩
      · have Hyes := Lib.hid (eqL_yes (k := k) ht.out (by have := lx.out; omega) (by have := ly.out; omega))
        obtain ⟨q, rfl⟩ := hq
        go_wp2
        go_ret
        exact ⟨by rw [Hyes.out]; rfl, ⟨_, rfl⟩⟩
  · have Hno := Lib.hid (eqL_len (xs := xs) (ys := ys) (by have := lx.out; have := ly.out; omega))
    have hf : ((n : Int) != (m : Int)) = true := by simp; omega
    go_enter Try.func22, Try.ntmps22
    go_wp2
    go_ret
    exact ⟨by rw [Hno.out]; rfl, ⟨0, rfl⟩⟩

theorem info_int64 : (Try.prog.info? 2).map (fun i => (i.zero, i.size, i.bytes)) = some (some (.int .i64 0), 1, 8) := by kernel_rfl
theorem toInt64S_c (A : Option Addr) (n c : Nat) (xs : List Int) (w : World) {B : Nat} (hx : SlAt intRd 1 w B A n xs) (hB : B ≤ w.heap.size) (hn : n ≤ 4294967296) :
    Calls Try.prog 32 #[.slice A n c] w fun e w' => e = .returned (.slice (some ⟨w.heap.size, 0, none⟩) n n) ∧ OwAt intOw 1 w' (some ⟨w.heap.size, 0, none⟩) n xs [w.heap.size] ∧ Below w.heap.size w w' ∧ w'.heap.size = w.heap.size + 1 := by
  have lx := Lib.hid hx.len
  have hmk := run_make_sz 34 2 Try.underlying34 info_int64 n (by omega) hn
  go_enter Try.func32, Try.ntmps32
  go_wp2
  clear hmk
  go_loopw [4] (fun i wr => ∃ k : Nat, k ≤ n ∧ i = .int .i64 k ∧ Below w.heap.size w wr ∧ Hid (wr.heap.size = w.heap.size + 1) ∧ (∃ arr, Blk wr w.heap.size 2 arr ∧ Hid (arr.size = n)) ∧ ElAt intOw 1 wr w.heap.size 0 (xs.take k) []) (fun i _ => n - (intOf i).toNat)
  case atStart => exact ⟨0, by omega, rfl, (Below.refl _ _).alloc (Nat.le_refl _) _, by simp [Hid], ⟨_, Blk.new _ _ _, by simp [Hid, madeCells_size]⟩, rfl⟩
  case round =>
    obtain ⟨k, hk, rfl, hb, hsz, ⟨arr, harr, hasz⟩, hel⟩ := hrel
    by_cases hlt : k < n
    · obtain ⟨b, off, x, rfl, hlb, hxk, hc⟩ := (hx.below intRd_ok (hb.mono hB)).int hlt
      obtain ⟨z, hz⟩ := harr.some_ (i := k) (by rw [hasz.out]; exact hlt)
      have hfz := harr.frozen k
      have Hxk := Lib.hid hxk
      clear hxk
      have Hel := Lib.hid hel
      clear hel
      go_wp2
      go_roundw
      case rel =>
        refine ⟨k + 1, by omega, by go_num, hb.setCell (by simp) _, by simpa [Hid] using hsz, ⟨_, harr.set_ _ _, by simpa [Hid] using hasz⟩, ?_⟩
        rw [take_succ_some Hxk.out]
        have h1 := ElAt.setRun intOw_ok (vs := [.int .i64 x]) (p := k) Hel.out (by simp) (Or.inr (by have := lx.out; simp; omega))
        refine ElAt.append (b2 := []) h1 (ElAt.one ⟨rfl, rfl⟩ ?_)
        have e : 0 + (xs.take k).length * 1 = k := by have := lx.out; simp; omega
        rw [e]
        exact setRun_csAt (vs := [.int .i64 x]) (fun j hj => ⟨z, by simp at hj; subst hj; simpa using hz⟩) (fun j hj => by simp at hj; subst hj; simpa using hfz)
      case measure => simp [intOf]; omega
    · have hkn : k = n := by omega
      have e : xs.take k = xs := List.take_of_length_le (by have := lx.out; omega)
      rw [e] at hel
      have Hkn := Lib.hid hkn
      clear hkn e
      go_wp2
      go_ret
      exact ⟨rfl, ⟨lx.out, .inr ⟨_, _, [], rfl, rfl, hel⟩⟩, hb, hsz.out⟩

theorem markInt64S_c (A : Option Addr) (n c k0 : Nat) (xs : List Int) (bs : List Nat) (w : World) (hx : OwAt intOw 1 w A n xs bs) (hnd : bs.Nodup) (hn : n ≤ 4294967296) (hk0 : k0 ≤ 4611686018427387904) :
    Calls Try.prog 24 #[.slice A n c, .int .i64 k0] w fun e w' => e = .returned (.int .i64 ((k0 + n : Nat) : Int)) ∧ OwAt intOw 1 w' A n (marks k0 n) bs ∧ Only bs w w' := by
  have lx := Lib.hid hx.len
  have hmid := Lib.hid hx.mid
  clear hx
  go_enter Try.func24, Try.ntmps24
  go_wp2
  go_loopw [1, 5] (fun kk i wr => ∃ k : Nat, k ≤ n ∧ i = .int .i64 k ∧ kk = .int .i64 ((k0 : Int) + k) ∧ Only bs w wr ∧ Hid (MidAt intOw 1 wr A (marks k0 k) (xs.drop k) bs)) (fun _ i _ => n - (intOf i).toNat)
  case atStart => exact ⟨0, by omega, rfl, by simp, Only.refl _ _, hmid.out⟩
  case round =>
    obtain ⟨k, hk, rfl, rfl, ho, hm⟩ := hrel
    by_cases hlt : k < n
    · obtain ⟨x, hxk⟩ : ∃ x, xs[k]? = some x := ⟨_, List.getElem?_eq_getElem (by have := lx.out; omega)⟩
      have hm := hm.out
      rw [drop_some hxk] at hm
      obtain ⟨b, o, cs, b1, bx, b2, rfl, hbs, hO, hc, h1, h2⟩ := hm.next
      obtain ⟨rfl, rfl⟩ := hO
      rw [marks_len, Nat.mul_one] at hc h2
      obtain ⟨hc1, hc2⟩ := hc 0 _ rfl
      rw [Nat.add_zero] at hc1 hc2
      have HN := Lib.hid hbs
      have Hx := Lib.hid hxk
      have H1 := Lib.hid h1
      have H2 := Lib.hid h2
      clear hbs hxk h1 h2 hm hc
      go_wp2
      go_roundw
      case rel =>
        have hnd' := hnd
        rw [HN.out] at hnd'
        have hb : b ∉ b1 ∧ b ∉ b2 := by simpa using (List.nodup_cons.1 hnd').1
        have hlen : (marks k0 k).length = k := marks_len _ _
        refine ⟨k + 1, by omega, by go_num, by go_num, ho.setCell (p := ⟨b, o + k, none⟩) (by rw [HN.out]; simp) _, ?_⟩
        rw [marks_succ, HN.out]
        refine MidAt.step (o := o) rfl (ElAt.setRun intOw_ok (vs := [.int .i64 ((k0 : Int) + k)]) (p := o + k) H1.out hb.1 (Or.inr (by omega))) ⟨rfl, rfl⟩ ?_ ?_
        · rw [hlen, Nat.mul_one]
          exact setRun_csAt (vs := [.int .i64 ((k0 : Int) + k)]) (fun j hj => ⟨_, by simp at hj; subst hj; exact hc1⟩) (fun j hj => by simp at hj; subst hj; exact hc2)
        · rw [hlen, Nat.mul_one]
          exact ElAt.setRun intOw_ok (vs := [.int .i64 ((k0 : Int) + k)]) (p := o + k) H2.out hb.2 (Or.inl (by simp))
      case measure => simp [intOf]; omega
    · obtain rfl : n = k := by omega
      have hm := hm.out
      rw [List.drop_of_length_le (by have := lx.out; omega)] at hm
      have Hm := Lib.hid (hm.whole (n := n) (marks_len _ _).symm)
      clear hm
      go_wp2
      go_ret
      exact ⟨rfl, Hm.out, ho⟩

/-- Do numbers go up by one from k on? -/
def heldI : Nat → List Int → Bool
  | _, [] => true
  | k, x :: xs => decide (x = k) && heldI (k + 1) xs
theorem heldInt64S_c (A : Option Addr) (n c k0 : Nat) (w : World) {B : Nat} (hx : SlAt intRd 1 w B A n (marks k0 n)) (hn : n ≤ 4294967296) (hk0 : k0 ≤ 4611686018427387904) :
    Calls Try.prog 25 #[.slice A n c, .int .i64 k0] w fun e w' => e = .returned (.int .i64 ((k0 + n : Nat) : Int)) ∧ w = w' := by
  go_enter Try.func25, Try.ntmps25
  go_wp2
  go_loop [1, 5] (fun kk i => ∃ k : Nat, k ≤ n ∧ i = .int .i64 k ∧ kk = .int .i64 ((k0 : Int) + k)) (fun _ i => n - (intOf i).toNat)
  case atStart => exact ⟨0, by omega, rfl, by simp⟩
  case round =>
    obtain ⟨k, hk, rfl, rfl⟩ := hrel
    by_cases hlt : k < n
    · obtain ⟨b, off, x, rfl, hb, hxk, hc⟩ := hx.int hlt
      rw [marks_get hlt] at hxk
      obtain rfl : ((k0 + k : Nat) : Int) = x := by injection hxk
      clear hxk
      rw [show (((k0 + k : Nat) : Int)) = (k0 : Int) + k from by omega] at hc
      go_wp2
      go_round
      case rel => exact ⟨k + 1, by omega, by go_num, by go_num⟩
      case measure => simp [intOf]; omega
    · obtain rfl : n = k := by omega
      go_wp2
      go_ret
      exact ⟨rfl, rfl⟩

end Go.Proofs.Ytampijkiidjcmaa
