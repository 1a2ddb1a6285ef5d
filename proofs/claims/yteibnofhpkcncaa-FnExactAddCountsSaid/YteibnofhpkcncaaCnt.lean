/- Counts and schedules (chapter 15): the contracts of the program's and the reference's functions, and the walks of the laws. -/
import Derived.Test.YteibnofhpkcncaaInts
import Derived.Test.YteibnofhpkcncaaOpens
import Derived.Test.YteibnofhpkcncaaApp
import Derived.WalkSpells
namespace Go.Proofs.Yteibnofhpkcncaa
open Go.RowKit
set_option linter.unusedVariables false

def SomeIdx (b : Bool) (e : Ending) : Prop := ∃ i : Int, e = .returned (.int .i64 i) ∧ decide (0 ≤ i) = b
theorem any_step {α : Type} {p : α → Bool} {xs : List α} {k : Nat} {x : α} (hx : xs[k]? = some x) (h : (xs.take k).any p = false) (hp : p x = false) : (xs.take (k + 1)).any p = false := by
  rw [take_succ_some hx, List.any_append, h]; simp [hp]
theorem any_yes {α : Type} {p : α → Bool} {xs : List α} {k : Nat} {x : α} (hx : xs[k]? = some x) (hp : p x = true) : xs.any p = true :=
  List.any_eq_true.2 ⟨x, List.mem_of_getElem? hx, hp⟩
theorem any_no {α : Type} {p : α → Bool} {xs : List α} {k : Nat} (h : (xs.take k).any p = false) (hk : xs.length ≤ k) : xs.any p = false := by
  rwa [List.take_of_length_le hk] at h
set_option maxRecDepth 100000 in
theorem IndexFunc_ints (F : Nat) (cap : Array Value) (p : Int → Bool) (A : Option Addr) (n c : Nat) (xs : List Int) (w : World) {B : Nat} (hx : SlAt intRd 1 w B A n xs) (hn : n ≤ 4294967296)
    (hcf : ∀ args w, (callFunc F args).run Try.prog w = .ok (.enter F args) w) (hp : ∀ x wx, Calls Try.prog F (#[.int .i64 x] ++ cap) wx fun e w' => e = .returned (.bool (p x)) ∧ wx = w') :
    Calls Try.prog 97 #[.slice A n c, .func (.func F) #[] cap] w fun e w' => SomeIdx (xs.any p) e ∧ w = w' := by
  have lx := Lib.hid hx.len
  have HP := Lib.hid hp
  clear hp
  go_enter Try.func97, Try.ntmps97
  go_wp2_with fail
  go_loop [8] (fun i => ∃ k : Nat, k ≤ n ∧ i = .int .i64 k ∧ Hid ((xs.take k).any p = false)) (fun i => n - (intOf i).toNat)
  case atStart => exact ⟨0, by omega, rfl, rfl⟩
  case round =>
    obtain ⟨k, hk, rfl, hf⟩ := hrel
    by_cases hlt : k < n
    · obtain ⟨b, off, x, rfl, hb, hxk, hc⟩ := hx.int hlt
      have Hxk := Lib.hid hxk
      clear hxk
      go_wp2_with fail
      refine (HP.out x _).mono ?_
      rintro e w' ⟨rfl, rfl⟩
      cases hpx : p x
      · have Hpx := Lib.hid hpx
        clear hpx
        go_wp2
        go_round
        case rel => exact ⟨k + 1, by omega, by go_num, any_step Hxk.out hf.out Hpx.out⟩
        case measure => simp [intOf]; omega
      · have Hpx := Lib.hid (any_yes Hxk.out hpx)
        clear hpx
        go_wp2
        go_ret
        exact ⟨⟨_, rfl, by rw [Hpx.out]; simp⟩, rfl⟩
    · have Hno := Lib.hid (any_no hf.out (by have := lx.out; omega))
      go_wp2_with fail
      go_ret
      exact ⟨⟨_, rfl, by rw [Hno.out]; rfl⟩, rfl⟩
theorem ContainsFunc_ints (F : Nat) (cap : Array Value) (p : Int → Bool) (A : Option Addr) (n c : Nat) (xs : List Int) (w : World) {B : Nat} (hx : SlAt intRd 1 w B A n xs) (hn : n ≤ 4294967296)
    (hcf : ∀ args w, (callFunc F args).run Try.prog w = .ok (.enter F args) w) (hp : ∀ x wx, Calls Try.prog F (#[.int .i64 x] ++ cap) wx fun e w' => e = .returned (.bool (p x)) ∧ wx = w') :
    Calls Try.prog 56 #[.slice A n c, .func (.func F) #[] cap] w fun e w' => e = .returned (.bool (xs.any p)) ∧ w = w' := by
  have Hcf := Lib.hid hcf
  have HP := Lib.hid hp
  clear hp hcf
  go_enter Try.func56, Try.ntmps56
  go_wp2_with fail
  refine (IndexFunc_ints F cap p A n c xs _ hx hn Hcf.out HP.out).mono ?_
  rintro e w' ⟨⟨i, rfl, hi⟩, rfl⟩
  have Hi := Lib.hid hi
  clear hi
  go_wp2_with fail
  go_ret
  exact ⟨retB Hi.out, rfl⟩

def okCounts (xs : List Int) : Bool := decide (xs.length = 7) && !(xs.any fun c => decide (c < 0) || decide (1000000000 < c))
theorem impl_ValidCounts1 (x : Int) (w : World) : Calls Try.prog 57 (#[.int .i64 x] ++ #[]) w fun e w' => e = .returned (.bool (decide (x < 0) || decide (1000000000 < x))) ∧ w = w' := by
  show Calls Try.prog 57 #[.int .i64 x] w _
  go_enter Try.func57, Try.ntmps57
  go_wp2
  all_goals go_ret
  all_goals exact ⟨rfl, rfl⟩
theorem impl_ValidCounts (A : Option Addr) (n c : Nat) (xs : List Int) (w : World) {B : Nat} (hx : SlAt intRd 1 w B A n xs) (hn : n ≤ 4294967296) :
    Calls Try.prog 19 #[.slice A n c] w fun e w' => e = .returned (.bool (okCounts xs)) ∧ w = w' := by
  have lx := hx.len
  by_cases h7 : n = 7
  · have hf : ((n : Int) == 7) = true := by simp; omega
    have He : Hid (okCounts xs = !(xs.any fun c => decide (c < 0) || decide (1000000000 < c))) := by
      show okCounts xs = _
      unfold okCounts
      rw [show xs.length = 7 by omega]
      simp
    clear lx h7
    go_enter Try.func19, Try.ntmps19
    go_wp2_with fail
    refine (ContainsFunc_ints 57 #[] _ A n c xs _ hx hn (fun _ _ => by kernel_rfl) (fun x wx => impl_ValidCounts1 x wx)).mono ?_
    rintro e w' ⟨rfl, rfl⟩
    go_wp2
    go_ret
    exact ⟨by rw [He.out]; rfl, rfl⟩
  · have hf : ((n : Int) == 7) = false := by simp; omega
    have He : Hid (okCounts xs = false) := by
      show okCounts xs = _
      unfold okCounts
      rw [decide_eq_false (by omega)]
      rfl
    clear lx h7
    go_enter Try.func19, Try.ntmps19
    go_wp2
    go_ret
    exact ⟨by rw [He.out]; rfl, rfl⟩

theorem spec_l15Counts (A : Option Addr) (n c : Nat) (xs : List Int) (w : World) {B : Nat} (hx : SlAt intRd 1 w B A n xs) (hn : n ≤ 4294967296) :
    Calls Try.prog 55 #[.slice A n c] w fun e w' => e = .returned (.bool (okCounts xs)) ∧ w = w' := by
  have lx := Lib.hid hx.len
  go_enter Try.func55, Try.ntmps55
  go_wp2_with fail
  go_loop [3] (fun i => ∃ k : Nat, k ≤ n ∧ i = .int .i64 k ∧ Hid (((xs.take k).any fun c => decide (c < 0) || decide (1000000000 < c)) = false)) (fun i => n - (intOf i).toNat)
  case atStart => exact ⟨0, by omega, rfl, rfl⟩
  case round =>
    obtain ⟨k, hk, rfl, hf⟩ := hrel
    by_cases hlt : k < n
    · obtain ⟨b, off, x, rfl, hb, hxk, hc⟩ := hx.int hlt
      have Hxk := Lib.hid hxk
      clear hxk
      go_wp2_with fail
      refine (spec_l00In _ _ _ _).mono ?_
      rintro e w' ⟨rfl, rfl⟩
      cases hpx : inR x 0 1000000000
      · have Hpx : Hid (okCounts xs = false) := by
          show okCounts xs = false
          unfold okCounts
          rw [any_yes Hxk.out (by simp [inR] at hpx ⊢; omega)]
          simp
        clear hpx
        go_wp2
        go_ret
        exact ⟨by rw [Hpx.out]; rfl, rfl⟩
      · have Hpx : Hid ((decide (x < 0) || decide (1000000000 < x)) = false) := by
          show _ = _
          simp [inR] at hpx ⊢; omega
        clear hpx
        go_wp2
        go_round
        case rel => exact ⟨k + 1, by omega, by go_num, any_step Hxk.out hf.out Hpx.out⟩
        case measure => simp [intOf]; omega
    · have Hno : Hid (okCounts xs = decide (xs.length = 7)) := by
        show _ = _
        unfold okCounts
        rw [any_no hf.out (by have := lx.out; omega)]
        simp
      have hh : ((n : Int) == 7) = decide (xs.length = 7) := by
        rw [← lx.out, Bool.eq_iff_iff]; simp; omega
      have Hh := Lib.hid hh
      clear hh
      go_wp2_with fail
      go_ret
      exact ⟨by rw [Hno.out, ← Hh.out]; rfl, rfl⟩

theorem spec_ValidCounts (A : Option Addr) (n c : Nat) (xs : List Int) (w : World) {B : Nat} (hx : SlAt intRd 1 w B A n xs) (hn : n ≤ 4294967296) :
    Calls Try.prog 17 #[.slice A n c] w fun e w' => e = .returned (.bool (okCounts xs)) ∧ w = w' := by
  go_enter Try.func17, Try.ntmps17
  go_wp2_with fail
  refine (spec_l15Counts A n c xs _ hx hn).mono ?_
  rintro e w' ⟨rfl, rfl⟩
  go_wp2_with fail
  go_ret
  exact ⟨rfl, rfl⟩

def okSched (xs : List Int) : Bool := decide (xs.length ≤ 200) && !(xs.any fun c => decide (c < 0) || decide (600 < c))
theorem impl_ValidSchedule1 (x : Int) (w : World) : Calls Try.prog 59 (#[.int .i64 x] ++ #[]) w fun e w' => e = .returned (.bool (decide (x < 0) || decide (600 < x))) ∧ w = w' := by
  show Calls Try.prog 59 #[.int .i64 x] w _
  go_enter Try.func59, Try.ntmps59
  go_wp2
  all_goals go_ret
  all_goals exact ⟨rfl, rfl⟩
theorem impl_ValidSchedule (A : Option Addr) (n c : Nat) (xs : List Int) (w : World) {B : Nat} (hx : SlAt intRd 1 w B A n xs) (hn : n ≤ 4294967296) :
    Calls Try.prog 22 #[.slice A n c] w fun e w' => e = .returned (.bool (okSched xs)) ∧ w = w' := by
  have lx := hx.len
  by_cases h7 : n ≤ 200
  · have hf : decide ((n : Int) ≤ 200) = true := by simp; omega
    have He : Hid (okSched xs = !(xs.any fun c => decide (c < 0) || decide (600 < c))) := by
      show okSched xs = _
      unfold okSched
      rw [decide_eq_true (by omega)]
      simp
    clear lx
    go_enter Try.func22, Try.ntmps22
    go_wp2_with fail
    refine (ContainsFunc_ints 59 #[] _ A n c xs _ hx hn (fun _ _ => by kernel_rfl) (fun x wx => impl_ValidSchedule1 x wx)).mono ?_
    rintro e w' ⟨rfl, rfl⟩
    go_wp2
    go_ret
    exact ⟨by rw [He.out]; rfl, rfl⟩
  · have hf : decide ((n : Int) ≤ 200) = false := by simp; omega
    have He : Hid (okSched xs = false) := by
      show okSched xs = _
      unfold okSched
      rw [decide_eq_false (by omega)]
      rfl
    clear lx
    go_enter Try.func22, Try.ntmps22
    go_wp2
    go_ret
    exact ⟨by rw [He.out]; rfl, rfl⟩

theorem spec_l15Schedule (A : Option Addr) (n c : Nat) (xs : List Int) (w : World) {B : Nat} (hx : SlAt intRd 1 w B A n xs) (hn : n ≤ 4294967296) :
    Calls Try.prog 58 #[.slice A n c] w fun e w' => e = .returned (.bool (okSched xs)) ∧ w = w' := by
  have lx := Lib.hid hx.len
  by_cases h7 : n ≤ 200
  · go_enter Try.func58, Try.ntmps58
    go_wp2_with fail
    go_loop [3] (fun i => ∃ k : Nat, k ≤ n ∧ i = .int .i64 k ∧ Hid (((xs.take k).any fun c => decide (c < 0) || decide (600 < c)) = false)) (fun i => n - (intOf i).toNat)
    case atStart => exact ⟨0, by omega, rfl, rfl⟩
    case round =>
      obtain ⟨k, hk, rfl, hf⟩ := hrel
      by_cases hlt : k < n
      · obtain ⟨b, off, x, rfl, hb, hxk, hc⟩ := hx.int hlt
        have Hxk := Lib.hid hxk
        clear hxk
        go_wp2_with fail
        refine (spec_l00In _ _ _ _).mono ?_
        rintro e w' ⟨rfl, rfl⟩
        cases hpx : inR x 0 600
        · have Hpx : Hid (okSched xs = false) := by
            show okSched xs = false
            unfold okSched
            rw [any_yes Hxk.out (by simp [inR] at hpx ⊢; omega)]
            simp
          clear hpx
          go_wp2
          go_ret
          exact ⟨by rw [Hpx.out]; rfl, rfl⟩
        · have Hpx : Hid ((decide (x < 0) || decide (600 < x)) = false) := by
            show _ = _
            simp [inR] at hpx ⊢; omega
          clear hpx
          go_wp2
          go_round
          case rel => exact ⟨k + 1, by omega, by go_num, any_step Hxk.out hf.out Hpx.out⟩
          case measure => simp [intOf]; omega
      · have Hno : Hid (okSched xs = true) := by
          show _ = _
          unfold okSched
          rw [any_no hf.out (by have := lx.out; omega), decide_eq_true (by have := lx.out; omega)]
          rfl
        go_wp2_with fail
        go_ret
        exact ⟨by rw [Hno.out]; rfl, rfl⟩
  · have He : Hid (okSched xs = false) := by
      show okSched xs = _
      unfold okSched
      rw [decide_eq_false (by have := lx.out; omega)]
      rfl
    go_enter Try.func58, Try.ntmps58
    go_wp2
    go_ret
    exact ⟨by rw [He.out]; rfl, rfl⟩

theorem spec_ValidSchedule (A : Option Addr) (n c : Nat) (xs : List Int) (w : World) {B : Nat} (hx : SlAt intRd 1 w B A n xs) (hn : n ≤ 4294967296) :
    Calls Try.prog 21 #[.slice A n c] w fun e w' => e = .returned (.bool (okSched xs)) ∧ w = w' := by
  go_enter Try.func21, Try.ntmps21
  go_wp2_with fail
  refine (spec_l15Schedule A n c xs _ hx hn).mono ?_
  rintro e w' ⟨rfl, rfl⟩
  go_wp2_with fail
  go_ret
  exact ⟨rfl, rfl⟩

theorem walk_ValidCounts (w : World) (A : Option Addr) (n c : Nat) (xs : List Int) (hx : SlAt intRd 1 w w.heap.size A n xs) (hl : n ≤ c) (hm : c ≤ maxLen) :
    Calls Try.prog 4 #[.slice A n c] w fun e w' => e = .returned (.bool true) ∧ Below w.heap.size w w' := by
  unfold maxLen at hm
  by_cases hbig : 1048576 < n
  · have hr := Below.refl w.heap.size w
    go_enter Try.func4, Try.ntmps4
    go_wp2
    go_ret
    exact ⟨rfl, hr⟩
  · have hn : n ≤ 4294967296 := by omega
    go_enter Try.func4, Try.ntmps4
    go_wp2_with fail
    refine (toInt64S_c A n c xs _ hx (Nat.le_refl _) hn).mono ?_
    rintro e w1 ⟨rfl, o1, b1, s1⟩
    have r1 := o1.reads (intOw_reads w1.heap.size) (by simp [s1])
    have S1 := Lib.hid s1
    clear s1 o1
    go_wp2_with fail
    refine (spec_ValidCounts _ _ _ xs _ r1 hn).mono ?_
    rintro e w2 ⟨rfl, rfl⟩
    go_wp2_with fail
    refine (toInt64S_c A n c xs _ (hx.below intRd_ok b1) b1.size hn).mono ?_
    rintro e w2 ⟨rfl, o2, b2, s2⟩
    have r2 := o2.reads (intOw_reads w2.heap.size) (by simp [s2])
    have b12 := b1.trans (b2.mono b1.size)
    have S2 := Lib.hid s2
    clear s2 o2
    go_wp2_with fail
    refine (impl_ValidCounts _ _ _ xs _ r2 hn).mono ?_
    rintro e w3 ⟨rfl, rfl⟩
    go_wp2_with fail
    refine (toInt64S_c A n c xs _ (hx.below intRd_ok b12) b12.size hn).mono ?_
    rintro e w3 ⟨rfl, o3, b3, s3⟩
    have r3 := o3.reads (intOw_reads w3.heap.size) (by simp [s3])
    have b13 := b12.trans (b3.mono b12.size)
    have S3 := Lib.hid s3
    have r23 := r2.below intRd_ok b3
    clear s3 o3
    go_wp2_with fail
    refine (eqInt64S_c _ _ _ _ _ _ xs xs _ (r23.more intRd_ok b3.size) r3 hn hn).mono ?_
    rintro e w4 ⟨rfl, q, rfl⟩
    have he : eqL xs xs = true := decide_eq_true rfl
    go_wp2
    go_ret
    exact ⟨rfl, b13.trans ⟨rfl, rfl, rfl, Nat.le_refl _, fun _ _ => rfl⟩⟩

theorem walk_ValidSchedule (w : World) (A : Option Addr) (n c : Nat) (xs : List Int) (hx : SlAt intRd 1 w w.heap.size A n xs) (hl : n ≤ c) (hm : c ≤ maxLen) :
    Calls Try.prog 5 #[.slice A n c] w fun e w' => e = .returned (.bool true) ∧ Below w.heap.size w w' := by
  unfold maxLen at hm
  by_cases hbig : 1048576 < n
  · have hr := Below.refl w.heap.size w
    go_enter Try.func5, Try.ntmps5
    go_wp2
    go_ret
    exact ⟨rfl, hr⟩
  · have hn : n ≤ 4294967296 := by omega
    go_enter Try.func5, Try.ntmps5
    go_wp2_with fail
    refine (toInt64S_c A n c xs _ hx (Nat.le_refl _) hn).mono ?_
    rintro e w1 ⟨rfl, o1, b1, s1⟩
    have r1 := o1.reads (intOw_reads w1.heap.size) (by simp [s1])
    have S1 := Lib.hid s1
    clear s1 o1
    go_wp2_with fail
    refine (spec_ValidSchedule _ _ _ xs _ r1 hn).mono ?_
    rintro e w2 ⟨rfl, rfl⟩
    go_wp2_with fail
    refine (toInt64S_c A n c xs _ (hx.below intRd_ok b1) b1.size hn).mono ?_
    rintro e w2 ⟨rfl, o2, b2, s2⟩
    have r2 := o2.reads (intOw_reads w2.heap.size) (by simp [s2])
    have b12 := b1.trans (b2.mono b1.size)
    have S2 := Lib.hid s2
    clear s2 o2
    go_wp2_with fail
    refine (impl_ValidSchedule _ _ _ xs _ r2 hn).mono ?_
    rintro e w3 ⟨rfl, rfl⟩
    go_wp2_with fail
    refine (toInt64S_c A n c xs _ (hx.below intRd_ok b12) b12.size hn).mono ?_
    rintro e w3 ⟨rfl, o3, b3, s3⟩
    have r3 := o3.reads (intOw_reads w3.heap.size) (by simp [s3])
    have b13 := b12.trans (b3.mono b12.size)
    have S3 := Lib.hid s3
    have r23 := r2.below intRd_ok b3
    clear s3 o3
    go_wp2_with fail
    refine (eqInt64S_c _ _ _ _ _ _ xs xs _ (r23.more intRd_ok b3.size) r3 hn hn).mono ?_
    rintro e w4 ⟨rfl, q, rfl⟩
    have he : eqL xs xs = true := decide_eq_true rfl
    go_wp2
    go_ret
    exact ⟨rfl, b13.trans ⟨rfl, rfl, rfl, Nat.le_refl _, fun _ _ => rfl⟩⟩

def sumL (xs : List Int) : Int := xs.foldl (· + ·) 0
theorem sumL_step {xs : List Int} {k : Nat} {x : Int} (hx : xs[k]? = some x) : sumL (xs.take (k + 1)) = sumL (xs.take k) + x := by
  rw [take_succ_some hx]; simp [sumL]
theorem okCounts_bd {xs : List Int} {k : Nat} {x : Int} (h : okCounts xs = true) (hx : xs[k]? = some x) : 0 ≤ x ∧ x ≤ 1000000000 := by
  unfold okCounts at h
  simp only [Bool.and_eq_true, Bool.not_eq_true'] at h
  have := List.any_eq_false.1 h.2 x (List.mem_of_getElem? hx)
  simp at this
  omega
theorem okCounts_len {xs : List Int} (h : okCounts xs = true) : xs.length = 7 := by
  unfold okCounts at h
  simp only [Bool.and_eq_true, decide_eq_true_eq] at h
  exact h.1
theorem sumL_bd {xs : List Int} (h : okCounts xs = true) : ∀ k, k ≤ xs.length → 0 ≤ sumL (xs.take k) ∧ sumL (xs.take k) ≤ 1000000000 * k := by
  intro k
  induction k with
  | zero => intro _; simp [sumL]
  | succ k ih =>
    intro hk
    obtain ⟨x, hx⟩ : ∃ x, xs[k]? = some x := ⟨_, List.getElem?_eq_getElem (by omega)⟩
    have hb := okCounts_bd h hx
    have := ih (by omega)
    rw [sumL_step hx]
    omega
def totalC (xs : List Int) : Int := if okCounts xs = true then sumL xs else 0
theorem spec_TotalCounts (A : Option Addr) (n c : Nat) (xs : List Int) (w : World) {B : Nat} (hx : SlAt intRd 1 w B A n xs) (hn : n ≤ 4294967296) :
    Calls Try.prog 25 #[.slice A n c] w fun e w' => e = .returned (.int .i64 (totalC xs)) ∧ w = w' := by
  cases hok : okCounts xs
  · have He : Hid (totalC xs = 0) := by show totalC xs = 0; simp [totalC, hok]
    go_enter Try.func25, Try.ntmps25
    go_wp2_with (go_at_call 55; refine (spec_l15Counts _ _ _ _ _ hx hn).mono ?_; rintro e w' ⟨rfl, rfl⟩)
    go_ret
    exact ⟨by rw [He.out]; rfl, rfl⟩
  · have He : Hid (totalC xs = sumL xs) := by show totalC xs = _; simp [totalC, hok]
    have lx : Hid (n = 7) := by show n = 7; rw [hx.len, okCounts_len hok]
    have lx' := Lib.hid hx.len
    go_enter Try.func25, Try.ntmps25
    go_wp2_with (go_at_call 55; refine (spec_l15Counts _ _ _ _ _ hx hn).mono ?_; rintro e w' ⟨rfl, rfl⟩)
    go_loop [3, 4] (fun s i => ∃ k : Nat, k ≤ n ∧ i = .int .i64 k ∧ s = .int .i64 (sumL (xs.take k))) (fun _ i => n - (intOf i).toNat)
    case atStart => exact ⟨0, by omega, rfl, rfl⟩
    case round =>
      obtain ⟨k, hk, rfl, rfl⟩ := hrel
      by_cases hlt : k < n
      · obtain ⟨b, off, x, rfl, hb, hxk, hc⟩ := hx.int hlt
        obtain ⟨bx1, bx2⟩ := okCounts_bd hok hxk
        obtain ⟨bs1, bs2⟩ := sumL_bd hok k (by have := lx'.out; omega)
        have hk7 : k < 7 := by have := lx.out; omega
        have Hs := Lib.hid (sumL_step hxk)
        clear hxk
        go_wp2_with fail
        go_round
        case rel => exact ⟨k + 1, by omega, by go_num, by rw [Hs.out]⟩
        case measure => simp [intOf]; omega
      · have hxs : xs.take k = xs := List.take_of_length_le (by have := lx'.out; omega)
        have Hxs := Lib.hid hxs
        clear hxs
        go_wp2_with fail
        go_ret
        exact ⟨by rw [He.out, ← Hxs.out]; simp [Hxs.out], rfl⟩

theorem impl_TotalCounts (A : Option Addr) (n c : Nat) (xs : List Int) (w : World) {B : Nat} (hx : SlAt intRd 1 w B A n xs) (hn : n ≤ 4294967296) :
    Calls Try.prog 26 #[.slice A n c] w fun e w' => e = .returned (.int .i64 (totalC xs)) ∧ w = w' := by
  cases hok : okCounts xs
  · have He : Hid (totalC xs = 0) := by show totalC xs = 0; simp [totalC, hok]
    go_enter Try.func26, Try.ntmps26
    go_wp2_with (go_at_call 19; refine (impl_ValidCounts _ _ _ _ _ hx hn).mono ?_; rintro e w' ⟨rfl, rfl⟩)
    go_ret
    exact ⟨by rw [He.out]; rfl, rfl⟩
  · have He : Hid (totalC xs = sumL xs) := by show totalC xs = _; simp [totalC, hok]
    have lx : Hid (n = 7) := by show n = 7; rw [hx.len, okCounts_len hok]
    have lx' := Lib.hid hx.len
    go_enter Try.func26, Try.ntmps26
    go_wp2_with (go_at_call 19; refine (impl_ValidCounts _ _ _ _ _ hx hn).mono ?_; rintro e w' ⟨rfl, rfl⟩)
    go_loop [3, 11] (fun s i => ∃ k : Nat, k ≤ n ∧ i = .int .i64 k ∧ s = .int .i64 (sumL (xs.take k))) (fun _ i => n - (intOf i).toNat)
    case atStart => exact ⟨0, by omega, rfl, rfl⟩
    case round =>
      obtain ⟨k, hk, rfl, rfl⟩ := hrel
      by_cases hlt : k < n
      · obtain ⟨b, off, x, rfl, hb, hxk, hc⟩ := hx.int hlt
        obtain ⟨bx1, bx2⟩ := okCounts_bd hok hxk
        obtain ⟨bs1, bs2⟩ := sumL_bd hok k (by have := lx'.out; omega)
        have hk7 : k < 7 := by have := lx.out; omega
        have Hs := Lib.hid (sumL_step hxk)
        clear hxk
        go_wp2_with fail
        go_round
        case rel => exact ⟨k + 1, by omega, by go_num, by rw [Hs.out]⟩
        case measure => simp [intOf]; omega
      · have hxs : xs.take k = xs := List.take_of_length_le (by have := lx'.out; omega)
        have Hxs := Lib.hid hxs
        clear hxs
        go_wp2_with fail
        go_ret
        exact ⟨by rw [He.out, ← Hxs.out]; simp [Hxs.out], rfl⟩

theorem walk_TotalCounts (w : World) (A : Option Addr) (n c : Nat) (xs : List Int) (hx : SlAt intRd 1 w w.heap.size A n xs) (hl : n ≤ c) (hm : c ≤ maxLen) :
    Calls Try.prog 7 #[.slice A n c] w fun e w' => e = .returned (.bool true) ∧ Below w.heap.size w w' := by
  unfold maxLen at hm
  by_cases hbig : 1048576 < n
  · have hr := Below.refl w.heap.size w
    go_enter Try.func7, Try.ntmps7
    go_wp2
    go_ret
    exact ⟨rfl, hr⟩
  · have hn : n ≤ 4294967296 := by omega
    go_enter Try.func7, Try.ntmps7
    go_wp2_with fail
    refine (toInt64S_c A n c xs _ hx (Nat.le_refl _) hn).mono ?_
    rintro e w1 ⟨rfl, o1, b1, s1⟩
    have r1 := o1.reads (intOw_reads w1.heap.size) (by simp [s1])
    have S1 := Lib.hid s1
    clear s1 o1
    go_wp2_with fail
    refine (spec_TotalCounts _ _ _ xs _ r1 hn).mono ?_
    rintro e w2 ⟨rfl, rfl⟩
    go_wp2_with fail
    refine (toInt64S_c A n c xs _ (hx.below intRd_ok b1) b1.size hn).mono ?_
    rintro e w2 ⟨rfl, o2, b2, s2⟩
    have r2 := o2.reads (intOw_reads w2.heap.size) (by simp [s2])
    have b12 := b1.trans (b2.mono b1.size)
    have S2 := Lib.hid s2
    clear s2 o2
    go_wp2_with fail
    refine (impl_TotalCounts _ _ _ xs _ r2 hn).mono ?_
    rintro e w3 ⟨rfl, rfl⟩
    go_wp2_with fail
    refine (toInt64S_c A n c xs _ (hx.below intRd_ok b12) b12.size hn).mono ?_
    rintro e w3 ⟨rfl, o3, b3, s3⟩
    have r3 := o3.reads (intOw_reads w3.heap.size) (by simp [s3])
    have b13 := b12.trans (b3.mono b12.size)
    have S3 := Lib.hid s3
    have r23 := r2.below intRd_ok b3
    clear s3 o3
    go_wp2_with fail
    refine (eqInt64S_c _ _ _ _ _ _ xs xs _ (r23.more intRd_ok b3.size) r3 hn hn).mono ?_
    rintro e w4 ⟨rfl, q, rfl⟩
    have he : eqL xs xs = true := decide_eq_true rfl
    go_wp2
    go_ret
    exact ⟨rfl, b13.trans ⟨rfl, rfl, rfl, Nat.le_refl _, fun _ _ => rfl⟩⟩

end Go.Proofs.Yteibnofhpkcncaa
