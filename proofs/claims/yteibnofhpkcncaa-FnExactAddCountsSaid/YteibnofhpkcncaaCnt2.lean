/- AddCounts (chapter 15): the contracts of the program's and the reference's functions. -/
import Derived.Test.YteibnofhpkcncaaCnt
import Derived.Test.YteibnofhpkcncaaOpens
import Derived.Test.YteibnofhpkcncaaApp
import Derived.WalkSpells
namespace Go.Proofs.Yteibnofhpkcncaa
open Go.RowKit
set_option linter.unusedVariables false

def addL (xs ys : List Int) : List Int := List.zipWith (· + ·) xs ys
theorem addL_take {xs ys : List Int} {k : Nat} {x y : Int} (hx : xs[k]? = some x) (hy : ys[k]? = some y) : (addL xs ys).take (k + 1) = (addL xs ys).take k ++ [x + y] := by
  refine take_succ_some ?_
  simp [addL, List.getElem?_zipWith, hx, hy]
def addRes (xs ys : List Int) : List Int × Int := if okCounts xs = true ∧ okCounts ys = true then (if okCounts (addL xs ys) = true then (addL xs ys, 0) else ([], 2)) else ([], 1)
set_option maxHeartbeats 1000000 in
theorem spec_AddCounts (A C : Option Addr) (n c m d : Nat) (xs ys : List Int) (w : World) {B : Nat} (hx : SlAt intRd 1 w B A n xs) (hy : SlAt intRd 1 w B C m ys) (hB : B ≤ w.heap.size) (hn : n ≤ 4294967296) (hm : m ≤ 4294967296) :
    Calls Try.prog 27 #[.slice A n c, .slice C m d] w fun e w' => RetInts w.heap.size w' (addRes xs ys).1 (addRes xs ys).2 e ∧ Below w.heap.size w w' := by
  have hrefl := Below.refl w.heap.size w
  by_cases hbad : okCounts xs = false ∨ okCounts ys = false
  · have He : Hid (addRes xs ys = ([], 1)) := by
      show _ = _
      unfold addRes
      rw [if_neg]
      rintro ⟨e1, e2⟩
      rcases hbad with e | e <;> simp [e1, e2] at e
    cases hok : okCounts xs
    · go_enter Try.func27, Try.ntmps27
      go_wp2_with (go_at_call 55; refine (spec_l15Counts _ _ _ _ _ hx hn).mono ?_; rintro e w' ⟨rfl, rfl⟩)
      go_ret2
      exact ⟨by rw [He.out]; exact RetInts.nil_, hrefl⟩
    · have hok2 : okCounts ys = false := by rcases hbad with e | e; · rw [hok] at e; cases e
                                            · exact e
      clear hbad
      go_enter Try.func27, Try.ntmps27
      go_wp2_with fail
      refine (spec_l15Counts _ _ _ _ _ hx hn).mono ?_
      rintro e w' ⟨rfl, rfl⟩
      go_wp2_with fail
      refine (spec_l15Counts _ _ _ _ _ hy hm).mono ?_
      rintro e w' ⟨rfl, rfl⟩
      go_wp2_with fail
      go_ret2
      exact ⟨by rw [He.out]; exact RetInts.nil_, hrefl⟩
  · have h1 : okCounts xs = true := by cases h : okCounts xs <;> simp_all
    have h2 : okCounts ys = true := by cases h : okCounts ys <;> simp_all
    clear hbad
    have lx : Hid (n = 7) := by show n = 7; rw [hx.len, okCounts_len h1]
    have ly : Hid (m = 7) := by show m = 7; rw [hy.len, okCounts_len h2]
    have lz : Hid ((addL xs ys).length = 7) := by show _ = _; simp [addL, okCounts_len h1, okCounts_len h2]
    have He : Hid (addRes xs ys = if okCounts (addL xs ys) = true then (addL xs ys, 0) else ([], 2)) := by
      show _ = _
      unfold addRes
      rw [if_pos ⟨h1, h2⟩]
    go_enter Try.func27, Try.ntmps27
    go_wp2_with fail
    refine (spec_l15Counts _ _ _ _ _ hx hn).mono ?_
    rintro e w' ⟨rfl, rfl⟩
    go_wp2_with fail
    refine (spec_l15Counts _ _ _ _ _ hy hm).mono ?_
    rintro e w' ⟨rfl, rfl⟩
    go_wp2_with fail
    go_loopw [6, 7] (fun v i wr => ∃ k : Nat, k ≤ n ∧ i = .int .i64 k ∧ wr.ownsRow w.heap.size 2 1 v k (ivals ((addL xs ys).take k)) ∧ Below w.heap.size w wr) (fun _ i _ => n - (intOf i).toNat)
    case atStart => exact ⟨0, by omega, rfl, World.ownsRow_made _ _ 0 (Nat.le_refl _) (by decide) rfl, (Below.refl _ _).alloc (Nat.le_refl _) _⟩
    case round =>
      obtain ⟨k, hk, rfl, hown, hb⟩ := hrel
      by_cases hlt : k < n
      · have hlt' : k < m := by have := lx.out; have := ly.out; omega
        obtain ⟨b, off, x, rfl, hb1, hxk, hc⟩ := (hx.below intRd_ok (hb.mono hB)).int hlt
        obtain ⟨b', off', y, rfl, hb2, hyk, hc'⟩ := (hy.below intRd_ok (hb.mono hB)).int hlt'
        obtain ⟨bx1, bx2⟩ := okCounts_bd h1 hxk
        obtain ⟨by1, by2⟩ := okCounts_bd h2 hyk
        obtain ⟨v', w1, hrun, hown', hb'⟩ := append_int_drew Try.underlying23 info_int64 hown (by omega) hb.size (IntKind.i64.wrap (x + y)) 23
        have Hw : Hid (IntKind.i64.wrap (x + y) = x + y) := IntWalk.i64_in _ (by omega)
        have Ht := Lib.hid (addL_take hxk hyk)
        have Hown := Lib.hid hown'
        have Hrun := Lib.hid hrun
        have Hb := hb' _ hb
        clear hxk hyk hown' hrun hb' hown
        go_wp2_with fail
        go_region_law (refine step_append_run rfl _ _ _ rfl u6 (.slice (some ⟨wr.heap.size, 0, none⟩) 1 1) v' w1 (by simp [Act.eval]) (by simp [Act.eval]) Hrun.out ?_)
        all_goals
          go_wp2_with fail
          go_roundw
          case rel => exact ⟨k + 1, by omega, by go_num, by rw [Ht.out, ← Hw.out]; exact Hown.out, Hb⟩
          case measure => simp [intOf]; omega
      · have hxs : (addL xs ys).take k = addL xs ys := List.take_of_length_le (by have := lx.out; have := lz.out; omega)
        rw [hxs] at hown
        clear hxs
        have hkn : k = n := by omega
        obtain ⟨A', c', bs', rfl, o1, o2, o3, _⟩ := ownsRow_ints hown
        have r1 := o1.reads (intOw_reads wr.heap.size) (fun b hb => (o3 b hb).2)
        have Ho : Hid (RetInts w.heap.size wr (addL xs ys) 0 (.returned (.tuple #[.slice A' k c', .int .i64 0]))) := ⟨A', k, c', bs', rfl, o1, o2, o3⟩
        have Hkn := Lib.hid hkn
        clear hkn o1 o2 o3 hown
        go_wp2_with fail
        refine (spec_l15Counts _ _ _ _ _ r1 (by omega)).mono ?_
        rintro e w' ⟨rfl, rfl⟩
        cases hfin : okCounts (addL xs ys)
        · go_wp2_with fail
          go_ret2
          exact ⟨by rw [He.out, hfin]; exact RetInts.nil_, hb⟩
        · go_wp2_with fail
          go_ret2
          exact ⟨by rw [He.out, hfin]; exact Ho.out, hb⟩

theorem SlAt.cellsI {w : World} {B n : Nat} {b off : Nat} {xs : List Int} (h : SlAt intRd 1 w B (some ⟨b, off, none⟩) n xs) : ∀ j u, (ivals xs)[j]? = some u → w.cell? ((⟨b, off, none⟩ : Addr).add j) = some u := fun j u hj => by
  have hl := lt_of_some hj
  obtain ⟨b', off', x, e, _, hx, hc⟩ := h.int (k := j) (by rw [h.len]; simpa [ivals] using hl)
  injection e with e
  injection e with e1 e2
  subst e1
  subst e2
  have : u = .int .i64 x := by simp [ivals, hx] at hj; exact hj.symm
  subst this
  rw [Addr.add_lit]
  exact hc
def RetRow (B : Nat) (w' : World) (e : TypeId) (n : Nat) (xs : List Int) (en : Ending) : Prop := ∃ v, en = .returned v ∧ w'.ownsRow B e 1 v n (ivals xs)
set_option maxHeartbeats 1000000 in
theorem Clone_ints (A : Option Addr) (n c : Nat) (xs : List Int) (w : World) {B : Nat} (hx : SlAt intRd 1 w B A n xs) (hB : B ≤ w.heap.size) (hn : n ≤ 1073741824) :
    Calls Try.prog 60 #[.slice A n c] w fun e w' => RetRow w.heap.size w' 2 n xs e ∧ Below w.heap.size w w' := by
  have lx := Lib.hid hx.len
  have hnil := fun w => Lib.run_eql_slice_nil (P := Try.prog) w 23 2 A n c 0 0 Try.underlying23
  cases hA : A with
  | none =>
    subst hA
    have hn0 : n = 0 := by
      rcases Nat.eq_zero_or_pos n with h | h
      · exact h
      · obtain ⟨_, _, _, e, _⟩ := hx.int h
        cases e
    have hxs : xs = [] := List.eq_nil_of_length_eq_zero (by rw [← lx.out]; exact hn0)
    have Hxs := Lib.hid hxs
    have hr := Below.refl w.heap.size w
    clear hxs
    subst hn0
    go_enter Try.func60, Try.ntmps60
    go_wp2_with fail
    go_ret
    exact ⟨⟨_, rfl, by rw [Hxs.out]; exact World.ownsRow_nil _ _ _ _⟩, hr⟩
  | some ad =>
    subst hA
    have hown0 : (w.alloc (.cells #[] 2)).ownsRow w.heap.size 2 1 (.slice (some ⟨w.heap.size, 0, none⟩) 0 0) 0 (ivals []) := World.ownsRow_made _ _ 0 (Nat.le_refl _) (by decide) rfl
    have hcells : ∀ j u, (ivals xs)[j]? = some u → (w.alloc (.cells #[] 2)).cell? (ad.add j) = some u := fun j u hj => by
      have hl : j < n := by have := lt_of_some hj; rw [lx.out]; simpa [ivals] using this
      obtain ⟨b, off, _, e, hb, _⟩ := hx.int (k := 0) (by omega)
      injection e with e
      subst e
      have h1 := hx.cellsI j u hj
      rw [Addr.add_lit] at h1 ⊢
      rw [World.cell?_alloc_lt _ _ _ (by show b < _; omega)]
      exact h1
    obtain ⟨v', w1, hrun, hown', _, hb'⟩ := append_row (w := w.alloc (.cells #[] 2)) Try.underlying23 info_int64 rfl (by decide) (by decide) hown0 (by simp) ad n c (ivals xs) (by simp [ivals, lx.out]) hcells (fun u hu => by simp [ivals] at hu; obtain ⟨x, _, rfl⟩ := hu; rfl) (by omega) 23
    have Hrun := Lib.hid hrun
    have Hown := Lib.hid hown'
    have Hb := hb' w.heap.size w (fun g hg => by injection hg with hg; subst hg; exact Nat.le_refl _) (by simp) ((Below.refl _ _).alloc (Nat.le_refl _) _)
    clear hrun hown' hb' hown0
    go_enter Try.func60, Try.ntmps60
    go_wp2_with (at_builtin; refine wpList_append_run rfl _ _ _ rfl (.slice (some ⟨w.heap.size, 0, none⟩) 0 0) (.slice (some ad) n c) v' w1 rfl rfl Hrun.out ?_)
    go_ret
    exact ⟨⟨_, rfl, by simpa [ivals] using Hown.out⟩, Hb⟩

def addMid (xs ys : List Int) (k : Nat) : List Int := (addL xs ys).take k ++ xs.drop k
theorem addMid_get {xs ys : List Int} {k : Nat} {x y : Int} (hx : xs[k]? = some x) (hy : ys[k]? = some y) : (addMid xs ys k)[k]? = some x := by
  have h1 := lt_of_some hx
  have h2 := lt_of_some hy
  unfold addMid
  have hl : ((addL xs ys).take k).length = k := by simp [addL]; omega
  rw [List.getElem?_append_right (by omega), hl, Nat.sub_self, drop_some hx]
  rfl
theorem addMid_set {xs ys : List Int} {k : Nat} {x y : Int} (hx : xs[k]? = some x) (hy : ys[k]? = some y) : (addMid xs ys k).set k (x + y) = addMid xs ys (k + 1) := by
  have h1 := lt_of_some hx
  have h2 := lt_of_some hy
  unfold addMid
  have hl : ((addL xs ys).take k).length = k := by simp [addL]; omega
  rw [List.set_append_right _ _ (by omega), hl, Nat.sub_self, drop_some hx, addL_take hx hy]
  simp
set_option maxHeartbeats 1000000 in
theorem impl_AddCounts (A C : Option Addr) (n c m d : Nat) (xs ys : List Int) (w : World) {B : Nat} (hx : SlAt intRd 1 w B A n xs) (hy : SlAt intRd 1 w B C m ys) (hB : B ≤ w.heap.size) (hn : n ≤ 1073741824) (hm : m ≤ 1073741824) :
    Calls Try.prog 28 #[.slice A n c, .slice C m d] w fun e w' => RetInts w.heap.size w' (addRes xs ys).1 (addRes xs ys).2 e ∧ Below w.heap.size w w' := by
  have hrefl := Below.refl w.heap.size w
  by_cases hbad : okCounts xs = false ∨ okCounts ys = false
  · have He : Hid (addRes xs ys = ([], 1)) := by
      show _ = _
      unfold addRes
      rw [if_neg]
      rintro ⟨e1, e2⟩
      rcases hbad with e | e <;> simp [e1, e2] at e
    cases hok : okCounts xs
    · go_enter Try.func28, Try.ntmps28
      go_wp2_with fail
      refine (impl_ValidCounts _ _ _ _ _ hx (by omega)).mono ?_
      rintro e w' ⟨rfl, rfl⟩
      go_wp2_with fail
      go_ret2
      exact ⟨by rw [He.out]; exact RetInts.nil_, hrefl⟩
    · have hok2 : okCounts ys = false := by rcases hbad with e | e; · rw [hok] at e; cases e
                                            · exact e
      clear hbad
      go_enter Try.func28, Try.ntmps28
      go_wp2_with fail
      refine (impl_ValidCounts _ _ _ _ _ hx (by omega)).mono ?_
      rintro e w' ⟨rfl, rfl⟩
      go_wp2_with fail
      refine (impl_ValidCounts _ _ _ _ _ hy (by omega)).mono ?_
      rintro e w' ⟨rfl, rfl⟩
      go_wp2_with fail
      go_ret2
      exact ⟨by rw [He.out]; exact RetInts.nil_, hrefl⟩
  · have h1 : okCounts xs = true := by cases h : okCounts xs <;> simp_all
    have h2 : okCounts ys = true := by cases h : okCounts ys <;> simp_all
    clear hbad
    have lx : Hid (n = 7) := by show n = 7; rw [hx.len, okCounts_len h1]
    have ly : Hid (m = 7) := by show m = 7; rw [hy.len, okCounts_len h2]
    have lz : Hid ((addL xs ys).length = 7) := by show _ = _; simp [addL, okCounts_len h1, okCounts_len h2]
    have He : Hid (addRes xs ys = if okCounts (addL xs ys) = true then (addL xs ys, 0) else ([], 2)) := by
      show _ = _
      unfold addRes
      rw [if_pos ⟨h1, h2⟩]
    go_enter Try.func28, Try.ntmps28
    go_wp2_with fail
    refine (impl_ValidCounts _ _ _ _ _ hx (by omega)).mono ?_
    rintro e w' ⟨rfl, rfl⟩
    go_wp2_with fail
    refine (impl_ValidCounts _ _ _ _ _ hy (by omega)).mono ?_
    rintro e w' ⟨rfl, rfl⟩
    go_wp2_with fail
    refine (Clone_ints _ _ _ _ _ hx hB hn).mono ?_
    rintro e w1 ⟨⟨v, rfl, hown⟩, hb1⟩
    obtain ⟨g, cap, hv⟩ := row_form hown (by have := lx.out; omega)
    subst hv
    have hg := (hown.lt g rfl).1
    go_wp2_with fail
    go_loopw [21] (fun i wr => ∃ k : Nat, k ≤ m ∧ i = .int .i64 k ∧ wr.ownsRow w.heap.size 2 1 (.slice (some ⟨g, 0, none⟩) n cap) n (ivals (addMid xs ys k)) ∧ Below w.heap.size w wr) (fun i _ => m - (intOf i).toNat)
    case atStart => exact ⟨0, by omega, rfl, by simpa [addMid] using hown, hb1⟩
    case round =>
      obtain ⟨k, hk, rfl, hown2, hb⟩ := hrel
      by_cases hlt : k < m
      · have hlt' : k < n := by have := lx.out; have := ly.out; omega
        obtain ⟨b', off', y, rfl, hb2, hyk, hc'⟩ := (hy.below intRd_ok (hb.mono hB)).int hlt
        obtain ⟨x, hxk⟩ : ∃ x, xs[k]? = some x := ⟨_, List.getElem?_eq_getElem (by have := lx.out; have := hx.len; omega)⟩
        obtain ⟨bx1, bx2⟩ := okCounts_bd h1 hxk
        obtain ⟨by1, by2⟩ := okCounts_bd h2 hyk
        have hc : wr.cell? ⟨g, k, none⟩ = some (.int .i64 x) := by
          rw [hown2.cellAt k (by omega)]
          simp [ivals, addMid_get hxk hyk]
        have hfz := hown2.frozenAt k
        have Hst := Lib.hid (hown2.stored k (.int .i64 (x + y))).1
        have Hset := Lib.hid (addMid_set hxk hyk)
        have Hbs := Lib.hid (hb.setCell (p := ⟨g, k, none⟩) hg (.int .i64 (x + y)))
        clear hxk hyk hown2 hown
        go_wp2_with fail
        go_roundw
        case rel => exact ⟨k + 1, by omega, by go_num, by rw [← Hset.out]; simpa [ivals] using Hst.out, Hbs.out⟩
        case measure => simp [intOf]; omega
      · have hkm : k = m := by omega
        have hxs : addMid xs ys k = addL xs ys := by
          unfold addMid
          rw [List.take_of_length_le (by have := ly.out; have := lz.out; omega), List.drop_of_length_le (by have := lx.out; have := ly.out; have := hx.len; omega), List.append_nil]
        rw [hxs] at hown2
        clear hxs
        obtain ⟨A', c', bs', hv, o1, o2, o3, _⟩ := ownsRow_ints hown2
        injection hv with hv1 _ hv2
        subst hv1
        subst hv2
        have r1 := o1.reads (intOw_reads wr.heap.size) (fun b hb => (o3 b hb).2)
        have Ho : Hid (RetInts w.heap.size wr (addL xs ys) 0 (.returned (.tuple #[.slice (some ⟨g, 0, none⟩) n cap, .int .i64 0]))) := ⟨_, n, cap, bs', rfl, o1, o2, o3⟩
        have Hkn := Lib.hid hkm
        clear hkm o1 o2 o3 hown2 hown
        go_wp2_with fail
        refine (impl_ValidCounts _ _ _ _ _ r1 (by omega)).mono ?_
        rintro e w' ⟨rfl, rfl⟩
        cases hfin : okCounts (addL xs ys)
        · go_wp2_with fail
          go_ret2
          exact ⟨by rw [He.out, hfin]; exact RetInts.nil_, hb⟩
        · go_wp2_with fail
          go_ret2
          exact ⟨by rw [He.out, hfin]; exact Ho.out, hb⟩

end Go.Proofs.Yteibnofhpkcncaa
