/- The frame of a law over the package variable kindNames: what the condition on the variable gives the walks; a function that returns true and leaves all old memory as it was meets its row. -/
import Derived.Test.YtebioddcnldjkaaDoorKd
import Derived.Test.YtebioddcnldjkaaDoorRows
import Derived.ProofKit
import Derived.LaidMore
import Derived.OpenShut
import Derived.ChangeVars
import Derived.WideKeyArgs
import Derived.Stop.Joined
namespace Go.Proofs.YtebioddcnldjkaaDoor
open Go.ChangeShapes Go.WideShapes Go.ChangeAt Go.RowKit Go.WideElems Go.WideMaps
set_option linter.unusedVariables false
set_option linter.unusedSimpArgs false
theorem own : ownKnob Tryd.prog.godebug = none := by kernel_rfl
theorem laidOut : laidOutB Tryd.prog = true := by kernel_rfl
abbrev kN : String := "loop.example/g01074/impl.kindNames"
abbrev kLaid : List (String × DataW Unit) := [(kN, Rows.laid_loop_example_g01074_impl_kindNames)]
theorem gN : Tryd.prog.globalNamed kN = some 0 := by kernel_rfl
theorem tN : (Tryd.prog.globals[0]?).map (·.type) = some 28 := by kernel_rfl
theorem door_met (os : Os) (args : Array Value) : laidMetH Tryd.prog kLaid ((World.doorLaid Tryd.prog 400 os).forCall (fun _ _ => 0) ⟨#[], args, []⟩).memory :=
  laidMetH_of_parts3 (fuel := 8) (laidMet_of_run' 8 (by kernel_rfl) (by kernel_rfl)) (by kernel_rfl) (by kernel_rfl)
set_option maxHeartbeats 1000000 in
theorem of_laid {W : World} (h : laidMetH Tryd.prog kLaid W) : KindsAt W := by
  rw [MakeChecks.laidMetH_plain _ _ _ (by kernel_rfl)] at h
  obtain ⟨ps, ⟨g0, t0, cs0, f0, p0, q0, hg0, ht0, hv0, hd0, _, _⟩, _, _⟩ := h
  obtain rfl := Option.some.inj (gN.symm.trans hg0)
  obtain rfl := Option.some.inj (tN.symm.trans ht0)
  obtain ⟨xs, m1, rfl, hx1, hlen, hn, hel⟩ := DataW.trod_array Tryd.underlying28 hd0
  have c1 : Tryd.prog.cellsOf 9 = 1 := by kernel_rfl
  intro j hj
  have hj' := hel j hj
  rw [c1, Nat.mul_one] at hj'
  have hx := List.getElem?_eq_getElem (show j < xs.length by omega)
  rw [hx] at hj'
  obtain ⟨s, e1, e2, _⟩ := DataW.trod_string Tryd.underlying9 hj'
  have hc := World.var?_cell hg0 hv0 j
  have hd : (cs0.toList.drop j)[0]? = some (.string s) := by
    cases hq : cs0.toList.drop j with
    | nil => rw [hq] at e1; simp at e1
    | cons a r => rw [hq] at e1; simp at e1; simp [e1]
  rw [List.getElem?_drop, Nat.add_zero, Array.getElem?_toList] at hd
  rw [hc, hd]
  have hA : (xs.map (·.1))[j]? = some (.lit (.string s.data.toList)) := by rw [List.getElem?_map, hx, e2]; rfl
  have hB : xs.map (·.1) = [.lit (.string [114, 111, 111, 116]), .lit (.string [108, 97, 109]), .lit (.string [97, 112, 112]), .lit (.string [102, 97, 110]), .lit (.string [101, 114, 97]), .lit (.string [110, 117, 109]), .lit (.string [111, 112]), .lit (.string [111, 112, 49]), .lit (.string [99, 111, 110]), .lit (.string [109, 97, 116]), .lit (.string [115, 119, 105]), .lit (.string [114, 101, 102])] := by
    simp only [Rows.laid_loop_example_g01074_impl_kindNames, Prod.mk.injEq, DataW.agg.injEq] at hx1
    exact hx1.1.symm
  rw [hB] at hA
  have hs : s.data.toList = (kindName ((j : Int) + 1)).data.toList := by
    have hk : j = 0 ∨ j = 1 ∨ j = 2 ∨ j = 3 ∨ j = 4 ∨ j = 5 ∨ j = 6 ∨ j = 7 ∨ j = 8 ∨ j = 9 ∨ j = 10 ∨ j = 11 := by omega
    rcases hk with rfl | rfl | rfl | rfl | rfl | rfl | rfl | rfl | rfl | rfl | rfl | rfl
    all_goals
      simp only [List.getElem?_cons_succ, List.getElem?_cons_zero, Option.some.injEq, DataW.lit.injEq, Lit.string.injEq] at hA
      rw [← hA]
      rfl
  rw [bytes_inj hs]

section
variable {H : Type} {enc : TypeId × Value → H}

theorem trodAll_stays {W W' : World} {sp : Nat → Bool} (hb : Below W.heap.size W W') : ∀ (ts : List TypeId) (vs : List Value) (ds : List (DataW H)) (ps : List MemPlace),
    (∀ t ∈ ts, Tryd.prog.readableRec t = true ∧ t < Tryd.prog.types.size) → DataW.TrodAll enc Tryd.prog W 0 (fun _ => true) true ts vs ds ps →
    (∀ x ∈ ps, x.block < W.heap.size) → (∀ x ∈ ps, sp x.block = true) → DataW.TrodAll enc Tryd.prog W' 0 sp true ts vs ds ps
  | [], [], [], ps, _, h, _, _ => h
  | t :: ts, v :: vs, d :: ds, ps, hts, h, hlt, hsp => by
    obtain ⟨p, q, h1, h2, rfl⟩ := h
    have ht := hts t (by simp)
    exact ⟨p, q, Trod_stays laidOut ht.1 ht.2 h1 (fun x hx => hb.same (hlt x (by simp [hx]))) (fun x hx => hsp x (by simp [hx])),
      trodAll_stays hb ts vs ds q (fun t' h' => hts t' (by simp [h'])) h2 (fun x hx => hlt x (by simp [hx])) (fun x hx => hsp x (by simp [hx])), rfl⟩
  | [], _ :: _, _, _, _, h, _, _ => h.elim
  | [], [], _ :: _, _, _, h, _, _ => h.elim
  | _ :: _, [], _, _, _, h, _, _ => h.elim
  | _ :: _, _ :: _, [], _, _, h, _, _ => h.elim

theorem trodVars_stays {W W' : World} {sp : Nat → Bool} (hb : Below W.heap.size W W') {gs : List (DataW H)} {q : List MemPlace} (h : DataW.TrodVars enc Tryd.prog W (fun _ => true) [kN] gs q)
    (hlt : ∀ x ∈ q, x.block < W.heap.size) (hsp : ∀ x ∈ q, sp x.block = true) : DataW.TrodVars enc Tryd.prog W' sp [kN] gs q := by
  obtain ⟨g, t, cs, fuel, d, p, rfl, hg, ht, hv, hd, rfl⟩ := trodVars_one h
  obtain rfl := Option.some.inj (gN.symm.trans hg)
  obtain rfl := Option.some.inj (tN.symm.trans ht)
  refine trodVars_mk1 hg ht ?_ (DataW.trod_stays (kids_book laidOut (by kernel_rfl)) (book_sized (by kernel_rfl)) (fun h => by cases h) ⟨by decide +kernel, book_self 28⟩ hd
    (fun x hx => hb.same (hlt x (by simp [hx]))) (fun x hx => hsp x (by simp [hx])))
  rw [← hv]
  unfold World.var?
  rw [hg]
  simp only [Option.bind_some]
  have h0 : 0 < W.heap.size := by
    by_cases h2 : 0 < W.heap.size
    · exact h2
    · simp [World.var?, hg, show ¬ (0 < W.heap.size) from h2] at hv
  rw [hb.block 0 h0]

theorem post_lawV {f : Func} {s : ChangeSpec} {W W' : World} {args : Array Value} {ds gs : List (DataW H)} {before : List MemPlace}
    (hv : s.vars = [kN]) (hr1 : f.resultTypes = #[4])
    (hp0 : (f.params.toList.all fun t => Tryd.prog.readableRec t && decide (t < Tryd.prog.types.size)) = true)
    (hres : (s.fn H (ds ++ gs)).results = [.lit (.bool true)]) (hargs : (s.fn H (ds ++ gs)).args = ds) (hvars : (s.fn H (ds ++ gs)).vars = gs)
    (hW : DataW.Whole enc Tryd.prog f.params.toList s.vars false W args.toList ds gs before)
    (hb : Below W.heap.size W W') :
    s.post enc Tryd.prog f false true false false W args (.bool true) W' := by
  have hp : ∀ t ∈ f.params.toList, Tryd.prog.readableRec t = true ∧ t < Tryd.prog.types.size := fun t ht => by simpa using List.all_eq_true.1 hp0 t ht
  have hlt : ∀ p ∈ before, p.block < W.heap.size := fun p hp => hW.lt p hp
  have hold : ∀ p ∈ before, (fun b => decide (b < W.heap.size)) p.block = true := fun p hp => by simpa using hlt p hp
  have hWh := hW
  obtain ⟨p, q, hA, hV, rfl, hfz, _⟩ := hWh
  rw [hv] at hV
  refine ⟨ds, gs, p ++ q, [], p, q, hW, ?_, ?_, ?_, World.keptBut_mono (fun x hx => ⟨hx, ?_⟩) (hb.frame (· ∈ p ++ q)), fun h => by cases h⟩
  · rw [hres, hr1]
    exact trodAll_cons_mk (shut_bool Tryd.underlying4 _) trodAll_mk0
  · rw [hargs]
    exact trodAll_stays hb _ _ _ _ hp hA (fun x hx => hlt x (by simp [hx])) (fun x hx => hold x (by simp [hx]))
  · rw [hvars, hv]
    exact trodVars_stays hb hV (fun x hx => hlt x (by simp [hx])) (fun x hx => hold x (by simp [hx]))
  · rw [List.mem_append] at hx
    exact Or.inr hx
end
end Go.Proofs.YtebioddcnldjkaaDoor
