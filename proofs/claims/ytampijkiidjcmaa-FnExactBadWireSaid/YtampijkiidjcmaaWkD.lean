/- The laws of the walk by explicit steps: slices of the call's own; control; the beginning and the end of a function. -/
import Derived.Test.YtampijkiidjcmaaWkC
namespace Go.Proofs.Ytampijkiidjcmaa
open Go.RowKit
set_option linter.unusedVariables false
set_option linter.unusedSimpArgs false
section
variable {P : Program} {w : World} {f : Nat → Value} {n : Nat} {Q : Exit → Act → World → Prop} {K : Act → World → Prop} {a : Act} {x y : Code} {id id' : Nat} {c : Operand}
theorem then_n (h : K a w) : Exit.then K Q .normal a w := h
theorem then_r (h : Q .ret a w) : Exit.then K Q .ret a w := h
theorem then_x (h : Q (.exit id) a w) : Exit.then K Q (.exit id) a w := h
theorem blk_n (h : Q .normal a w) : Exit.inBlock id Q .normal a w := h
theorem blk_r (h : Q .ret a w) : Exit.inBlock id Q .ret a w := h
theorem blk_hit (h : Q .normal a w) : Exit.inBlock id Q (.exit id) a w := by simp only [Exit.inBlock, if_true]; exact h
theorem blk_miss (hne : (id' == id) = false) (h : Q (.exit id') a w) : Exit.inBlock id Q (.exit id') a w := by
  have : ¬ id' = id := by simpa using hne
  simp only [Exit.inBlock, this, if_false]; exact h
theorem cond_t (hin : opIn n c = true) (hc : ev f c = .bool true) (h : x.wp P Q (Fr n f) w) : (Code.cond c x y).wp P Q (Fr n f) w := wp_cond_true ((Fr_eval hin).trans hc) h
theorem cond_f (hin : opIn n c = true) (hc : ev f c = .bool false) (h : y.wp P Q (Fr n f) w) : (Code.cond c x y).wp P Q (Fr n f) w := wp_cond_false ((Fr_eval hin).trans hc) h
theorem wp_loopF {cd : Code} (I : Nat → (Nat → Value) → World → Prop) (g0 : Nat) (h0 : I g0 f w)
    (round : ∀ g f w, I g f w → cd.wp P (Exit.then (fun a' w' => ∃ g' f', g' < g ∧ a' = Fr n f' ∧ I g' f' w') Q) (Fr n f) w) : (Code.loop cd).wp P Q (Fr n f) w := by
  refine wp_loop_ghost (fun g a w => ∃ f, a = Fr n f ∧ I g f w) g0 ⟨f, rfl, h0⟩ ?_
  rintro g a w ⟨f, rfl, h⟩
  refine Code.wp_mono ?_ (round g f w h)
  intro e a' w' hq
  cases e <;> first | exact hq | skip
  obtain ⟨g', f', h1, h2, h3⟩ := hq
  exact ⟨g', h1, f', h2, h3⟩
theorem enter {gf : FuncId} {fn : Func} {cd : Code} {args : Array Value} {R : Ending → World → Prop} (n : Nat) (hf : P.funcs[gf]? = some fn) (hb : fn.body = some cd) (hn : fn.ntmps = n) (hs : Nat.ble args.size n = true)
    (h : ∀ f, (∀ i v, args[i]? = some v → f i = v) → cd.wp P (bodyPost P fn R) (Fr n f) w) : Calls P gf args w R := by
  refine calls_of_wp hf hb ?_
  have hs' : args.size ≤ n := Nat.le_of_ble_eq_true hs
  have e : ({ tmps := args ++ Array.replicate (fn.ntmps - args.size) undef, defers := [] } : Act) = Fr n (fun i => (args ++ Array.replicate (n - args.size) undef).getD i undef) := by
    rw [hn]
    simp only [Fr, Act.mk.injEq, and_true]
    apply Array.ext_getElem?
    intro i
    have hsz : (args ++ Array.replicate (n - args.size) undef).size = n := by simp; omega
    by_cases hi : i < n
    · simp only [List.getElem?_toArray, List.getElem?_map, List.getElem?_range hi, Option.map_some]
      have h2 : i < (args ++ Array.replicate (n - args.size) undef).size := by rw [hsz]; exact hi
      rw [Array.getElem?_eq_getElem h2, Array.getD, dif_pos h2]
      rfl
    · have h2 : (args ++ Array.replicate (n - args.size) undef).size ≤ i := by rw [hsz]; omega
      rw [Array.getElem?_eq_none h2]
      simp [hi]
  rw [e]
  refine h _ fun i v hi => ?_
  have hlt : i < args.size := (Array.getElem?_eq_some_iff.1 hi).1
  have h2 : i < (args ++ Array.replicate (n - args.size) undef).size := by simp; omega
  simp only [Array.getD, dif_pos h2]
  rw [Array.getElem?_eq_getElem hlt] at hi
  injection hi with hi
  show (args ++ Array.replicate (n - args.size) undef)[i] = v
  rw [Array.getElem_append_left hlt]
  exact hi
theorem ret1 {fn : Func} {R : Ending → World → Prop} {t : Tmp} {v : Value} (hr : fn.results = #[.tmp t]) (ht : Nat.blt t n = true) (hv : f t = v) (h : R (.returned v) w) : bodyPost P fn R .ret (Fr n f) w :=
  ⟨rfl, v, by rw [results_tmp hr]; congr 1; have ht' : t < n := by simpa using ht
              simp [Fr, ht', hv], h⟩
theorem ret2 {fn : Func} {R : Ending → World → Prop} {t1 t2 : Tmp} {v1 v2 : Value} (hr : fn.results = #[.tmp t1, .tmp t2]) (ht : (Nat.blt t1 n && Nat.blt t2 n) = true) (hv1 : f t1 = v1) (hv2 : f t2 = v2) (h : R (.returned (.tuple #[v1, v2])) w) : bodyPost P fn R .ret (Fr n f) w :=
  ⟨rfl, _, by
    rw [results_tmp2 hr]
    simp only [Bool.and_eq_true] at ht
    have h1 : t1 < n := by simpa using ht.1
    have h2 : t2 < n := by simpa using ht.2
    simp only [Fr, Array.getD_eq_getD_getElem?, List.getElem?_toArray, List.getElem?_map, List.getElem?_range h1, List.getElem?_range h2, Option.map_some, Option.getD_some, hv1, hv2], h⟩
theorem ret3 {fn : Func} {R : Ending → World → Prop} {t1 t2 t3 : Tmp} {v1 v2 v3 : Value} (hr : fn.results = #[.tmp t1, .tmp t2, .tmp t3]) (ht : (Nat.blt t1 n && Nat.blt t2 n && Nat.blt t3 n) = true) (hv1 : f t1 = v1) (hv2 : f t2 = v2) (hv3 : f t3 = v3) (h : R (.returned (.tuple #[v1, v2, v3])) w) : bodyPost P fn R .ret (Fr n f) w :=
  ⟨rfl, _, by
    rw [results_tmp3 hr]
    simp only [Bool.and_eq_true] at ht
    have h1 : t1 < n := by simpa using ht.1.1
    have h2 : t2 < n := by simpa using ht.1.2
    have h3 : t3 < n := by simpa using ht.2
    simp only [Fr, Array.getD_eq_getD_getElem?, List.getElem?_toArray, List.getElem?_map, List.getElem?_range h1, List.getElem?_range h2, List.getElem?_range h3, Option.map_some, Option.getD_some, hv1, hv2, hv3], h⟩
theorem ret0 {fn : Func} {R : Ending → World → Prop} (hr : fn.results = #[]) (h : R (.returned (.tuple #[])) w) : bodyPost P fn R .ret (Fr n f) w :=
  ⟨rfl, _, results_none hr _ _ _, h⟩
theorem end0 {fn : Func} {R : Ending → World → Prop} (hr : fn.results = #[]) (h : R (.returned (.tuple #[])) w) : bodyPost P fn R .normal (Fr n f) w :=
  ⟨rfl, _, results_none hr _ _ _, h⟩
/-- A result that lies in a variable in memory. -/
theorem retc {fn : Func} {R : Ending → World → Prop} {t : Tmp} {b o : Nat} {ty : TypeId} {cs : List Value} (hr : fn.results = #[.cell t ty]) (ht : Nat.blt t n = true) (hv : f t = .pointer (some ⟨b, o, none⟩)) (hag : aggO P ty = some cs.length)
    (hc : ∀ j v, cs[j]? = some v → w.cell? ⟨b, o + j, none⟩ = some v) (h : R (.returned (.agg cs.toArray)) w) : bodyPost P fn R .ret (Fr n f) w :=
  ⟨rfl, _, by
    have h1 : t < n := by simpa using ht
    have hl := run_loadN (P := P) (w := w) hag hc
    simp only [Instr.loadAt, Instr.sureAddr, Sem.run_bind, Sem.run_pure, Result.andThen_ok, bind_pure_comp, pure_bind] at hl
    simp only [results, hr]
    simp [Fr, h1, hv, asAddr, hl], h⟩
end
section
variable {P : Program} {f : Nat → Value} {w : World} {n id : Nat} {l : List Oper} {Q : Exit → Act → World → Prop}
theorem RQ_still {ops : Array Oper} {Q : (Nat → Value) → Prop} : ∀ {l : List Oper} {f : Nat → Value}, (∀ o ∈ l, okOp n ops o = true) → RQ P ops (· = w) Q l f → wpStill P ops w (fun a => ∃ f', a = Fr n f' ∧ Q f') l (Fr n f)
  | [], f, _, h => ⟨f, rfl, h⟩
  | o :: rest, f, hin, ⟨v, h1, h2⟩ => by
    have ho := hin o (by simp)
    have ih := RQ_still (fun o' h' => hin o' (by simp [h'])) h2
    unfold wpStill
    rw [Fr_wanted ho]
    rcases h1 with ⟨hw, h1⟩ | ⟨hw, rfl⟩
    · rw [hw, if_pos rfl]
      unfold Oper.still
      rw [Fr_exec ho]
      have h1 := h1 w rfl
      rw [← Fr_put] at ih
      revert h1
      generalize (execOp (ev f) o).run P w = r
      intro h1
      cases r with
      | ok nx w' =>
        cases nx <;> simp only [Oper.quietUpon] at h1 <;> simp only [Oper.stillUpon]
        case value u => obtain ⟨rfl, rfl⟩ := h1; exact ⟨rfl, ih⟩
        case skip => obtain ⟨rfl, rfl⟩ := h1; exact ⟨rfl, ih⟩
        case enter g args => obtain ⟨rfl, hc⟩ := h1; exact ⟨rfl, v, hc, ih⟩
      | halt x w' => simp only [Oper.quietUpon] at h1
    · rw [hw, if_neg (by decide), Fr_put]
      exact ih
theorem RQ_mono {ops : Array Oper} {C : World → Prop} {Q Q' : (Nat → Value) → Prop} (hq : ∀ f, Q f → Q' f) : ∀ {l : List Oper} {f : Nat → Value}, RQ P ops C Q l f → RQ P ops C Q' l f
  | [], f, h => hq f h
  | o :: rest, f, ⟨v, h1, h2⟩ => ⟨v, h1, RQ_mono hq h2⟩
/-- A region that only looks, at one world. -/
theorem wp_rs (hin : okAll n l = true) (h : RQ P l.toArray (· = w) (fun f' => Q .normal (Fr n f') w) l f) : (Code.region id l.toArray false).wp P Q (Fr n f) w :=
  wp_rq (· = w) rfl hin (RQ_mono (fun f' h w' e => by rw [e]; exact h) h)
/-- A region whose calls leave old memory alone. -/
theorem wp_rb (hin : okAll n l = true) (h : RQ P l.toArray (Below w.heap.size w) (fun f' => ∀ w', Below w.heap.size w w' → Q .normal (Fr n f') w') l f) : (Code.region id l.toArray false).wp P Q (Fr n f) w :=
  wp_rq (Below w.heap.size w) (Below.refl _ _) hin h
theorem wp_rbd (hm : P.follows .mixedOrders = true) (hin : (okAll n l && Region.lexB .any l.toArray) = true) (h : RQ P l.toArray (Below w.heap.size w) (fun f' => ∀ w', Below w.heap.size w w' → Q .normal (Fr n f') w') l f) : (Code.region id l.toArray true).wp P Q (Fr n f) w :=
  wp_rq_draw (Below w.heap.size w) (Below.drew (Below.refl _ _)) hm hin h
theorem wpStill_mono {ops : Array Oper} {Q Q' : Act → Prop} (hq : ∀ a, Q a → Q' a) : ∀ {l : List Oper} {a : Act}, wpStill P ops w Q l a → wpStill P ops w Q' l a
  | [], a, h => hq a h
  | o :: rest, a, h => by
    unfold wpStill at h ⊢
    split
    · rename_i hg; rw [if_pos hg] at h; exact Oper.still_mono (fun a h => wpStill_mono hq h) h
    · rename_i hg; rw [if_neg hg] at h; exact wpStill_mono hq h
/-- A region that draws, whose last operations (from number k on, in one forced order) act, and whose others only look: the world behind the draw under a name of its own. -/
theorem wp_rt (k : Nat) (hm : P.follows .mixedOrders = true) (hin : (okAll n l && Region.lexTailB .any l.toArray k) = true)
    (h : ∀ w1, Below w.heap.size w w1 → w1.heap.size = w.heap.size → (∀ b : Nat, w1.heap[b]? = w.heap[b]?) → RQ P l.toArray (· = w1) (fun f' => RL P l.toArray (fun f'' w' => Q .normal (Fr n f'') w') (l.drop k) f' w1) (l.take k) f) :
    (Code.region id l.toArray true).wp P Q (Fr n f) w := by
  simp only [Bool.and_eq_true] at hin
  have hall : ∀ o ∈ l, okOp n l.toArray o = true := fun o ho => List.all_eq_true.1 hin.1 o ho
  refine wp_region_still_tail k hm hin.2 ?_
  have h1 := h { w with drawn := w.drawn + 1 } ⟨rfl, rfl, rfl, Nat.le_refl _, fun _ _ => rfl⟩ rfl (fun _ => rfl)
  refine wpStill_mono ?_ (RQ_still (n := n) (fun o ho => hall o (List.mem_of_mem_take ho)) h1)
  rintro a ⟨f', rfl, h2⟩
  exact RL_list (fun f'' w' h' => h') (fun o ho => hall o (List.mem_of_mem_drop ho)) h2
end
end Go.Proofs.Ytampijkiidjcmaa
