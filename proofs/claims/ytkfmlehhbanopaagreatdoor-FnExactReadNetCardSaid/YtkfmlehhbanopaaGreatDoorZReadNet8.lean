/- For all arguments laws.FnExactReadNet returns true and leaves its argument and the package variable kindNames as they were, where the listed variables hold at the start what the texts lay (tied to the texts by the card). No other condition. -/
import Derived.Test.YtkfmlehhbanopaaGreatDoorZReadNet7
namespace Go.Proofs.YtkfmlehhbanopaaGreatDoor
set_option linter.unusedVariables false
set_option linter.unusedSimpArgs false
section
open Go.ChangeShapes Go.WideShapes Go.ChangeAt Go.RowKit Go.WideElems Go.WideMaps
open Go.ChangeMaps (open_string)
abbrev rLaid:List (String × DataW Unit):=Rows.fnExactReadNetRow.laid
set_option maxRecDepth 100000 in
theorem lifted_ReadNet (os:Os) (started:os.Started) (H:Type) (enc:TypeId × Value→H) :
    ReturnsInHanded {} Tryz.checked os 4 .any (fun w args=>(Rows.fnExactReadNetSpec.pre enc Tryz.prog Tryz.f4 [] false w args∧laidMetH Tryz.prog rLaid w)∧sizedMet enc Tryz.prog Tryz.f4 (OpenSpec.ofChange Rows.fnExactReadNetSpec) false w args)
      (Rows.fnExactReadNetSpec.post enc Tryz.prog Tryz.f4 false true false false):=by
  refine wrap_shaped (C:=Tryz.checked) (l:=rLaid) own started (by kernel_rfl) Tryz.func4
    (ChangeSpec.witness_shaped (enc:=enc) (C:=Tryz.checked) (os:=os) (X:=fun w _=>laidMetH Tryz.prog rLaid w) false (World.laidAll Tryz.prog os rLaid) #[.string ⟨#[]⟩] 8 (World.laidAll_os _ _ _)
      (World.shaped_of_ZipB (by kernel_rfl) (by kernel_rfl)) (by kernel_rfl) (by kernel_rfl) (by kernel_rfl)
      (by rw [MakeChecks.laidMetH_plain _ _ _ (by kernel_rfl)]; exact laidMet_laidAll _ (by kernel_rfl) (by kernel_rfl))) ?_
  intro W base args ds gs before hval0 hW hL hS
  have hval :∀(j:Nat) t v,Tryz.f4.params[j]? = some t→args[j]? = some v→Value.okWide Tryz.prog W .any base t v:=hval0
  have hW':=hW
  obtain ⟨p,q,hA0,hV,rfl,hfz,hnd⟩:=hW
  have hA:DataW.TrodAll enc Tryz.prog W 0 (fun _=>true) true Tryz.f4.params.toList args.toList ds p:=hA0
  rw [Tryz.params4] at hA hval
  obtain ⟨v0,d0,rfl,rfl,h0⟩:=trodAll_one hA
  obtain ⟨g,t,cs,fuel,d,pp,rfl,_⟩:=trodVars_one hV
  obtain ⟨a0,rfl,_,_,wa0⟩:=open_string Tryz.underlying9 (hval 0 9 v0 rfl rfl) h0
  have hwr:WR W:=wr_of (l:=rLaid) (by kernel_rfl) (.tail _ (.tail _ (.tail _ (.tail _ (.tail _ (.tail _ (.head _))))))) (.tail _ (.tail _ (.head _))) hL hS
    ⟨_,.tail _ (.tail _ (.tail _ (.tail _ (.tail _ (.head _)))))⟩ ⟨_,.tail _ (.tail _ (.tail _ (.tail _ (.head _))))⟩
  refine (walk_ReadNet W a0 hwr).mono fun e W' ⟨he,hb⟩=>?_
  subst he
  exact ⟨_,rfl,post_lawV rfl rfl (by kernel_rfl) rfl rfl rfl hW' hb⟩
set_option maxRecDepth 100000 in
theorem over_ReadNet:Rows.FnExactReadNetSaid:=
  OpenClaim.holds_of_wide 4 Tryz.f4 rfl rfl rfl rfl rfl rfl rfl ⟨rfl,rfl,rfl,rfl,rfl⟩ rfl rfl rfl rfl rfl (by kernel_rfl) Tryz.func4 (by kernel_rfl)
    (of_decide_eq_true (by kernel_rfl)) (by unfold Func.isWrapper; first|(rw [if_pos (by decide +kernel)]; kernel_rfl)|(rw [if_neg (by decide +kernel)]; exact ⟨rfl,rfl⟩))
    (fun os started H enc _=>lifted_ReadNet os started H enc)
set_option maxRecDepth 100000 in
theorem fnExactReadNet_holds:Rows.FnExactReadNetCardSaid:=
  Claim7.holds_tied_plain_at .later [] [.data,.data,.data,.data,.sentinel,.sentinel,.data,.pinned] true (true,"02cc3f692e3262fd7ecc1a4947116b57146492d8f009b71cb46507c438eded4b") true
    over_ReadNet (fun _ h=>by cases h) (by kernel_rfl) (fun _ h=>by cases h) fnExactReadNet_row_tie rfl ⟨rfl,rfl⟩ (by kernel_rfl) rfl
    (fun f fn hf hfn=>by
      obtain rfl:f=4:=Option.some.inj ((show Tryz.prog.funcNamed "loop.example/g01074/laws.FnExactReadNet" = some 4 by kernel_rfl).symm.trans hf)|>.symm
      obtain rfl:fn=Tryz.f4:=(Option.some.inj (Tryz.func4.symm.trans hfn)).symm
      exact ⟨by kernel_rfl,fun j t ht=>by
        rw [Tryz.params4] at ht
        have hm:t∈[9]:=by simpa using Array.mem_of_getElem? ht
        have hall:([9].all fun u=>!Tryz.prog.wantsStandIn u)=true:=by kernel_rfl
        exact (show Tryz.prog.wantsStandIn t=false by simpa using List.all_eq_true.1 hall t hm)⟩)
    (by kernel_rfl)
end
end Go.Proofs.YtkfmlehhbanopaaGreatDoor
