/- For all arguments laws.FnExactCheckTypedBook returns true and leaves its arguments as they were: what the program returns is what the reference returns. No condition. -/
import Derived.Test.YtpbobilkejblgaaGreatZCheckTypedBook7
namespace Go.Proofs.YtpbobilkejblgaaGreat
set_option linter.unusedVariables false
set_option linter.unusedSimpArgs false
section
open Go.ChangeShapes Go.WideShapes Go.ChangeAt Go.RowKit Go.WideElems Go.WideMaps
open Go.ChangeMaps (open_string)
set_option maxRecDepth 100000 in
theorem lifted_CheckTypedBook (os:Os) (started:os.Started) (H:Type) (enc:TypeId × Value→H) :
    ReturnsInHanded {} Tryz.checked os 4 .any (Rows.fnExactCheckTypedBookSpec.pre6 enc Tryz.prog Tryz.f4 Rows.fnExactCheckTypedBookRow.domain false) (Rows.fnExactCheckTypedBookSpec.post enc Tryz.prog Tryz.f4 false true false false):=by
  refine returnsInHanded_of_change (C:=Tryz.checked) own started (by kernel_rfl) Tryz.func4
    (ChangeSpec.witness6 (enc:=enc) (C:=Tryz.checked) false ⟨#[],#[.agg #[.slice none 0 0,.slice none 0 0],.slice none 0 0],[]⟩ 8 (by kernel_rfl) (by kernel_rfl) (by kernel_rfl) (by kernel_rfl)) ?_
  intro W base args ds gs before hval0 hW hcnd _
  have hval :∀(j:Nat) t v,Tryz.f4.params[j]? = some t→args[j]? = some v→Value.okWide Tryz.prog W .any base t v:=hval0
  have hW':=hW
  have hlt :∀p∈before,p.block < W.heap.size:=fun p hp=>hW.lt p hp
  obtain ⟨p,q,hA0,hV,rfl,hfz,hnd⟩:=hW
  have hA:DataW.TrodAll enc Tryz.prog W 0 (fun _=>true) true Tryz.f4.params.toList args.toList ds p:=hA0
  rw [Tryz.params4] at hA hval
  obtain ⟨v0,vs0,d0,ds0,p0,q0,hargs,rfl,rfl,h0,r0⟩:=trodAll_cons hA
  obtain ⟨v1,vs1,d1,ds1,p1,q1,rfl,rfl,rfl,h1,r1⟩:=trodAll_cons r0
  obtain ⟨rfl,rfl,rfl⟩:=trodAll_nil r1
  obtain rfl:args = #[v0,v1]:=by cases args; simp_all
  obtain ⟨rfl,rfl⟩:=trodVars_none hV
  obtain ⟨x0,hy0⟩:=open_st opens_Signature Tryz.underlying25 (hval 0 25 v0 rfl rfl) h0
  obtain ⟨hx0,hk0⟩:=sg_split hy0
  obtain ⟨A1,n1,c1,x1,rfl,hy1,hl1,hm1⟩:=open_sl opens_TypedNetS Tryz.underlying50 (hval 1 50 v1 rfl rfl) h1
  obtain ⟨hx1,hk1⟩:=tns_split hy1
  refine (walk_CheckTypedBook W v0 x0 hx0 hk0 (.slice A1 n1 c1) x1 ⟨A1,n1,c1,rfl,hx1,hl1,hm1⟩ ⟨by have:=hx1.len; omega,hk1⟩).mono fun e W' ⟨he,hb⟩=>?_
  subst he
  exact ⟨_,rfl,post_law rfl rfl (by kernel_rfl) rfl rfl rfl hW' hb⟩
theorem over_CheckTypedBook:Rows.fnExactCheckTypedBookRow.holds Tryz.pinned (OpenSpec.ofChange Rows.fnExactCheckTypedBookSpec):=
  OpenClaim.holds_of_wide 4 Tryz.f4 rfl rfl rfl rfl rfl rfl rfl ⟨rfl,rfl,rfl,rfl,rfl⟩ rfl rfl rfl rfl rfl (by kernel_rfl) Tryz.func4 (by kernel_rfl)
    (of_decide_eq_true (by kernel_rfl)) (by unfold Func.isWrapper; first|(rw [if_pos (by decide +kernel)]; kernel_rfl)|(rw [if_neg (by decide +kernel)]; exact ⟨rfl,rfl⟩))
    (fun os started H enc _=>lifted_CheckTypedBook os started H enc)
theorem fnExactCheckTypedBook_holds:Rows.FnExactCheckTypedBookSaid:=over_CheckTypedBook
end
end Go.Proofs.YtpbobilkejblgaaGreat
