/- Lemmas of the proof of CheckTypedBook, part 7. No condition. -/
import Derived.Test.YtpbobilkejblgaaGreatZCheckTypedBook6
namespace Go.Proofs.YtpbobilkejblgaaGreat
set_option linter.unusedVariables false
set_option linter.unusedSimpArgs false
section
open Go.RowKit
set_option maxRecDepth 100000
noncomputable def m_impl_Signature_obeys_1 (d0:DType):Option Bool:=
  some (d0.kind==1)
set_option maxHeartbeats 2000000 in
theorem c_m_impl_Signature_obeys_1 (d0:DType) (r:Bool) (hm:m_impl_Signature_obeys_1 d0=some r) (v0:Value) (w:World) (hv0:St typeRd w v0 d0) :
    Calls Tryz.prog 157 #[v0] w fun e w'=>e=.returned (.bool r)∧Below w.heap.size w w':=by
  obtain ⟨csa0,rfl,hRR0⟩:=hv0
  obtain ⟨A1,n1,c1,rfl,⟨h1,r1⟩⟩:=(typeRd_out hRR0)
  have e1:=h1.len; subst e1
  have q1:=len_le r1
  have T:=Below.refl w.heap.size w
  unfold m_impl_Signature_obeys_1 at hm
  refine enter 6 Tryz.func157 rfl rfl rfl ?_
  intro f hf
  have s0:f 0=.agg #[.int .i64 d0.kind,.string d0.name,.slice A1 d0.kids.length c1]:=hf 0 _ rfl
  refine wp_seq<|wp_rl rfl ?_
  refine RL.box rfl s0 (fun w2 B3 hb4 szw2=>?_)
  replace B3:Blk w2 w.heap.size 114 #[.int .i64 d0.kind,.string d0.name,.slice A1 d0.kids.length c1]:=B3
  have GB3:w.heap.size≤w.heap.size:=T.size
  have T:=Tt T hb4
  refine RL.y rfl (Y.assign (v:=.bool false) rfl)<|RL.nil<|then_n<|wp_seq<|wp_rs rfl<|RQ.y rfl (Y.fieldAddr (off:=0) rfl (by kernel_rfl))<|RQ.y rfl (Y.load (v:=.int .i64 d0.kind) rfl (by kernel_rfl) (eqC (blkCell B3 (i:=0) rfl)))<|RQ.y rfl (Y.binI (v:=.bool (d0.kind==1)) rfl rfl rfl)<|RQ.y rfl (Y.assign (v:=.bool (d0.kind==1)) rfl)<|RQ.nil<|then_n<|wp_ret ?_
  obtain rfl:=sj hm
  exact (ret1 rfl rfl rfl ⟨rfl,T⟩)
noncomputable def m_impl_Signature_obeys_2 (d0:DType) (d1:Unit):Option Bool:=
  ((m_impl_Signature_obeys_1 d0).bind fun y6=>some (!y6))
set_option maxHeartbeats 2000000 in
theorem c_m_impl_Signature_obeys_2 (d0:DType) (d1:Unit) (r:Bool) (hm:m_impl_Signature_obeys_2 d0 d1=some r) (v0:Value) (v1:Value) (w:World) (hv0:St typeRd w v0 d0) (hv1:Pt (fncRd 157) w v1 d1) :
    Calls Tryz.prog 159 #[v0,v1] w fun e w'=>e=.returned (.bool r)∧Below w.heap.size w w':=by
  obtain ⟨csa0,rfl,hRR0⟩:=hv0
  obtain ⟨A1,n1,c1,rfl,⟨h1,r1⟩⟩:=(typeRd_out hRR0)
  have e1:=h1.len; subst e1
  have q1:=len_le r1
  obtain ⟨ba1,oa1,csa1,rfl,hba1,hRa1,hca1⟩:=hv1
  have hSa1:=hRa1
  obtain rfl:=hRa1
  have T:=Below.refl w.heap.size w
  unfold m_impl_Signature_obeys_2 at hm
  refine enter 8 Tryz.func159 rfl rfl rfl ?_
  intro f hf
  have s0:f 0=.agg #[.int .i64 d0.kind,.string d0.name,.slice A1 d0.kids.length c1]:=hf 0 _ rfl
  have s1:f 1=.pointer (some ⟨ba1,oa1,none⟩):=hf 1 _ rfl
  refine wp_seq<|wp_rl rfl ?_
  refine RL.box rfl s0 (fun w2 B3 hb4 szw2=>?_)
  replace B3:Blk w2 w.heap.size 114 #[.int .i64 d0.kind,.string d0.name,.slice A1 d0.kids.length c1]:=B3
  have GB3:w.heap.size≤w.heap.size:=T.size
  have T:=Tt T hb4
  refine RL.y rfl (Y.assign (v:=.bool false) rfl)<|RL.nil<|then_n<|wp_seq<|wp_rb rfl<|RQ.y rfl (Y.load (v:=.func (.func 157) #[] #[]) s1 (by kernel_rfl) (beC (cellT T (hca1 0 _ rfl))))<|RQ.y rfl (Y.loadN (cs:=[.int .i64 d0.kind,.string d0.name,.slice A1 d0.kids.length c1]) rfl (by kernel_rfl) (cells3 (beC (blkCell B3 (i:=0) rfl)) (beC (blkCell B3 (i:=1) rfl)) (beC (blkCell B3 (i:=2) rfl)))) ?_
  obtain ⟨y6,e7,hm⟩:=bnd hm
  refine RQ.callV rfl rfl (am1 rfl) (by kernel_rfl) (v:=.bool y6) (bel (K:=fun _=>True) fun w' hb'=>(c_m_impl_Signature_obeys_1 d0 _ e7 _ w' (stArg (R:=typeRd) (typeRd_in ⟨_,_,_,rfl,⟨SlAt.now typeRd_ok h1 (Nat.le_refl _) (Tt T hb'),r1⟩⟩))))<|RQ.y rfl (Y.not (b':=(!y6)) rfl rfl)<|RQ.y rfl (Y.assign (v:=.bool (!y6)) rfl)<|RQ.nil ?_
  intro w8 hb9
  have szw8:=hb9.size
  have T:=Tt T hb9
  refine then_n<|wp_ret ?_
  obtain rfl:=sj hm
  exact (ret1 rfl rfl rfl ⟨rfl,T⟩)
noncomputable def m_impl_Signature_obeys_3 (d0:DConstructor) (d1:Int) (d2:DSignature) (d3:List DType):Option Bool:=
  ((getI d3 1).bind fun x11=>((fieldsM d0.fields x11).bind fun y21=>((m_impl_Signature_hasType d2 d1 y21).bind fun y31=>some y31)))
set_option maxHeartbeats 2000000 in
theorem c_m_impl_Signature_obeys_3 (d0:DConstructor) (d1:Int) (d2:DSignature) (d3:List DType) (r:Bool) (hm:m_impl_Signature_obeys_3 d0 d1 d2 d3=some r) (v0:Value) (v2:Value) (v3:Value) (w:World) (hv0:St constructorRd w v0 d0) (hv2:Pt signatureRd w v2 d2) (hv3:Pt (slRd typeRd 3) w v3 d3) :
    Calls Tryz.prog 163 #[v0,.int .i64 d1,v2,v3] w fun e w'=>e=.returned (.bool r)∧Below w.heap.size w w':=by
  obtain ⟨csa0,rfl,⟨A1,n1,c1,rfl,⟨h1,r1⟩⟩⟩:=hv0
  have e1:=h1.len; subst e1
  have q1:=len_le r1
  obtain ⟨ba2,oa2,csa2,rfl,hba2,hRa2,hca2⟩:=hv2
  have hSa2:=hRa2
  obtain ⟨A2,n2,c2,A3,n3,c3,rfl,⟨h2,r2⟩,⟨h3,r3⟩⟩:=hRa2
  have e2:=h2.len; subst e2
  have q2:=len_le r2
  have e3:=h3.len; subst e3
  have q3:=len_le r3
  obtain ⟨ba3,oa3,csa3,rfl,hba3,hRa3,hca3⟩:=hv3
  have hSa3:=hRa3
  obtain ⟨A4,n4,c4,rfl,h4,r4⟩:=hRa3
  have e4:=h4.len; subst e4
  have q4:=len_le r4
  have T:=Below.refl w.heap.size w
  unfold m_impl_Signature_obeys_3 at hm
  refine enter 16 Tryz.func163 rfl rfl rfl ?_
  intro f hf
  have s0:f 0=.agg #[.string d0.name,.slice A1 d0.fields.length c1]:=hf 0 _ rfl
  have s1:f 1=.int .i64 d1:=hf 1 _ rfl
  have s2:f 2=.pointer (some ⟨ba2,oa2,none⟩):=hf 2 _ rfl
  have s3:f 3=.pointer (some ⟨ba3,oa3,none⟩):=hf 3 _ rfl
  refine wp_seq<|wp_rl rfl ?_
  refine RL.box rfl s0 (fun w5 B6 hb7 szw5=>?_)
  replace B6:Blk w5 w.heap.size 173 #[.string d0.name,.slice A1 d0.fields.length c1]:=B6
  have GB6:w.heap.size≤w.heap.size:=T.size
  have T:=Tt T hb7
  refine RL.y rfl (Y.assign (v:=.bool false) rfl)<|RL.nil<|then_n<|wp_seq ?_
  refine wp_rg (fun w'=>Below w.heap.size w w'∧Blk w' w.heap.size 173 #[.string d0.name,.slice A1 d0.fields.length c1]) [(0,true),(1,true),(2,true),(3,true),(4,true),(5,true),(6,true),(7,false),(8,false),(9,true)] (by kernel_rfl) (by kernel_rfl) (fun w9 hb10 szw9=>?_)
  have B6:=blkT B6 hb10
  have T:=Tt T hb10
  refine ⟨⟨T,B6⟩,?_⟩
  refine RG.y rfl rfl (Y.loadN (cs:=[.slice A2 d2.datas.length c2,.slice A3 d2.defs.length c3]) s2 (by kernel_rfl) (cells2 (fun w' hS=>(cellT hS.1 (hca2 0 _ rfl))) (fun w' hS=>(cellT hS.1 (hca2 1 _ rfl)))))<|RG.y rfl rfl (Y.move (v:=.int .i64 d1) s1)<|RG.y rfl rfl (Y.fieldAddr (off:=1) rfl (by kernel_rfl))<|RG.y rfl rfl (Y.load (v:=.slice A1 d0.fields.length c1) rfl (by kernel_rfl) (fun w' hS=>(blkCell hS.2 (i:=1) rfl)))<|RG.y rfl rfl (Y.load (v:=.slice A4 d3.length c4) s3 (by kernel_rfl) (fun w' hS=>(cellT hS.1 (hca3 0 _ rfl)))) ?_
  obtain ⟨x11,hx14,hm⟩:=bnd hm
  obtain ⟨k12,hk15,hl16,hx14⟩:=getI_some hx14
  obtain ⟨b18,o19,rfl,hbb18⟩:=h4.addr (by omega)
  obtain ⟨cs13,hRcs13,hc17⟩:=h4.el hx14
  have hScs13:=hRcs13
  obtain ⟨A20,n20,c20,rfl,⟨h20,r20⟩⟩:=(typeRd_out hRcs13)
  have e20:=h20.len; subst e20
  have q20:=len_le r20
  refine RG.y rfl rfl (Y.indexAddr (m:=k12) (sz:=3) rfl rfl hk15 hl16 (by kernel_rfl))<|RG.y rfl rfl (Y.loadN (cs:=[.int .i64 x11.kind,.string x11.name,.slice A20 x11.kids.length c20]) rfl (by kernel_rfl) (cells3 (fun w' hS=>(cellT hS.1 (hc17 0 _ rfl))) (fun w' hS=>(cellT hS.1 (hc17 1 _ rfl))) (fun w' hS=>(cellT hS.1 (hc17 2 _ rfl)))))<|RG.act rfl ?_
  obtain ⟨y21,e22,hm⟩:=bnd hm
  refine RL.call rfl (am2 rfl rfl) (by kernel_rfl) ((c_fieldsM d0.fields x11 _ e22 _ _ _ (slArg typeRd_ok h1 r1 T) (stArg (R:=typeRd) (typeRd_in ⟨_,_,_,rfl,⟨SlAt.now typeRd_ok h20 (Nat.le_refl _) T,r20⟩⟩))).mono ?_)
  rintro _ w25 ⟨⟨v23,rfl,hv24⟩,hb26⟩
  refine ⟨_,rfl,?_⟩
  have szw25:=hb26.size
  have B6:=blkT B6 hb26
  have T:=Tt T hb26
  obtain ⟨cs28,rfl,hR29⟩:=hv24
  obtain ⟨A30,n30,c30,rfl,⟨h30,r30⟩⟩:=(typeRd_out hR29)
  have e30:=h30.len; subst e30
  have q30:=len_le r30
  have U27:=Below.refl w25.heap.size w25
  refine RL.nil ⟨⟨T,B6⟩,?_⟩
  refine RG.act rfl ?_
  obtain ⟨y31,e32,hm⟩:=bnd hm
  refine RL.call rfl (am3 rfl rfl rfl) (by kernel_rfl) ((c_m_impl_Signature_hasType d2 d1 y21 _ e32 _ _ _ (stArg (R:=signatureRd) ⟨_,_,_,_,_,_,rfl,⟨SlAt.now dataRd_ok h2 (Nat.le_refl _) T,r2⟩,⟨SlAt.now typeRd_ok h3 (Nat.le_refl _) T,r3⟩⟩) (stArg (R:=typeRd) (typeRd_in ⟨_,_,_,rfl,⟨SlAt.now typeRd_ok h30 (Nat.le_refl _) U27,r30⟩⟩))).mono ?_)
  rintro _ w33 ⟨rfl,hb34⟩
  refine ⟨_,rfl,?_⟩
  have szw33:=hb34.size
  have B6:=blkT B6 hb34
  try have U27:=Tt U27 hb34
  have T:=Tt T hb34
  refine RL.nil ⟨⟨T,B6⟩,?_⟩
  refine RG.y rfl rfl (Y.assign (v:=.bool y31) rfl)<|RG.nil<|then_n<|wp_ret ?_
  obtain rfl:=sj hm
  exact (ret1 rfl rfl rfl ⟨rfl,T⟩)
noncomputable def m_impl_Signature_obeys_4 (d0:Int) (d1:DSignature) (d2:List DType):Option Bool:=
  ((getI d2 1).bind fun x4=>((m_impl_Signature_hasType d1 d0 x4).bind fun y14=>some (!y14)))
set_option maxHeartbeats 2000000 in
theorem c_m_impl_Signature_obeys_4 (d0:Int) (d1:DSignature) (d2:List DType) (r:Bool) (hm:m_impl_Signature_obeys_4 d0 d1 d2=some r) (v1:Value) (v2:Value) (w:World) (hv1:Pt signatureRd w v1 d1) (hv2:Pt (slRd typeRd 3) w v2 d2) :
    Calls Tryz.prog 167 #[.int .i64 d0,v1,v2] w fun e w'=>e=.returned (.bool r)∧Below w.heap.size w w':=by
  obtain ⟨ba1,oa1,csa1,rfl,hba1,hRa1,hca1⟩:=hv1
  have hSa1:=hRa1
  obtain ⟨A1,n1,c1,A2,n2,c2,rfl,⟨h1,r1⟩,⟨h2,r2⟩⟩:=hRa1
  have e1:=h1.len; subst e1
  have q1:=len_le r1
  have e2:=h2.len; subst e2
  have q2:=len_le r2
  obtain ⟨ba2,oa2,csa2,rfl,hba2,hRa2,hca2⟩:=hv2
  have hSa2:=hRa2
  obtain ⟨A3,n3,c3,rfl,h3,r3⟩:=hRa2
  have e3:=h3.len; subst e3
  have q3:=len_le r3
  have T:=Below.refl w.heap.size w
  unfold m_impl_Signature_obeys_4 at hm
  refine enter 12 Tryz.func167 rfl rfl rfl ?_
  intro f hf
  have s0:f 0=.int .i64 d0:=hf 0 _ rfl
  have s1:f 1=.pointer (some ⟨ba1,oa1,none⟩):=hf 1 _ rfl
  have s2:f 2=.pointer (some ⟨ba2,oa2,none⟩):=hf 2 _ rfl
  refine wp_seq<|wp_rs rfl<|RQ.y rfl (Y.assign (v:=.bool false) rfl)<|RQ.nil<|then_n<|wp_seq<|wp_rbd (by kernel_rfl) (by kernel_rfl)<|RQ.y rfl (Y.loadN (cs:=[.slice A1 d1.datas.length c1,.slice A2 d1.defs.length c2]) s1 (by kernel_rfl) (cells2 (beC (cellT T (hca1 0 _ rfl))) (beC (cellT T (hca1 1 _ rfl)))))<|RQ.y rfl (Y.move (v:=.int .i64 d0) s0)<|RQ.y rfl (Y.load (v:=.slice A3 d2.length c3) s2 (by kernel_rfl) (beC (cellT T (hca2 0 _ rfl)))) ?_
  obtain ⟨x4,hx7,hm⟩:=bnd hm
  obtain ⟨k5,hk8,hl9,hx7⟩:=getI_some hx7
  obtain ⟨b11,o12,rfl,hbb11⟩:=h3.addr (by omega)
  obtain ⟨cs6,hRcs6,hc10⟩:=h3.el hx7
  have hScs6:=hRcs6
  obtain ⟨A13,n13,c13,rfl,⟨h13,r13⟩⟩:=(typeRd_out hRcs6)
  have e13:=h13.len; subst e13
  have q13:=len_le r13
  refine RQ.y rfl (Y.indexAddr (m:=k5) (sz:=3) rfl rfl hk8 hl9 (by kernel_rfl))<|RQ.y rfl (Y.loadN (cs:=[.int .i64 x4.kind,.string x4.name,.slice A13 x4.kids.length c13]) rfl (by kernel_rfl) (cells3 (beC (cellT T (hc10 0 _ rfl))) (beC (cellT T (hc10 1 _ rfl))) (beC (cellT T (hc10 2 _ rfl))))) ?_
  obtain ⟨y14,e15,hm⟩:=bnd hm
  refine RQ.call rfl (am3 rfl rfl rfl) (by kernel_rfl) (v:=.bool y14) (bel (K:=fun _=>True) fun w' hb'=>(c_m_impl_Signature_hasType d1 d0 x4 _ e15 _ _ w' (stArg (R:=signatureRd) ⟨_,_,_,_,_,_,rfl,⟨SlAt.now dataRd_ok h1 (Nat.le_refl _) (Tt T hb'),r1⟩,⟨SlAt.now typeRd_ok h2 (Nat.le_refl _) (Tt T hb'),r2⟩⟩) (stArg (R:=typeRd) (typeRd_in ⟨_,_,_,rfl,⟨SlAt.now typeRd_ok h13 (Nat.le_refl _) (Tt T hb'),r13⟩⟩))))<|RQ.y rfl (Y.not (b':=(!y14)) rfl rfl)<|RQ.y rfl (Y.assign (v:=.bool (!y14)) rfl)<|RQ.nil ?_
  intro w16 hb17
  have szw16:=hb17.size
  have T:=Tt T hb17
  refine then_n<|wp_ret ?_
  obtain rfl:=sj hm
  exact (ret1 rfl rfl rfl ⟨rfl,T⟩)
noncomputable def m_slices_EqualFunc_impl_Constructor_int64_impl_Constructor_int64_A1:Option Bool:=
  some true
noncomputable def m_slices_EqualFunc_impl_Constructor_int64_impl_Constructor_int64_B1 (d0:List DConstructor) (d1:List Int) (d2:DConstructor→Int→Option Bool) (rec1:Int→Option Bool) (K1:Option Bool) (i3:Int):Option Bool:=
  (bif (decide (i3 < (d0.length:Int))) then ((getI d0 i3).bind fun x6=>((getI d1 i3).bind fun x23=>((d2 x6 x23).bind fun y32=>(bif y32 then (rec1 (i3+1)) else some false)))) else (K1))
noncomputable def m_slices_EqualFunc_impl_Constructor_int64_impl_Constructor_int64_L1 (d0:List DConstructor) (d1:List Int) (d2:DConstructor→Int→Option Bool) (K1:Option Bool):Nat→Int→Option Bool
  |0,_=>none
  |g+1,i3=>m_slices_EqualFunc_impl_Constructor_int64_impl_Constructor_int64_B1 d0 d1 d2 (m_slices_EqualFunc_impl_Constructor_int64_impl_Constructor_int64_L1 d0 d1 d2 K1 g) K1 i3
noncomputable def m_slices_EqualFunc_impl_Constructor_int64_impl_Constructor_int64 (d0:List DConstructor) (d1:List Int) (d2:DConstructor→Int→Option Bool):Option Bool:=
  (bif ((d0.length:Int) != (d1.length:Int)) then some false else (m_slices_EqualFunc_impl_Constructor_int64_impl_Constructor_int64_L1 d0 d1 d2 m_slices_EqualFunc_impl_Constructor_int64_impl_Constructor_int64_A1 (d0.length+1) 0))
set_option maxHeartbeats 2000000 in
theorem c_m_slices_EqualFunc_impl_Constructor_int64_impl_Constructor_int64 (d0:List DConstructor) (d1:List Int) (d2:DConstructor→Int→Option Bool) (r:Bool) (hm:m_slices_EqualFunc_impl_Constructor_int64_impl_Constructor_int64 d0 d1 d2=some r) (v0:Value) (v1:Value) (gf2:FuncId) (caps2:Array Value) (w:World) (hv0:Sl constructorRd 2 w v0 d0) (hv1:Sl intRd 1 w v1 d1) (hgo2:isGo Tryz.prog gf2=true) (hf2 :∀(x0:DConstructor) (x1:Int) (b:Bool),d2 x0 x1=some b→∀w1,Below w.heap.size w w1→∀y0,St constructorRd w1 y0 x0→Calls Tryz.prog gf2 (#[y0,.int .i64 x1] ++ caps2) w1 fun e w2=>e=.returned (.bool b)∧Below w1.heap.size w1 w2) :
    Calls Tryz.prog 162 #[v0,v1,.func (.func gf2) #[] caps2] w fun e w'=>e=.returned (.bool r)∧Below w.heap.size w w':=by
  obtain ⟨Aa0,na0,ca0,rfl,ha0,ra0⟩:=hv0
  have ea0:=ha0.len; subst ea0
  have qa0:=len_le ra0
  obtain ⟨Aa1,na1,ca1,rfl,ha1,ra1⟩:=hv1
  have ea1:=ha1.len; subst ea1
  have qa1:=len_le ra1
  have T:=Below.refl w.heap.size w
  unfold m_slices_EqualFunc_impl_Constructor_int64_impl_Constructor_int64 at hm
  refine enter 32 Tryz.func162 rfl rfl rfl ?_
  intro f hf
  have s0:f 0=.slice Aa0 d0.length ca0:=hf 0 _ rfl
  have s1:f 1=.slice Aa1 d1.length ca1:=hf 1 _ rfl
  have s2:f 2=.func (.func gf2) #[] caps2:=hf 2 _ rfl
  refine wp_seq<|wp_rs rfl<|RQ.y rfl (Y.assign (v:=.bool false) rfl)<|RQ.nil<|then_n<|wp_seq<|wp_seq<|wp_rs rfl<|RQ.y rfl (Y.move (v:=.slice Aa0 d0.length ca0) s0)<|RQ.y rfl (Y.len (by kernel_rfl) rfl)<|RQ.y rfl (Y.move (v:=.slice Aa1 d1.length ca1) s1)<|RQ.y rfl (Y.len (by kernel_rfl) rfl)<|RQ.y rfl (Y.binI (v:=.bool ((d0.length:Int) != (d1.length:Int))) rfl rfl rfl)<|RQ.nil<|then_n ?_
  rcases bcases ((d0.length:Int) != (d1.length:Int)) with c1|c1
  ·replace hm:=cF c1 hm
   refine cond_f rfl (vb rfl c1)<|wp_skip<|then_n<|wp_seq<|wp_seq<|wp_rs rfl<|RQ.y rfl (Y.move (v:=.slice Aa0 d0.length ca0) s0)<|RQ.y rfl (Y.len (by kernel_rfl) rfl)<|RQ.y rfl (Y.move (v:=.int .i64 0) rfl)<|RQ.nil<|then_n<|wp_block ?_
   obtain ⟨K1,hK1,hm⟩ :∃K,K=m_slices_EqualFunc_impl_Constructor_int64_impl_Constructor_int64_A1∧m_slices_EqualFunc_impl_Constructor_int64_impl_Constructor_int64_L1 d0 d1 d2 K (d0.length+1) 0=some r:=⟨_,rfl,hm⟩
   refine wp_loopX (fun g f w'=>∃(i3:Int),f 1=.slice Aa1 d1.length ca1∧f 2=.func (.func gf2) #[] caps2∧f 15=.slice Aa0 d0.length ca0∧f 16=.int .i64 (d0.length:Int)∧f 17=.int .i64 i3∧0≤i3∧Below w.heap.size w w'∧m_slices_EqualFunc_impl_Constructor_int64_impl_Constructor_int64_L1 d0 d1 d2 K1 g i3=some r) 0 (fun f w'=>Below w.heap.size w w'∧m_slices_EqualFunc_impl_Constructor_int64_impl_Constructor_int64_A1  = some r) (d0.length+1) ⟨0,s1,s2,rfl,rfl,rfl,(by omega),T,hm⟩ ?_ ?_
   ·rintro f w2 ⟨T,hm⟩
    unfold m_slices_EqualFunc_impl_Constructor_int64_impl_Constructor_int64_A1 at hm
    refine blk_hit (then_n ?_)
    refine wp_seq<|wp_rs rfl<|RQ.y rfl (Y.assign (v:=.bool true) rfl)<|RQ.nil<|then_n<|wp_ret ?_
    obtain rfl:=sj hm
    exact (ret1 rfl rfl rfl ⟨rfl,T⟩)
   rintro g f w4 ⟨i3,s1_1,s2_1,s15_1,s16_1,s17_1,nn17_1,T,hm⟩
   rcases g with _|g
   ·simp only [m_slices_EqualFunc_impl_Constructor_int64_impl_Constructor_int64_L1] at hm; cases hm
   obtain ⟨rec1,hrec1,hm⟩ :∃z,z=m_slices_EqualFunc_impl_Constructor_int64_impl_Constructor_int64_L1 d0 d1 d2 K1 g∧m_slices_EqualFunc_impl_Constructor_int64_impl_Constructor_int64_B1 d0 d1 d2 z K1 i3=some r:=⟨_,rfl,hm⟩
   unfold m_slices_EqualFunc_impl_Constructor_int64_impl_Constructor_int64_B1 at hm
   refine wp_seq<|wp_rs rfl<|RQ.y rfl (Y.binI (v:=.bool (decide (i3 < (d0.length:Int)))) s17_1 s16_1 rfl)<|RQ.nil<|then_n<|wp_seq ?_
   rcases bcases (decide (i3 < (d0.length:Int))) with c5|c5
   ·replace hm:=cF c5 hm
    have pc5:=of_decide_eq_false c5
    refine cond_f rfl (vb rfl c5)<|wp_exit ?_
    exact (then_x (then_x (hit_x ⟨_,rfl,⟨T,(by rw [hK1] at hm; exact hm)⟩⟩)))
   replace hm:=cT c5 hm
   have pc5:=of_decide_eq_true c5
   refine cond_t rfl (vb rfl c5)<|wp_skip<|then_n<|wp_seq<|wp_block<|wp_seq<|wp_rl rfl<|RL.y rfl (Y.move (v:=.int .i64 i3) s17_1) ?_
   obtain ⟨x6,hx9,hm⟩:=bnd hm
   obtain ⟨k7,hk10,hl11,hx9⟩:=getI_some hx9
   obtain ⟨b13,o14,rfl,hbb13⟩:=ha0.addr (by omega)
   obtain ⟨cs8,hRcs8,hc12⟩:=ha0.el hx9
   have hScs8:=hRcs8
   obtain ⟨A15,n15,c15,rfl,⟨h15,r15⟩⟩:=hRcs8
   have e15:=h15.len; subst e15
   have q15:=len_le r15
   refine RL.y rfl (Y.indexAddr (m:=k7) (sz:=2) s15_1 s17_1 hk10 hl11 (by kernel_rfl))<|RL.y rfl (Y.loadN (cs:=[.string x6.name,.slice A15 x6.fields.length c15]) rfl (by kernel_rfl) (cells2 (eqC (cellT T (hc12 0 _ rfl))) (eqC (cellT T (hc12 1 _ rfl))))) ?_
   refine RL.alloc (z:=.agg #[.string ByteArray.empty,.slice none 0 0]) rfl (by kernel_rfl) (fun w16 B17 hb18 szw16=>?_)
   replace B17:Blk w16 w4.heap.size 173 #[.string ByteArray.empty,.slice none 0 0]:=B17
   have GB17:w.heap.size≤w4.heap.size:=T.size
   have T:=Tt T hb18
   refine RL.y rfl (Y.assign (v:=.int .i64 i3) rfl) ?_
   refine RL.store (v:=.agg #[.string x6.name,.slice A15 x6.fields.length c15]) (cs':=#[.string x6.name,.slice A15 x6.fields.length c15]) rfl rfl rfl B17 (by kernel_rfl) (by rfl) (by rfl) (by rfl) (fun w20 B21 ho22=>?_)
   have szw20:=ho22.size
   have T:=T.trans (ho22.below (by first|(simp; done)|(simp; omega)))
   refine RL.nil<|then_n<|wp_seq<|wp_rs rfl<|RQ.y rfl (Y.move (v:=.slice Aa1 d1.length ca1) s1_1)<|RQ.y rfl (Y.move (v:=.int .i64 i3) rfl) ?_
   obtain ⟨x23,hx26,hm⟩:=bnd hm
   obtain ⟨k24,hk27,hl28,hx26⟩:=getI_some hx26
   obtain ⟨b30,o31,rfl,hbb30⟩:=ha1.addr (by omega)
   obtain ⟨cs25,hRcs25,hc29⟩:=ha1.el hx26
   have hScs25:=hRcs25
   obtain rfl:=hRcs25
   refine RQ.y rfl (Y.indexAddr (m:=k24) (sz:=1) rfl rfl hk27 hl28 (by kernel_rfl))<|RQ.y rfl (Y.load (v:=.int .i64 x23) rfl (by kernel_rfl) (eqC (cellT T (hc29 0 _ rfl))))<|RQ.y rfl (Y.assign (v:=.int .i64 x23) rfl)<|RQ.nil<|then_n<|wp_seq<|wp_rb rfl<|RQ.y rfl (Y.move (v:=.func (.func gf2) #[] caps2) s2_1)<|RQ.y rfl (Y.loadN (cs:=[.string x6.name,.slice A15 x6.fields.length c15]) rfl (by kernel_rfl) (cells2 (beC (blkCell B21 (i:=0) rfl)) (beC (blkCell B21 (i:=1) rfl))))<|RQ.y rfl (Y.move (v:=.int .i64 x23) rfl) ?_
   obtain ⟨y32,e33,hm⟩:=bnd hm
   refine RQ.callV rfl rfl (am2 rfl rfl) hgo2 (v:=.bool y32) (bel (K:=fun _=>True) fun w' hb'=>hf2 x6 x23 y32 e33 w' (Tt T hb') _ (stArg (R:=constructorRd) ⟨_,_,_,rfl,⟨SlAt.now typeRd_ok h15 (Nat.le_refl _) (Tt T hb'),r15⟩⟩))<|RQ.y rfl (Y.not (b':=(!y32)) rfl rfl)<|RQ.nil ?_
   intro w34 hb35
   have szw34:=hb35.size
   have T:=Tt T hb35
   refine then_n ?_
   rcases bcases y32 with c36|c36
   ·replace hm:=cF c36 hm
    refine cond_t rfl (vbn rfl c36 rfl)<|wp_seq<|wp_rs rfl<|RQ.y rfl (Y.assign (v:=.bool false) rfl)<|RQ.nil<|then_n<|wp_ret ?_
    obtain rfl:=sj hm
    exact (blk_r (then_r (then_r (hit_r (blk_r (then_r (ret1 rfl rfl rfl ⟨rfl,T⟩)))))))
   replace hm:=cT c36 hm
   refine cond_f rfl (vbn rfl c36 rfl)<|wp_skip ?_
   refine blk_n (then_n ?_)
   refine wp_rs rfl<|RQ.y rfl (Y.binI s17_1 rfl (binI_add (m:=i3) (by omega)))<|RQ.y rfl (Y.move (v:=.int .i64 (i3+1)) rfl)<|RQ.nil ?_
   exact (then_n ⟨g,_,Nat.lt_succ_self _,rfl,⟨(i3+1),s1_1,s2_1,s15_1,s16_1,rfl,(by omega),T,(by rw [← hrec1]; exact hm)⟩⟩)
  replace hm:=cT c1 hm
  refine cond_t rfl (vb rfl c1)<|wp_seq<|wp_rs rfl<|RQ.y rfl (Y.assign (v:=.bool false) rfl)<|RQ.nil<|then_n<|wp_ret ?_
  obtain rfl:=sj hm
  exact (then_r (ret1 rfl rfl rfl ⟨rfl,T⟩))
noncomputable def m_impl_Signature_obeys (d0:DSignature) (d1:DAgent) (d2:List DType):Option Bool:=
  (bif (d1.kind==2) then ((getI d2 0).bind fun x243=>((getI d2 1).bind fun x253=>((getI d2 2).bind fun x261=>((funTM x253 x261).bind fun y269=>((m_impl_SameType (SizeOf.sizeOf x243) x243 y269).bind fun y279=>some y279))))) else (bif (d1.kind==3) then ((getI d2 0).bind fun x201=>((getI d2 1).bind fun x211=>((getI d2 2).bind fun x219=>((funTM x211 x219).bind fun y227=>((m_impl_SameType (SizeOf.sizeOf x201) x201 y227).bind fun y237=>some y237))))) else (bif (d1.kind==4) then ((getI d2 0).bind fun x156=>((getI d2 1).bind fun x166=>((m_impl_SameType (SizeOf.sizeOf x156) x156 x166).bind fun y174=>(bif y174 then ((getI d2 0).bind fun x179=>((getI d2 2).bind fun x187=>((m_impl_SameType (SizeOf.sizeOf x179) x179 x187).bind fun y195=>some y195))) else some false)))) else (bif (d1.kind==6) then ((getI d2 0).bind fun x142=>((m_impl_Signature_obeys_1 x142).bind fun y152=>some y152)) else (bif (d1.kind==7) then ((m_slices_ContainsFunc_impl_Type_impl_Type d2 (fun x0=>m_impl_Signature_obeys_2 x0 ())).bind fun y138=>some (!y138)) else (bif (d1.kind==8) then ((m_slices_ContainsFunc_impl_Type_impl_Type d2 (fun x0=>m_impl_Signature_obeys_2 x0 ())).bind fun y134=>some (!y134)) else (bif (d1.kind==9) then ((getI d2 0).bind fun x93=>((m_impl_Signature_constructors d0 x93).bind fun y103=>(bif (decide (d1.value < (y103.length:Int))) then ((getI y103 d1.value).bind fun x114=>((mustP (1≤d2.length)).bind fun _=>((m_impl_sameTypes x114.fields (d2.drop 1)).bind fun y130=>some y130))) else some false))) else (bif (d1.kind==10) then ((getI d2 0).bind fun x69=>((m_impl_Signature_constructors d0 x69).bind fun y79=>((m_slices_EqualFunc_impl_Constructor_int64_impl_Constructor_int64 y79 d1.data (fun x0 x1=>m_impl_Signature_obeys_3 x0 x1 d0 d2)).bind fun y87=>some y87))) else (bif (d1.kind==11) then ((getI d2 0).bind fun x48=>((m_impl_Signature_obeys_1 x48).bind fun y58=>(bif y58 then ((m_slices_ContainsFunc_int64_int64 d1.data (fun x0=>m_impl_Signature_obeys_4 x0 d0 d2)).bind fun y63=>some (!y63)) else some false))) else (bif (d1.kind==12) then ((getI d2 0).bind fun x34=>((m_impl_Signature_hasType d0 d1.value x34).bind fun y44=>some y44)) else some true))))))))))
set_option maxHeartbeats 2000000 in
theorem c_m_impl_Signature_obeys (d0:DSignature) (d1:DAgent) (d2:List DType) (r:Bool) (hm:m_impl_Signature_obeys d0 d1 d2=some r) (v0:Value) (v1:Value) (v2:Value) (w:World) (hv0:St signatureRd w v0 d0) (hv1:St agentRd w v1 d1) (hv2:Sl typeRd 3 w v2 d2) :
    Calls Tryz.prog 100 #[v0,v1,v2] w fun e w'=>e=.returned (.bool r)∧Below w.heap.size w w':=by
  obtain ⟨csa0,rfl,⟨A1,n1,c1,A2,n2,c2,rfl,⟨h1,r1⟩,⟨h2,r2⟩⟩⟩:=hv0
  have e1:=h1.len; subst e1
  have q1:=len_le r1
  have e2:=h2.len; subst e2
  have q2:=len_le r2
  obtain ⟨csa1,rfl,⟨A3,n3,c3,A4,n4,c4,rfl,⟨h3,r3⟩,⟨h4,r4⟩⟩⟩:=hv1
  have e3:=h3.len; subst e3
  have q3:=len_le r3
  have e4:=h4.len; subst e4
  have q4:=len_le r4
  obtain ⟨Aa2,na2,ca2,rfl,ha2,ra2⟩:=hv2
  have ea2:=ha2.len; subst ea2
  have qa2:=len_le ra2
  have T:=Below.refl w.heap.size w
  unfold m_impl_Signature_obeys at hm
  refine enter 116 Tryz.func100 rfl rfl rfl ?_
  intro f hf
  have s0:f 0=.agg #[.slice A1 d0.datas.length c1,.slice A2 d0.defs.length c2]:=hf 0 _ rfl
  have s1:f 1=.agg #[.int .i64 d1.kind,.int .i64 d1.level,.int .i64 d1.value,.slice A3 d1.data.length c3,.slice A4 d1.ports.length c4]:=hf 1 _ rfl
  have s2:f 2=.slice Aa2 d2.length ca2:=hf 2 _ rfl
  refine wp_seq<|wp_rl rfl ?_
  refine RL.box rfl s0 (fun w5 B6 hb7 szw5=>?_)
  replace B6:Blk w5 w.heap.size 38 #[.slice A1 d0.datas.length c1,.slice A2 d0.defs.length c2]:=B6
  have GB6:w.heap.size≤w.heap.size:=T.size
  have T:=Tt T hb7
  refine RL.box rfl s1 (fun w9 B10 hb11 szw9=>?_)
  replace B10:Blk w9 w5.heap.size 159 #[.int .i64 d1.kind,.int .i64 d1.level,.int .i64 d1.value,.slice A3 d1.data.length c3,.slice A4 d1.ports.length c4]:=B10
  have GB10:w.heap.size≤w5.heap.size:=T.size
  have Eob12_ob8:=Nat.ne_of_lt B6.lt
  have B6:=blkT B6 hb11
  have T:=Tt T hb11
  refine RL.box rfl s2 (fun w13 B14 hb15 szw13=>?_)
  replace B14:Blk w13 w9.heap.size 36 #[.slice Aa2 d2.length ca2]:=B14
  have GB14:w.heap.size≤w9.heap.size:=T.size
  have Eob16_ob8:=Nat.ne_of_lt B6.lt
  have Eob16_ob12:=Nat.ne_of_lt B10.lt
  have B6:=blkT B6 hb15
  have B10:=blkT B10 hb15
  have T:=Tt T hb15
  refine RL.y rfl (Y.assign (v:=.bool false) rfl)<|RL.nil<|then_n<|wp_seq<|wp_rl rfl ?_
  refine RL.alloc (z:=.nilFunc) rfl (by kernel_rfl) (fun w17 B18 hb19 szw17=>?_)
  replace B18:Blk w17 w13.heap.size 176 #[.nilFunc]:=B18
  have GB18:w.heap.size≤w13.heap.size:=T.size
  have Eob20_ob8:=Nat.ne_of_lt B6.lt
  have Eob20_ob12:=Nat.ne_of_lt B10.lt
  have Eob20_ob16:=Nat.ne_of_lt B14.lt
  have B6:=blkT B6 hb19
  have B10:=blkT B10 hb19
  have B14:=blkT B14 hb19
  have T:=Tt T hb19
  refine RL.store (v:=.func (.func 157) #[] #[]) (cs':=#[.func (.func 157) #[] #[]]) rfl rfl rfl B18 (by kernel_rfl) (by rfl) (by rfl) (by rfl) (fun w21 B22 ho23=>?_)
  have szw21:=ho23.size
  have B6:=B6.only_ ho23 (by intro hin; simp at hin; exact Eob20_ob8 hin)
  have B10:=B10.only_ ho23 (by intro hin; simp at hin; exact Eob20_ob12 hin)
  have B14:=B14.only_ ho23 (by intro hin; simp at hin; exact Eob20_ob16 hin)
  have T:=T.trans (ho23.below (by first|(simp; done)|(simp; omega)))
  refine RL.nil<|then_n<|wp_seq<|wp_seq<|wp_rs rfl<|RQ.y rfl (Y.fieldAddr (off:=0) rfl (by kernel_rfl))<|RQ.y rfl (Y.load (v:=.int .i64 d1.kind) rfl (by kernel_rfl) (eqC (blkCell B10 (i:=0) rfl)))<|RQ.nil<|then_n<|wp_block<|wp_seq<|wp_seq<|wp_rs rfl<|RQ.y rfl (Y.binI (v:=.bool (d1.kind==2)) rfl rfl rfl)<|RQ.y rfl (Y.assign (v:=.bool (d1.kind==2)) rfl)<|RQ.nil<|then_n ?_
  rcases bcases (d1.kind==2) with c24|c24
  ·replace hm:=cF c24 hm
   refine cond_f rfl (vb rfl c24)<|wp_rs rfl<|RQ.y rfl (Y.binI (v:=.bool (d1.kind==3)) rfl rfl rfl)<|RQ.y rfl (Y.assign (v:=.bool (d1.kind==3)) rfl)<|RQ.nil<|then_n ?_
   rcases bcases (d1.kind==3) with c25|c25
   ·replace hm:=cF c25 hm
    refine cond_f rfl (vb rfl c25)<|wp_seq<|wp_rs rfl<|RQ.y rfl (Y.binI (v:=.bool (d1.kind==4)) rfl rfl rfl)<|RQ.y rfl (Y.assign (v:=.bool (d1.kind==4)) rfl)<|RQ.nil<|then_n ?_
    rcases bcases (d1.kind==4) with c26|c26
    ·replace hm:=cF c26 hm
     refine cond_f rfl (vb rfl c26)<|wp_seq<|wp_rs rfl<|RQ.y rfl (Y.binI (v:=.bool (d1.kind==6)) rfl rfl rfl)<|RQ.y rfl (Y.assign (v:=.bool (d1.kind==6)) rfl)<|RQ.nil<|then_n ?_
     rcases bcases (d1.kind==6) with c27|c27
     ·replace hm:=cF c27 hm
      refine cond_f rfl (vb rfl c27)<|wp_seq<|wp_seq<|wp_rs rfl<|RQ.y rfl (Y.binI (v:=.bool (d1.kind==7)) rfl rfl rfl)<|RQ.y rfl (Y.assign (v:=.bool (d1.kind==7)) rfl)<|RQ.nil<|then_n ?_
      rcases bcases (d1.kind==7) with c28|c28
      ·replace hm:=cF c28 hm
       refine cond_f rfl (vb rfl c28)<|wp_rs rfl<|RQ.y rfl (Y.binI (v:=.bool (d1.kind==8)) rfl rfl rfl)<|RQ.y rfl (Y.assign (v:=.bool (d1.kind==8)) rfl)<|RQ.nil<|then_n ?_
       rcases bcases (d1.kind==8) with c29|c29
       ·replace hm:=cF c29 hm
        refine cond_f rfl (vb rfl c29)<|wp_seq<|wp_rs rfl<|RQ.y rfl (Y.binI (v:=.bool (d1.kind==9)) rfl rfl rfl)<|RQ.y rfl (Y.assign (v:=.bool (d1.kind==9)) rfl)<|RQ.nil<|then_n ?_
        rcases bcases (d1.kind==9) with c30|c30
        ·replace hm:=cF c30 hm
         refine cond_f rfl (vb rfl c30)<|wp_seq<|wp_rs rfl<|RQ.y rfl (Y.binI (v:=.bool (d1.kind==10)) rfl rfl rfl)<|RQ.y rfl (Y.assign (v:=.bool (d1.kind==10)) rfl)<|RQ.nil<|then_n ?_
         rcases bcases (d1.kind==10) with c31|c31
         ·replace hm:=cF c31 hm
          refine cond_f rfl (vb rfl c31)<|wp_seq<|wp_rs rfl<|RQ.y rfl (Y.binI (v:=.bool (d1.kind==11)) rfl rfl rfl)<|RQ.y rfl (Y.assign (v:=.bool (d1.kind==11)) rfl)<|RQ.nil<|then_n ?_
          rcases bcases (d1.kind==11) with c32|c32
          ·replace hm:=cF c32 hm
           refine cond_f rfl (vb rfl c32)<|wp_seq<|wp_rs rfl<|RQ.y rfl (Y.binI (v:=.bool (d1.kind==12)) rfl rfl rfl)<|RQ.y rfl (Y.assign (v:=.bool (d1.kind==12)) rfl)<|RQ.nil<|then_n ?_
           rcases bcases (d1.kind==12) with c33|c33
           ·replace hm:=cF c33 hm
            refine cond_f rfl (vb rfl c33)<|wp_skip ?_
            refine blk_n (then_n ?_)
            refine wp_seq<|wp_rs rfl<|RQ.y rfl (Y.assign (v:=.bool true) rfl)<|RQ.nil<|then_n<|wp_ret ?_
            obtain rfl:=sj hm
            exact (ret1 rfl rfl rfl ⟨rfl,T⟩)
           replace hm:=cT c33 hm
           refine cond_t rfl (vb rfl c33)<|wp_seq<|wp_rbd (by kernel_rfl) (by kernel_rfl)<|RQ.y rfl (Y.loadN (cs:=[.slice A1 d0.datas.length c1,.slice A2 d0.defs.length c2]) rfl (by kernel_rfl) (cells2 (beC (blkCell B6 (i:=0) rfl)) (beC (blkCell B6 (i:=1) rfl))))<|RQ.y rfl (Y.fieldAddr (off:=2) rfl (by kernel_rfl))<|RQ.y rfl (Y.load (v:=.int .i64 d1.value) rfl (by kernel_rfl) (beC (blkCell B10 (i:=2) rfl)))<|RQ.y rfl (Y.load (v:=.slice Aa2 d2.length ca2) rfl (by kernel_rfl) (beC (blkCell B14 (i:=0) rfl))) ?_
           obtain ⟨x34,hx37,hm⟩:=bnd hm
           obtain ⟨k35,hk38,hl39,hx37⟩:=getI_some hx37
           obtain ⟨b41,o42,rfl,hbb41⟩:=ha2.addr (by omega)
           obtain ⟨cs36,hRcs36,hc40⟩:=ha2.el hx37
           have hScs36:=hRcs36
           obtain ⟨A43,n43,c43,rfl,⟨h43,r43⟩⟩:=(typeRd_out hRcs36)
           have e43:=h43.len; subst e43
           have q43:=len_le r43
           refine RQ.y rfl (Y.indexAddr (m:=k35) (sz:=3) rfl rfl hk38 hl39 (by kernel_rfl))<|RQ.y rfl (Y.loadN (cs:=[.int .i64 x34.kind,.string x34.name,.slice A43 x34.kids.length c43]) rfl (by kernel_rfl) (cells3 (beC (cellT T (hc40 0 _ rfl))) (beC (cellT T (hc40 1 _ rfl))) (beC (cellT T (hc40 2 _ rfl))))) ?_
           obtain ⟨y44,e45,hm⟩:=bnd hm
           refine RQ.call rfl (am3 rfl rfl rfl) (by kernel_rfl) (v:=.bool y44) (bel (K:=fun _=>True) fun w' hb'=>(c_m_impl_Signature_hasType d0 d1.value x34 _ e45 _ _ w' (stArg (R:=signatureRd) ⟨_,_,_,_,_,_,rfl,⟨SlAt.now dataRd_ok h1 (Nat.le_refl _) (Tt T hb'),r1⟩,⟨SlAt.now typeRd_ok h2 (Nat.le_refl _) (Tt T hb'),r2⟩⟩) (stArg (R:=typeRd) (typeRd_in ⟨_,_,_,rfl,⟨SlAt.now typeRd_ok h43 (Nat.le_refl _) (Tt T hb'),r43⟩⟩))))<|RQ.y rfl (Y.assign (v:=.bool y44) rfl)<|RQ.nil ?_
           intro w46 hb47
           have szw46:=hb47.size
           have T:=Tt T hb47
           refine then_n<|wp_ret ?_
           obtain rfl:=sj hm
           exact (blk_r (then_r (ret1 rfl rfl rfl ⟨rfl,T⟩)))
          replace hm:=cT c32 hm
          refine cond_t rfl (vb rfl c32)<|wp_seq<|wp_rbd (by kernel_rfl) (by kernel_rfl)<|RQ.y rfl (Y.load (v:=.func (.func 157) #[] #[]) rfl (by kernel_rfl) (beC (blkCell B22 (i:=0) rfl)))<|RQ.y rfl (Y.load (v:=.slice Aa2 d2.length ca2) rfl (by kernel_rfl) (beC (blkCell B14 (i:=0) rfl))) ?_
          obtain ⟨x48,hx51,hm⟩:=bnd hm
          obtain ⟨k49,hk52,hl53,hx51⟩:=getI_some hx51
          obtain ⟨b55,o56,rfl,hbb55⟩:=ha2.addr (by omega)
          obtain ⟨cs50,hRcs50,hc54⟩:=ha2.el hx51
          have hScs50:=hRcs50
          obtain ⟨A57,n57,c57,rfl,⟨h57,r57⟩⟩:=(typeRd_out hRcs50)
          have e57:=h57.len; subst e57
          have q57:=len_le r57
          refine RQ.y rfl (Y.indexAddr (m:=k49) (sz:=3) rfl rfl hk52 hl53 (by kernel_rfl))<|RQ.y rfl (Y.loadN (cs:=[.int .i64 x48.kind,.string x48.name,.slice A57 x48.kids.length c57]) rfl (by kernel_rfl) (cells3 (beC (cellT T (hc54 0 _ rfl))) (beC (cellT T (hc54 1 _ rfl))) (beC (cellT T (hc54 2 _ rfl))))) ?_
          obtain ⟨y58,e59,hm⟩:=bnd hm
          refine RQ.callV rfl rfl (am1 rfl) (by kernel_rfl) (v:=.bool y58) (bel (K:=fun _=>True) fun w' hb'=>(c_m_impl_Signature_obeys_1 x48 _ e59 _ w' (stArg (R:=typeRd) (typeRd_in ⟨_,_,_,rfl,⟨SlAt.now typeRd_ok h57 (Nat.le_refl _) (Tt T hb'),r57⟩⟩))))<|RQ.y rfl (Y.move (v:=.bool y58) rfl) ?_
          rcases bcases y58 with c60|c60
          ·replace hm:=cF c60 hm
           iterate 5 refine RQ.skip (wantN (dj:=100) rfl (vb rfl c60) rfl) ?_
           refine RQ.y rfl (Y.pick (b:=false) (v:=.bool false) (vb rfl c60) rfl)<|RQ.y rfl (Y.assign (v:=.bool false) rfl)<|RQ.nil ?_
           intro w61 hb62
           have szw61:=hb62.size
           have T:=Tt T hb62
           refine then_n<|wp_ret ?_
           obtain rfl:=sj hm
           exact (blk_r (then_r (ret1 rfl rfl rfl ⟨rfl,T⟩)))
          replace hm:=cT c60 hm
          refine RQ.y (wantT (dj:=100) rfl (vb rfl c60)) (Y.fieldAddr (off:=3) rfl (by kernel_rfl))<|RQ.y (wantT (dj:=100) rfl (vb rfl c60)) (Y.load (v:=.slice A3 d1.data.length c3) rfl (by kernel_rfl) (beC (blkCell B10 (i:=3) rfl)))<|RQ.y (wantT (dj:=100) rfl (vb rfl c60)) (Y.makeFunc (vals:=#[.pointer (some ⟨w.heap.size,0,none⟩),.pointer (some ⟨w9.heap.size,0,none⟩)]) (am2 rfl rfl)) ?_
          obtain ⟨y63,e64,hm⟩:=bnd hm
          refine RQ.call (wantT (dj:=100) rfl (vb rfl c60)) (am2 rfl rfl) (by kernel_rfl) (v:=.bool y63) (bel (K:=fun _=>True) fun w' hb'=>(c_m_slices_ContainsFunc_int64_int64 d1.data (fun x0=>m_impl_Signature_obeys_4 x0 d0 d2) _ e64 _ _ _ w' (slArg intRd_ok h3 r3 (Tt T hb')) (by kernel_rfl) (fun x0 b hx w1 hb1=>Calls.arr (by simp) (c_m_impl_Signature_obeys_4 x0 d0 d2 _ hx  _ _ w1  (ptBox (R:=signatureRd) (blkT B6 (Tt hb' hb1)) ⟨_,_,_,_,_,_,rfl,⟨SlAt.now dataRd_ok h1 (Nat.le_refl _) (Tt (Tt T hb') hb1),r1⟩,⟨SlAt.now typeRd_ok h2 (Nat.le_refl _) (Tt (Tt T hb') hb1),r2⟩⟩) (ptBox (R:=(slRd typeRd 3)) (blkT B14 (Tt hb' hb1)) ⟨_,_,_,rfl,SlAt.now typeRd_ok ha2 (Nat.le_refl _) (Tt (Tt T hb') hb1),ra2⟩)))))<|RQ.y (wantT (dj:=100) rfl (vb rfl c60)) (Y.not (b':=(!y63)) rfl rfl)<|RQ.y rfl (Y.pick (b:=true) (v:=.bool (!y63)) (vb rfl c60) rfl)<|RQ.y rfl (Y.assign (v:=.bool (!y63)) rfl)<|RQ.nil ?_
          intro w65 hb66
          have szw65:=hb66.size
          have T:=Tt T hb66
          refine then_n<|wp_ret ?_
          obtain rfl:=sj hm
          exact (blk_r (then_r (ret1 rfl rfl rfl ⟨rfl,T⟩)))
         replace hm:=cT c31 hm
         refine cond_t rfl (vb rfl c31)<|wp_seq ?_
         refine wp_rg (fun w'=>Below w.heap.size w w'∧Blk w' w.heap.size 38 #[.slice A1 d0.datas.length c1,.slice A2 d0.defs.length c2]∧Blk w' w9.heap.size 36 #[.slice Aa2 d2.length ca2]) [(0,true),(1,true),(2,true),(3,true),(4,false),(5,true)] (by kernel_rfl) (by kernel_rfl) (fun w67 hb68 szw67=>?_)
         have B6:=blkT B6 hb68
         have B10:=blkT B10 hb68
         have B14:=blkT B14 hb68
         have B22:=blkT B22 hb68
         have T:=Tt T hb68
         refine ⟨⟨T,B6,B14⟩,?_⟩
         refine RG.y rfl rfl (Y.loadN (cs:=[.slice A1 d0.datas.length c1,.slice A2 d0.defs.length c2]) rfl (by kernel_rfl) (cells2 (fun w' hS=>(blkCell hS.2.1 (i:=0) rfl)) (fun w' hS=>(blkCell hS.2.1 (i:=1) rfl))))<|RG.y rfl rfl (Y.load (v:=.slice Aa2 d2.length ca2) rfl (by kernel_rfl) (fun w' hS=>(blkCell hS.2.2 (i:=0) rfl))) ?_
         obtain ⟨x69,hx72,hm⟩:=bnd hm
         obtain ⟨k70,hk73,hl74,hx72⟩:=getI_some hx72
         obtain ⟨b76,o77,rfl,hbb76⟩:=ha2.addr (by omega)
         obtain ⟨cs71,hRcs71,hc75⟩:=ha2.el hx72
         have hScs71:=hRcs71
         obtain ⟨A78,n78,c78,rfl,⟨h78,r78⟩⟩:=(typeRd_out hRcs71)
         have e78:=h78.len; subst e78
         have q78:=len_le r78
         refine RG.y rfl rfl (Y.indexAddr (m:=k70) (sz:=3) rfl rfl hk73 hl74 (by kernel_rfl))<|RG.y rfl rfl (Y.loadN (cs:=[.int .i64 x69.kind,.string x69.name,.slice A78 x69.kids.length c78]) rfl (by kernel_rfl) (cells3 (fun w' hS=>(cellT hS.1 (hc75 0 _ rfl))) (fun w' hS=>(cellT hS.1 (hc75 1 _ rfl))) (fun w' hS=>(cellT hS.1 (hc75 2 _ rfl)))))<|RG.act rfl ?_
         obtain ⟨y79,e80,hm⟩:=bnd hm
         refine RL.call rfl (am2 rfl rfl) (by kernel_rfl) ((c_m_impl_Signature_constructors d0 x69 _ e80 _ _ _ (stArg (R:=signatureRd) ⟨_,_,_,_,_,_,rfl,⟨SlAt.now dataRd_ok h1 (Nat.le_refl _) T,r1⟩,⟨SlAt.now typeRd_ok h2 (Nat.le_refl _) T,r2⟩⟩) (stArg (R:=typeRd) (typeRd_in ⟨_,_,_,rfl,⟨SlAt.now typeRd_ok h78 (Nat.le_refl _) T,r78⟩⟩))).mono ?_)
         rintro _ w83 ⟨⟨v81,rfl,hv82⟩,hb84⟩
         refine ⟨_,rfl,?_⟩
         have szw83:=hb84.size
         have B6:=blkT B6 hb84
         have B10:=blkT B10 hb84
         have B14:=blkT B14 hb84
         have B22:=blkT B22 hb84
         have T:=Tt T hb84
         obtain ⟨A86,n86,c86,rfl,h86,r86⟩:=hv82
         have e86:=h86.len; subst e86
         have q86:=len_le r86
         have U85:=Below.refl w83.heap.size w83
         refine RL.nil ⟨⟨T,B6,B14⟩,?_⟩
         refine RG.y rfl rfl (Y.assign (v:=.slice A86 y79.length c86) rfl)<|RG.nil<|then_n<|wp_seq<|wp_rb rfl<|RQ.y rfl (Y.move (v:=.slice A86 y79.length c86) rfl)<|RQ.y rfl (Y.fieldAddr (off:=3) rfl (by kernel_rfl))<|RQ.y rfl (Y.load (v:=.slice A3 d1.data.length c3) rfl (by kernel_rfl) (beC (blkCell B10 (i:=3) rfl)))<|RQ.y rfl (Y.makeFunc (vals:=#[.pointer (some ⟨w.heap.size,0,none⟩),.pointer (some ⟨w9.heap.size,0,none⟩)]) (am2 rfl rfl)) ?_
         obtain ⟨y87,e88,hm⟩:=bnd hm
         refine RQ.call rfl (am3 rfl rfl rfl) (by kernel_rfl) (v:=.bool y87) (bel (K:=fun _=>True) fun w' hb'=>(c_m_slices_EqualFunc_impl_Constructor_int64_impl_Constructor_int64 y79 d1.data (fun x0 x1=>m_impl_Signature_obeys_3 x0 x1 d0 d2) _ e88 _ _ _ _ w' (slArg constructorRd_ok h86 r86 (Tt U85 hb')) (slArg intRd_ok h3 r3 (Tt T hb')) (by kernel_rfl) (fun x0 x1 b hx w1 hb1 y0 hy0=>Calls.arr (by simp) (c_m_impl_Signature_obeys_3 x0 x1 d0 d2 _ hx _ _ _ w1 hy0 (ptBox (R:=signatureRd) (blkT B6 (Tt hb' hb1)) ⟨_,_,_,_,_,_,rfl,⟨SlAt.now dataRd_ok h1 (Nat.le_refl _) (Tt (Tt T hb') hb1),r1⟩,⟨SlAt.now typeRd_ok h2 (Nat.le_refl _) (Tt (Tt T hb') hb1),r2⟩⟩) (ptBox (R:=(slRd typeRd 3)) (blkT B14 (Tt hb' hb1)) ⟨_,_,_,rfl,SlAt.now typeRd_ok ha2 (Nat.le_refl _) (Tt (Tt T hb') hb1),ra2⟩)))))<|RQ.y rfl (Y.assign (v:=.bool y87) rfl)<|RQ.nil ?_
         intro w89 hb90
         have szw89:=hb90.size
         try have U85:=Tt U85 hb90
         have T:=Tt T hb90
         refine then_n<|wp_ret ?_
         obtain rfl:=sj hm
         exact (blk_r (then_r (ret1 rfl rfl rfl ⟨rfl,T⟩)))
        replace hm:=cT c30 hm
        refine cond_t rfl (vb rfl c30)<|wp_seq ?_
        refine wp_rg (fun w'=>Below w.heap.size w w'∧Blk w' w.heap.size 38 #[.slice A1 d0.datas.length c1,.slice A2 d0.defs.length c2]∧Blk w' w9.heap.size 36 #[.slice Aa2 d2.length ca2]) [(0,true),(1,true),(2,true),(3,true),(4,false),(5,true)] (by kernel_rfl) (by kernel_rfl) (fun w91 hb92 szw91=>?_)
        have B6:=blkT B6 hb92
        have B10:=blkT B10 hb92
        have B14:=blkT B14 hb92
        have B22:=blkT B22 hb92
        have T:=Tt T hb92
        refine ⟨⟨T,B6,B14⟩,?_⟩
        refine RG.y rfl rfl (Y.loadN (cs:=[.slice A1 d0.datas.length c1,.slice A2 d0.defs.length c2]) rfl (by kernel_rfl) (cells2 (fun w' hS=>(blkCell hS.2.1 (i:=0) rfl)) (fun w' hS=>(blkCell hS.2.1 (i:=1) rfl))))<|RG.y rfl rfl (Y.load (v:=.slice Aa2 d2.length ca2) rfl (by kernel_rfl) (fun w' hS=>(blkCell hS.2.2 (i:=0) rfl))) ?_
        obtain ⟨x93,hx96,hm⟩:=bnd hm
        obtain ⟨k94,hk97,hl98,hx96⟩:=getI_some hx96
        obtain ⟨b100,o101,rfl,hbb100⟩:=ha2.addr (by omega)
        obtain ⟨cs95,hRcs95,hc99⟩:=ha2.el hx96
        have hScs95:=hRcs95
        obtain ⟨A102,n102,c102,rfl,⟨h102,r102⟩⟩:=(typeRd_out hRcs95)
        have e102:=h102.len; subst e102
        have q102:=len_le r102
        refine RG.y rfl rfl (Y.indexAddr (m:=k94) (sz:=3) rfl rfl hk97 hl98 (by kernel_rfl))<|RG.y rfl rfl (Y.loadN (cs:=[.int .i64 x93.kind,.string x93.name,.slice A102 x93.kids.length c102]) rfl (by kernel_rfl) (cells3 (fun w' hS=>(cellT hS.1 (hc99 0 _ rfl))) (fun w' hS=>(cellT hS.1 (hc99 1 _ rfl))) (fun w' hS=>(cellT hS.1 (hc99 2 _ rfl)))))<|RG.act rfl ?_
        obtain ⟨y103,e104,hm⟩:=bnd hm
        refine RL.call rfl (am2 rfl rfl) (by kernel_rfl) ((c_m_impl_Signature_constructors d0 x93 _ e104 _ _ _ (stArg (R:=signatureRd) ⟨_,_,_,_,_,_,rfl,⟨SlAt.now dataRd_ok h1 (Nat.le_refl _) T,r1⟩,⟨SlAt.now typeRd_ok h2 (Nat.le_refl _) T,r2⟩⟩) (stArg (R:=typeRd) (typeRd_in ⟨_,_,_,rfl,⟨SlAt.now typeRd_ok h102 (Nat.le_refl _) T,r102⟩⟩))).mono ?_)
        rintro _ w107 ⟨⟨v105,rfl,hv106⟩,hb108⟩
        refine ⟨_,rfl,?_⟩
        have szw107:=hb108.size
        have B6:=blkT B6 hb108
        have B10:=blkT B10 hb108
        have B14:=blkT B14 hb108
        have B22:=blkT B22 hb108
        have T:=Tt T hb108
        obtain ⟨A110,n110,c110,rfl,h110,r110⟩:=hv106
        have e110:=h110.len; subst e110
        have q110:=len_le r110
        have U109:=Below.refl w107.heap.size w107
        refine RL.nil ⟨⟨T,B6,B14⟩,?_⟩
        refine RG.y rfl rfl (Y.assign (v:=.slice A110 y103.length c110) rfl)<|RG.nil<|then_n<|wp_seq<|wp_rbd (by kernel_rfl) (by kernel_rfl)<|RQ.y rfl (Y.fieldAddr (off:=2) rfl (by kernel_rfl))<|RQ.y rfl (Y.load (v:=.int .i64 d1.value) rfl (by kernel_rfl) (beC (blkCell B10 (i:=2) rfl)))<|RQ.y rfl (Y.move (v:=.slice A110 y103.length c110) rfl)<|RQ.y rfl (Y.len (by kernel_rfl) rfl)<|RQ.y rfl (Y.binI (v:=.bool (decide (d1.value < (y103.length:Int)))) rfl rfl rfl)<|RQ.y rfl (Y.move (v:=.bool (decide (d1.value < (y103.length:Int)))) rfl) ?_
        rcases bcases (decide (d1.value < (y103.length:Int))) with c111|c111
        ·replace hm:=cF c111 hm
         have pc111:=of_decide_eq_false c111
         iterate 9 refine RQ.skip (wantN (dj:=70) rfl (vb rfl c111) rfl) ?_
         refine RQ.y rfl (Y.pick (b:=false) (v:=.bool false) (vb rfl c111) rfl)<|RQ.y rfl (Y.assign (v:=.bool false) rfl)<|RQ.nil ?_
         intro w112 hb113
         have szw112:=hb113.size
         try have U109:=Tt U109 hb113
         have T:=Tt T hb113
         refine then_n<|wp_ret ?_
         obtain rfl:=sj hm
         exact (blk_r (then_r (ret1 rfl rfl rfl ⟨rfl,T⟩)))
        replace hm:=cT c111 hm
        have pc111:=of_decide_eq_true c111
        refine RQ.y (wantT (dj:=70) rfl (vb rfl c111)) (Y.move (v:=.slice A110 y103.length c110) rfl)<|RQ.y (wantT (dj:=70) rfl (vb rfl c111)) (Y.fieldAddr (off:=2) rfl (by kernel_rfl))<|RQ.y (wantT (dj:=70) rfl (vb rfl c111)) (Y.load (v:=.int .i64 d1.value) rfl (by kernel_rfl) (beC (blkCell B10 (i:=2) rfl))) ?_
        obtain ⟨x114,hx117,hm⟩:=bnd hm
        obtain ⟨k115,hk118,hl119,hx117⟩:=getI_some hx117
        obtain ⟨b121,o122,rfl,hbb121⟩:=h110.addr (by omega)
        obtain ⟨cs116,hRcs116,hc120⟩:=h110.el hx117
        have hScs116:=hRcs116
        obtain ⟨A123,n123,c123,rfl,⟨h123,r123⟩⟩:=hRcs116
        have e123:=h123.len; subst e123
        have q123:=len_le r123
        refine RQ.y (wantT (dj:=70) rfl (vb rfl c111)) (Y.indexAddr (m:=k115) (sz:=2) rfl rfl hk118 hl119 (by kernel_rfl))<|RQ.y (wantT (dj:=70) rfl (vb rfl c111)) (Y.fieldAddr (off:=1) rfl (by kernel_rfl))<|RQ.y (wantT (dj:=70) rfl (vb rfl c111)) (Y.load (v:=.slice A123 x114.fields.length c123) rfl (by kernel_rfl) (beC (cellT U109 (hc120 1 _ rfl))))<|RQ.y (wantT (dj:=70) rfl (vb rfl c111)) (Y.load (v:=.slice (some ⟨b100,o101,none⟩) d2.length ca2) rfl (by kernel_rfl) (beC (blkCell B14 (i:=0) rfl))) ?_
        obtain ⟨_,m124,hm⟩:=bnd hm
        have hk125:=mustP_some m124
        obtain ⟨Av126,eA127⟩ :∃Av,(if ca2=1 then (some ⟨b100,o101,none⟩) else ((some ⟨b100,o101,none⟩):Option Addr).map (·.add (1 * 3)))=Av:=⟨_,rfl⟩
        have ⟨h128,r129⟩:=SlAt.dropV ha2 ra2 hk125 eA127
        refine RQ.y (wantT (dj:=70) rfl (vb rfl c111)) (Y.sliceL (l:=1) (sz:=3) rfl rfl rfl hk125 (by kernel_rfl) eA127) ?_
        obtain ⟨y130,e131,hm⟩:=bnd hm
        refine RQ.call (wantT (dj:=70) rfl (vb rfl c111)) (am2 rfl rfl) (by kernel_rfl) (v:=.bool y130) (bel (K:=fun _=>True) fun w' hb'=>(c_m_impl_sameTypes x114.fields (d2.drop 1) _ e131 _ _ w' (slArg typeRd_ok h123 r123 (Tt U109 hb')) (slArg typeRd_ok h128 r129 (Tt T hb'))))<|RQ.y rfl (Y.pick (b:=true) (v:=.bool y130) (vb rfl c111) rfl)<|RQ.y rfl (Y.assign (v:=.bool y130) rfl)<|RQ.nil ?_
        intro w132 hb133
        have szw132:=hb133.size
        try have U109:=Tt U109 hb133
        have T:=Tt T hb133
        refine then_n<|wp_ret ?_
        obtain rfl:=sj hm
        exact (blk_r (then_r (ret1 rfl rfl rfl ⟨rfl,T⟩)))
       replace hm:=cT c29 hm
       refine cond_t rfl (vb rfl c29)<|wp_seq<|wp_rb rfl<|RQ.y rfl (Y.load (v:=.slice Aa2 d2.length ca2) rfl (by kernel_rfl) (beC (blkCell B14 (i:=0) rfl)))<|RQ.y rfl (Y.makeFunc (vals:=#[.pointer (some ⟨w13.heap.size,0,none⟩)]) (am1 rfl)) ?_
       obtain ⟨y134,e135,hm⟩:=bnd hm
       refine RQ.call rfl (am2 rfl rfl) (by kernel_rfl) (v:=.bool y134) (bel (K:=fun _=>True) fun w' hb'=>(c_m_slices_ContainsFunc_impl_Type_impl_Type d2 (fun x0=>m_impl_Signature_obeys_2 x0 ()) _ e135 _ _ _ w' (slArg typeRd_ok ha2 ra2 (Tt T hb')) (by kernel_rfl) (fun x0 b hx w1 hb1 y0 hy0=>Calls.arr (by simp) (c_m_impl_Signature_obeys_2 x0 () _ hx _ _ w1 hy0 (ptBox (R:=(fncRd 157)) (blkT B22 (Tt hb' hb1)) rfl)))))<|RQ.y rfl (Y.not (b':=(!y134)) rfl rfl)<|RQ.y rfl (Y.assign (v:=.bool (!y134)) rfl)<|RQ.nil ?_
       intro w136 hb137
       have szw136:=hb137.size
       have T:=Tt T hb137
       refine then_n<|wp_ret ?_
       obtain rfl:=sj hm
       exact (blk_r (then_r (ret1 rfl rfl rfl ⟨rfl,T⟩)))
      replace hm:=cT c28 hm
      refine cond_t rfl (vb rfl c28)<|wp_skip<|then_n<|cond_t rfl (vb rfl c28)<|wp_seq<|wp_rb rfl<|RQ.y rfl (Y.load (v:=.slice Aa2 d2.length ca2) rfl (by kernel_rfl) (beC (blkCell B14 (i:=0) rfl)))<|RQ.y rfl (Y.makeFunc (vals:=#[.pointer (some ⟨w13.heap.size,0,none⟩)]) (am1 rfl)) ?_
      obtain ⟨y138,e139,hm⟩:=bnd hm
      refine RQ.call rfl (am2 rfl rfl) (by kernel_rfl) (v:=.bool y138) (bel (K:=fun _=>True) fun w' hb'=>(c_m_slices_ContainsFunc_impl_Type_impl_Type d2 (fun x0=>m_impl_Signature_obeys_2 x0 ()) _ e139 _ _ _ w' (slArg typeRd_ok ha2 ra2 (Tt T hb')) (by kernel_rfl) (fun x0 b hx w1 hb1 y0 hy0=>Calls.arr (by simp) (c_m_impl_Signature_obeys_2 x0 () _ hx _ _ w1 hy0 (ptBox (R:=(fncRd 157)) (blkT B22 (Tt hb' hb1)) rfl)))))<|RQ.y rfl (Y.not (b':=(!y138)) rfl rfl)<|RQ.y rfl (Y.assign (v:=.bool (!y138)) rfl)<|RQ.nil ?_
      intro w140 hb141
      have szw140:=hb141.size
      have T:=Tt T hb141
      refine then_n<|wp_ret ?_
      obtain rfl:=sj hm
      exact (blk_r (then_r (ret1 rfl rfl rfl ⟨rfl,T⟩)))
     replace hm:=cT c27 hm
     refine cond_t rfl (vb rfl c27)<|wp_seq<|wp_rbd (by kernel_rfl) (by kernel_rfl)<|RQ.y rfl (Y.load (v:=.func (.func 157) #[] #[]) rfl (by kernel_rfl) (beC (blkCell B22 (i:=0) rfl)))<|RQ.y rfl (Y.load (v:=.slice Aa2 d2.length ca2) rfl (by kernel_rfl) (beC (blkCell B14 (i:=0) rfl))) ?_
     obtain ⟨x142,hx145,hm⟩:=bnd hm
     obtain ⟨k143,hk146,hl147,hx145⟩:=getI_some hx145
     obtain ⟨b149,o150,rfl,hbb149⟩:=ha2.addr (by omega)
     obtain ⟨cs144,hRcs144,hc148⟩:=ha2.el hx145
     have hScs144:=hRcs144
     obtain ⟨A151,n151,c151,rfl,⟨h151,r151⟩⟩:=(typeRd_out hRcs144)
     have e151:=h151.len; subst e151
     have q151:=len_le r151
     refine RQ.y rfl (Y.indexAddr (m:=k143) (sz:=3) rfl rfl hk146 hl147 (by kernel_rfl))<|RQ.y rfl (Y.loadN (cs:=[.int .i64 x142.kind,.string x142.name,.slice A151 x142.kids.length c151]) rfl (by kernel_rfl) (cells3 (beC (cellT T (hc148 0 _ rfl))) (beC (cellT T (hc148 1 _ rfl))) (beC (cellT T (hc148 2 _ rfl))))) ?_
     obtain ⟨y152,e153,hm⟩:=bnd hm
     refine RQ.callV rfl rfl (am1 rfl) (by kernel_rfl) (v:=.bool y152) (bel (K:=fun _=>True) fun w' hb'=>(c_m_impl_Signature_obeys_1 x142 _ e153 _ w' (stArg (R:=typeRd) (typeRd_in ⟨_,_,_,rfl,⟨SlAt.now typeRd_ok h151 (Nat.le_refl _) (Tt T hb'),r151⟩⟩))))<|RQ.y rfl (Y.assign (v:=.bool y152) rfl)<|RQ.nil ?_
     intro w154 hb155
     have szw154:=hb155.size
     have T:=Tt T hb155
     refine then_n<|wp_ret ?_
     obtain rfl:=sj hm
     exact (blk_r (then_r (ret1 rfl rfl rfl ⟨rfl,T⟩)))
    replace hm:=cT c26 hm
    refine cond_t rfl (vb rfl c26)<|wp_seq<|wp_rbd (by kernel_rfl) (by kernel_rfl)<|RQ.y rfl (Y.load (v:=.slice Aa2 d2.length ca2) rfl (by kernel_rfl) (beC (blkCell B14 (i:=0) rfl))) ?_
    obtain ⟨x156,hx159,hm⟩:=bnd hm
    obtain ⟨k157,hk160,hl161,hx159⟩:=getI_some hx159
    obtain ⟨b163,o164,rfl,hbb163⟩:=ha2.addr (by omega)
    obtain ⟨cs158,hRcs158,hc162⟩:=ha2.el hx159
    have hScs158:=hRcs158
    obtain ⟨A165,n165,c165,rfl,⟨h165,r165⟩⟩:=(typeRd_out hRcs158)
    have e165:=h165.len; subst e165
    have q165:=len_le r165
    refine RQ.y rfl (Y.indexAddr (m:=k157) (sz:=3) rfl rfl hk160 hl161 (by kernel_rfl))<|RQ.y rfl (Y.loadN (cs:=[.int .i64 x156.kind,.string x156.name,.slice A165 x156.kids.length c165]) rfl (by kernel_rfl) (cells3 (beC (cellT T (hc162 0 _ rfl))) (beC (cellT T (hc162 1 _ rfl))) (beC (cellT T (hc162 2 _ rfl)))))<|RQ.y rfl (Y.load (v:=.slice (some ⟨b163,o164,none⟩) d2.length ca2) rfl (by kernel_rfl) (beC (blkCell B14 (i:=0) rfl))) ?_
    obtain ⟨x166,hx169,hm⟩:=bnd hm
    obtain ⟨k167,hk170,hl171,hx169⟩:=getI_some hx169
    obtain ⟨cs168,hRcs168,hc172⟩:=ha2.el hx169
    have hScs168:=hRcs168
    obtain ⟨A173,n173,c173,rfl,⟨h173,r173⟩⟩:=(typeRd_out hRcs168)
    have e173:=h173.len; subst e173
    have q173:=len_le r173
    refine RQ.y rfl (Y.indexAddr (m:=k167) (sz:=3) rfl rfl hk170 hl171 (by kernel_rfl))<|RQ.y rfl (Y.loadN (cs:=[.int .i64 x166.kind,.string x166.name,.slice A173 x166.kids.length c173]) rfl (by kernel_rfl) (cells3 (beC (cellT T (hc172 0 _ rfl))) (beC (cellT T (hc172 1 _ rfl))) (beC (cellT T (hc172 2 _ rfl))))) ?_
    obtain ⟨y174,e175,hm⟩:=bnd hm
    refine RQ.call rfl (am2 rfl rfl) (by kernel_rfl) (v:=.bool y174) (bel (K:=fun _=>True) fun w' hb'=>(c_m_impl_SameType (SizeOf.sizeOf x156) x156 x166 _ e175 _ _ w' (stArg (R:=typeRd) (typeRd_in ⟨_,_,_,rfl,⟨SlAt.now typeRd_ok h165 (Nat.le_refl _) (Tt T hb'),r165⟩⟩)) (stArg (R:=typeRd) (typeRd_in ⟨_,_,_,rfl,⟨SlAt.now typeRd_ok h173 (Nat.le_refl _) (Tt T hb'),r173⟩⟩))))<|RQ.y rfl (Y.move (v:=.bool y174) rfl) ?_
    rcases bcases y174 with c176|c176
    ·replace hm:=cF c176 hm
     iterate 7 refine RQ.skip (wantN (dj:=35) rfl (vb rfl c176) rfl) ?_
     refine RQ.y rfl (Y.pick (b:=false) (v:=.bool false) (vb rfl c176) rfl)<|RQ.y rfl (Y.assign (v:=.bool false) rfl)<|RQ.nil ?_
     intro w177 hb178
     have szw177:=hb178.size
     have T:=Tt T hb178
     refine then_n<|wp_ret ?_
     obtain rfl:=sj hm
     exact (blk_r (then_r (ret1 rfl rfl rfl ⟨rfl,T⟩)))
    replace hm:=cT c176 hm
    refine RQ.y (wantT (dj:=35) rfl (vb rfl c176)) (Y.load (v:=.slice (some ⟨b163,o164,none⟩) d2.length ca2) rfl (by kernel_rfl) (beC (blkCell B14 (i:=0) rfl))) ?_
    obtain ⟨x179,hx182,hm⟩:=bnd hm
    obtain ⟨k180,hk183,hl184,hx182⟩:=getI_some hx182
    obtain ⟨cs181,hRcs181,hc185⟩:=ha2.el hx182
    have hScs181:=hRcs181
    obtain ⟨A186,n186,c186,rfl,⟨h186,r186⟩⟩:=(typeRd_out hRcs181)
    have e186:=h186.len; subst e186
    have q186:=len_le r186
    refine RQ.y (wantT (dj:=35) rfl (vb rfl c176)) (Y.indexAddr (m:=k180) (sz:=3) rfl rfl hk183 hl184 (by kernel_rfl))<|RQ.y (wantT (dj:=35) rfl (vb rfl c176)) (Y.loadN (cs:=[.int .i64 x179.kind,.string x179.name,.slice A186 x179.kids.length c186]) rfl (by kernel_rfl) (cells3 (beC (cellT T (hc185 0 _ rfl))) (beC (cellT T (hc185 1 _ rfl))) (beC (cellT T (hc185 2 _ rfl)))))<|RQ.y (wantT (dj:=35) rfl (vb rfl c176)) (Y.load (v:=.slice (some ⟨b163,o164,none⟩) d2.length ca2) rfl (by kernel_rfl) (beC (blkCell B14 (i:=0) rfl))) ?_
    obtain ⟨x187,hx190,hm⟩:=bnd hm
    obtain ⟨k188,hk191,hl192,hx190⟩:=getI_some hx190
    obtain ⟨cs189,hRcs189,hc193⟩:=ha2.el hx190
    have hScs189:=hRcs189
    obtain ⟨A194,n194,c194,rfl,⟨h194,r194⟩⟩:=(typeRd_out hRcs189)
    have e194:=h194.len; subst e194
    have q194:=len_le r194
    refine RQ.y (wantT (dj:=35) rfl (vb rfl c176)) (Y.indexAddr (m:=k188) (sz:=3) rfl rfl hk191 hl192 (by kernel_rfl))<|RQ.y (wantT (dj:=35) rfl (vb rfl c176)) (Y.loadN (cs:=[.int .i64 x187.kind,.string x187.name,.slice A194 x187.kids.length c194]) rfl (by kernel_rfl) (cells3 (beC (cellT T (hc193 0 _ rfl))) (beC (cellT T (hc193 1 _ rfl))) (beC (cellT T (hc193 2 _ rfl))))) ?_
    obtain ⟨y195,e196,hm⟩:=bnd hm
    refine RQ.call (wantT (dj:=35) rfl (vb rfl c176)) (am2 rfl rfl) (by kernel_rfl) (v:=.bool y195) (bel (K:=fun _=>True) fun w' hb'=>(c_m_impl_SameType (SizeOf.sizeOf x179) x179 x187 _ e196 _ _ w' (stArg (R:=typeRd) (typeRd_in ⟨_,_,_,rfl,⟨SlAt.now typeRd_ok h186 (Nat.le_refl _) (Tt T hb'),r186⟩⟩)) (stArg (R:=typeRd) (typeRd_in ⟨_,_,_,rfl,⟨SlAt.now typeRd_ok h194 (Nat.le_refl _) (Tt T hb'),r194⟩⟩))))<|RQ.y rfl (Y.pick (b:=true) (v:=.bool y195) (vb rfl c176) rfl)<|RQ.y rfl (Y.assign (v:=.bool y195) rfl)<|RQ.nil ?_
    intro w197 hb198
    have szw197:=hb198.size
    have T:=Tt T hb198
    refine then_n<|wp_ret ?_
    obtain rfl:=sj hm
    exact (blk_r (then_r (ret1 rfl rfl rfl ⟨rfl,T⟩)))
   replace hm:=cT c25 hm
   refine cond_t rfl (vb rfl c25)<|wp_seq ?_
   refine wp_rg (fun w'=>Below w.heap.size w w'∧Blk w' w9.heap.size 36 #[.slice Aa2 d2.length ca2]) [(0,true),(1,true),(2,true),(3,true),(4,true),(5,true),(6,true),(7,true),(8,true),(9,false),(10,false),(11,true)] (by kernel_rfl) (by kernel_rfl) (fun w199 hb200 szw199=>?_)
   have B6:=blkT B6 hb200
   have B10:=blkT B10 hb200
   have B14:=blkT B14 hb200
   have B22:=blkT B22 hb200
   have T:=Tt T hb200
   refine ⟨⟨T,B14⟩,?_⟩
   refine RG.y rfl rfl (Y.load (v:=.slice Aa2 d2.length ca2) rfl (by kernel_rfl) (fun w' hS=>(blkCell hS.2 (i:=0) rfl))) ?_
   obtain ⟨x201,hx204,hm⟩:=bnd hm
   obtain ⟨k202,hk205,hl206,hx204⟩:=getI_some hx204
   obtain ⟨b208,o209,rfl,hbb208⟩:=ha2.addr (by omega)
   obtain ⟨cs203,hRcs203,hc207⟩:=ha2.el hx204
   have hScs203:=hRcs203
   obtain ⟨A210,n210,c210,rfl,⟨h210,r210⟩⟩:=(typeRd_out hRcs203)
   have e210:=h210.len; subst e210
   have q210:=len_le r210
   refine RG.y rfl rfl (Y.indexAddr (m:=k202) (sz:=3) rfl rfl hk205 hl206 (by kernel_rfl))<|RG.y rfl rfl (Y.loadN (cs:=[.int .i64 x201.kind,.string x201.name,.slice A210 x201.kids.length c210]) rfl (by kernel_rfl) (cells3 (fun w' hS=>(cellT hS.1 (hc207 0 _ rfl))) (fun w' hS=>(cellT hS.1 (hc207 1 _ rfl))) (fun w' hS=>(cellT hS.1 (hc207 2 _ rfl)))))<|RG.y rfl rfl (Y.load (v:=.slice (some ⟨b208,o209,none⟩) d2.length ca2) rfl (by kernel_rfl) (fun w' hS=>(blkCell hS.2 (i:=0) rfl))) ?_
   obtain ⟨x211,hx214,hm⟩:=bnd hm
   obtain ⟨k212,hk215,hl216,hx214⟩:=getI_some hx214
   obtain ⟨cs213,hRcs213,hc217⟩:=ha2.el hx214
   have hScs213:=hRcs213
   obtain ⟨A218,n218,c218,rfl,⟨h218,r218⟩⟩:=(typeRd_out hRcs213)
   have e218:=h218.len; subst e218
   have q218:=len_le r218
   refine RG.y rfl rfl (Y.indexAddr (m:=k212) (sz:=3) rfl rfl hk215 hl216 (by kernel_rfl))<|RG.y rfl rfl (Y.loadN (cs:=[.int .i64 x211.kind,.string x211.name,.slice A218 x211.kids.length c218]) rfl (by kernel_rfl) (cells3 (fun w' hS=>(cellT hS.1 (hc217 0 _ rfl))) (fun w' hS=>(cellT hS.1 (hc217 1 _ rfl))) (fun w' hS=>(cellT hS.1 (hc217 2 _ rfl)))))<|RG.y rfl rfl (Y.load (v:=.slice (some ⟨b208,o209,none⟩) d2.length ca2) rfl (by kernel_rfl) (fun w' hS=>(blkCell hS.2 (i:=0) rfl))) ?_
   obtain ⟨x219,hx222,hm⟩:=bnd hm
   obtain ⟨k220,hk223,hl224,hx222⟩:=getI_some hx222
   obtain ⟨cs221,hRcs221,hc225⟩:=ha2.el hx222
   have hScs221:=hRcs221
   obtain ⟨A226,n226,c226,rfl,⟨h226,r226⟩⟩:=(typeRd_out hRcs221)
   have e226:=h226.len; subst e226
   have q226:=len_le r226
   refine RG.y rfl rfl (Y.indexAddr (m:=k220) (sz:=3) rfl rfl hk223 hl224 (by kernel_rfl))<|RG.y rfl rfl (Y.loadN (cs:=[.int .i64 x219.kind,.string x219.name,.slice A226 x219.kids.length c226]) rfl (by kernel_rfl) (cells3 (fun w' hS=>(cellT hS.1 (hc225 0 _ rfl))) (fun w' hS=>(cellT hS.1 (hc225 1 _ rfl))) (fun w' hS=>(cellT hS.1 (hc225 2 _ rfl)))))<|RG.act rfl ?_
   obtain ⟨y227,e228,hm⟩:=bnd hm
   refine RL.call rfl (am2 rfl rfl) (by kernel_rfl) ((c_funTM x211 x219 _ e228 _ _ _ (stArg (R:=typeRd) (typeRd_in ⟨_,_,_,rfl,⟨SlAt.now typeRd_ok h218 (Nat.le_refl _) T,r218⟩⟩)) (stArg (R:=typeRd) (typeRd_in ⟨_,_,_,rfl,⟨SlAt.now typeRd_ok h226 (Nat.le_refl _) T,r226⟩⟩))).mono ?_)
   rintro _ w231 ⟨⟨v229,rfl,hv230⟩,hb232⟩
   refine ⟨_,rfl,?_⟩
   have szw231:=hb232.size
   have B6:=blkT B6 hb232
   have B10:=blkT B10 hb232
   have B14:=blkT B14 hb232
   have B22:=blkT B22 hb232
   have T:=Tt T hb232
   obtain ⟨cs234,rfl,hR235⟩:=hv230
   obtain ⟨A236,n236,c236,rfl,⟨h236,r236⟩⟩:=(typeRd_out hR235)
   have e236:=h236.len; subst e236
   have q236:=len_le r236
   have U233:=Below.refl w231.heap.size w231
   refine RL.nil ⟨⟨T,B14⟩,?_⟩
   refine RG.act rfl ?_
   obtain ⟨y237,e238,hm⟩:=bnd hm
   refine RL.call rfl (am2 rfl rfl) (by kernel_rfl) ((c_m_impl_SameType (SizeOf.sizeOf x201) x201 y227 _ e238 _ _ _ (stArg (R:=typeRd) (typeRd_in ⟨_,_,_,rfl,⟨SlAt.now typeRd_ok h210 (Nat.le_refl _) T,r210⟩⟩)) (stArg (R:=typeRd) (typeRd_in ⟨_,_,_,rfl,⟨SlAt.now typeRd_ok h236 (Nat.le_refl _) U233,r236⟩⟩))).mono ?_)
   rintro _ w239 ⟨rfl,hb240⟩
   refine ⟨_,rfl,?_⟩
   have szw239:=hb240.size
   have B6:=blkT B6 hb240
   have B10:=blkT B10 hb240
   have B14:=blkT B14 hb240
   have B22:=blkT B22 hb240
   try have U233:=Tt U233 hb240
   have T:=Tt T hb240
   refine RL.nil ⟨⟨T,B14⟩,?_⟩
   refine RG.y rfl rfl (Y.assign (v:=.bool y237) rfl)<|RG.nil<|then_n<|wp_ret ?_
   obtain rfl:=sj hm
   exact (blk_r (then_r (ret1 rfl rfl rfl ⟨rfl,T⟩)))
  replace hm:=cT c24 hm
  refine cond_t rfl (vb rfl c24)<|wp_skip<|then_n<|cond_t rfl (vb rfl c24)<|wp_seq ?_
  refine wp_rg (fun w'=>Below w.heap.size w w'∧Blk w' w9.heap.size 36 #[.slice Aa2 d2.length ca2]) [(0,true),(1,true),(2,true),(3,true),(4,true),(5,true),(6,true),(7,true),(8,true),(9,false),(10,false),(11,true)] (by kernel_rfl) (by kernel_rfl) (fun w241 hb242 szw241=>?_)
  have B6:=blkT B6 hb242
  have B10:=blkT B10 hb242
  have B14:=blkT B14 hb242
  have B22:=blkT B22 hb242
  have T:=Tt T hb242
  refine ⟨⟨T,B14⟩,?_⟩
  refine RG.y rfl rfl (Y.load (v:=.slice Aa2 d2.length ca2) rfl (by kernel_rfl) (fun w' hS=>(blkCell hS.2 (i:=0) rfl))) ?_
  obtain ⟨x243,hx246,hm⟩:=bnd hm
  obtain ⟨k244,hk247,hl248,hx246⟩:=getI_some hx246
  obtain ⟨b250,o251,rfl,hbb250⟩:=ha2.addr (by omega)
  obtain ⟨cs245,hRcs245,hc249⟩:=ha2.el hx246
  have hScs245:=hRcs245
  obtain ⟨A252,n252,c252,rfl,⟨h252,r252⟩⟩:=(typeRd_out hRcs245)
  have e252:=h252.len; subst e252
  have q252:=len_le r252
  refine RG.y rfl rfl (Y.indexAddr (m:=k244) (sz:=3) rfl rfl hk247 hl248 (by kernel_rfl))<|RG.y rfl rfl (Y.loadN (cs:=[.int .i64 x243.kind,.string x243.name,.slice A252 x243.kids.length c252]) rfl (by kernel_rfl) (cells3 (fun w' hS=>(cellT hS.1 (hc249 0 _ rfl))) (fun w' hS=>(cellT hS.1 (hc249 1 _ rfl))) (fun w' hS=>(cellT hS.1 (hc249 2 _ rfl)))))<|RG.y rfl rfl (Y.load (v:=.slice (some ⟨b250,o251,none⟩) d2.length ca2) rfl (by kernel_rfl) (fun w' hS=>(blkCell hS.2 (i:=0) rfl))) ?_
  obtain ⟨x253,hx256,hm⟩:=bnd hm
  obtain ⟨k254,hk257,hl258,hx256⟩:=getI_some hx256
  obtain ⟨cs255,hRcs255,hc259⟩:=ha2.el hx256
  have hScs255:=hRcs255
  obtain ⟨A260,n260,c260,rfl,⟨h260,r260⟩⟩:=(typeRd_out hRcs255)
  have e260:=h260.len; subst e260
  have q260:=len_le r260
  refine RG.y rfl rfl (Y.indexAddr (m:=k254) (sz:=3) rfl rfl hk257 hl258 (by kernel_rfl))<|RG.y rfl rfl (Y.loadN (cs:=[.int .i64 x253.kind,.string x253.name,.slice A260 x253.kids.length c260]) rfl (by kernel_rfl) (cells3 (fun w' hS=>(cellT hS.1 (hc259 0 _ rfl))) (fun w' hS=>(cellT hS.1 (hc259 1 _ rfl))) (fun w' hS=>(cellT hS.1 (hc259 2 _ rfl)))))<|RG.y rfl rfl (Y.load (v:=.slice (some ⟨b250,o251,none⟩) d2.length ca2) rfl (by kernel_rfl) (fun w' hS=>(blkCell hS.2 (i:=0) rfl))) ?_
  obtain ⟨x261,hx264,hm⟩:=bnd hm
  obtain ⟨k262,hk265,hl266,hx264⟩:=getI_some hx264
  obtain ⟨cs263,hRcs263,hc267⟩:=ha2.el hx264
  have hScs263:=hRcs263
  obtain ⟨A268,n268,c268,rfl,⟨h268,r268⟩⟩:=(typeRd_out hRcs263)
  have e268:=h268.len; subst e268
  have q268:=len_le r268
  refine RG.y rfl rfl (Y.indexAddr (m:=k262) (sz:=3) rfl rfl hk265 hl266 (by kernel_rfl))<|RG.y rfl rfl (Y.loadN (cs:=[.int .i64 x261.kind,.string x261.name,.slice A268 x261.kids.length c268]) rfl (by kernel_rfl) (cells3 (fun w' hS=>(cellT hS.1 (hc267 0 _ rfl))) (fun w' hS=>(cellT hS.1 (hc267 1 _ rfl))) (fun w' hS=>(cellT hS.1 (hc267 2 _ rfl)))))<|RG.act rfl ?_
  obtain ⟨y269,e270,hm⟩:=bnd hm
  refine RL.call rfl (am2 rfl rfl) (by kernel_rfl) ((c_funTM x253 x261 _ e270 _ _ _ (stArg (R:=typeRd) (typeRd_in ⟨_,_,_,rfl,⟨SlAt.now typeRd_ok h260 (Nat.le_refl _) T,r260⟩⟩)) (stArg (R:=typeRd) (typeRd_in ⟨_,_,_,rfl,⟨SlAt.now typeRd_ok h268 (Nat.le_refl _) T,r268⟩⟩))).mono ?_)
  rintro _ w273 ⟨⟨v271,rfl,hv272⟩,hb274⟩
  refine ⟨_,rfl,?_⟩
  have szw273:=hb274.size
  have B6:=blkT B6 hb274
  have B10:=blkT B10 hb274
  have B14:=blkT B14 hb274
  have B22:=blkT B22 hb274
  have T:=Tt T hb274
  obtain ⟨cs276,rfl,hR277⟩:=hv272
  obtain ⟨A278,n278,c278,rfl,⟨h278,r278⟩⟩:=(typeRd_out hR277)
  have e278:=h278.len; subst e278
  have q278:=len_le r278
  have U275:=Below.refl w273.heap.size w273
  refine RL.nil ⟨⟨T,B14⟩,?_⟩
  refine RG.act rfl ?_
  obtain ⟨y279,e280,hm⟩:=bnd hm
  refine RL.call rfl (am2 rfl rfl) (by kernel_rfl) ((c_m_impl_SameType (SizeOf.sizeOf x243) x243 y269 _ e280 _ _ _ (stArg (R:=typeRd) (typeRd_in ⟨_,_,_,rfl,⟨SlAt.now typeRd_ok h252 (Nat.le_refl _) T,r252⟩⟩)) (stArg (R:=typeRd) (typeRd_in ⟨_,_,_,rfl,⟨SlAt.now typeRd_ok h278 (Nat.le_refl _) U275,r278⟩⟩))).mono ?_)
  rintro _ w281 ⟨rfl,hb282⟩
  refine ⟨_,rfl,?_⟩
  have szw281:=hb282.size
  have B6:=blkT B6 hb282
  have B10:=blkT B10 hb282
  have B14:=blkT B14 hb282
  have B22:=blkT B22 hb282
  try have U275:=Tt U275 hb282
  have T:=Tt T hb282
  refine RL.nil ⟨⟨T,B14⟩,?_⟩
  refine RG.y rfl rfl (Y.assign (v:=.bool y279) rfl)<|RG.nil<|then_n<|wp_ret ?_
  obtain rfl:=sj hm
  exact (blk_r (then_r (ret1 rfl rfl rfl ⟨rfl,T⟩)))
noncomputable def m_impl_checkTyping_A2:Option Int:=
  some 0
noncomputable def m_impl_checkTyping_B2 (d0:DSignature) (d1:DTypedNet) (rec2:Int→Option Int) (K2:Option Int) (i34:Int):Option Int:=
  (bif (decide (i34 < (d1.net.agents.length:Int))) then ((getI d1.net.agents i34).bind fun x37=>((getI d1.types i34).bind fun x55=>((m_impl_Signature_obeys d0 x37 x55).bind fun y65=>(bif y65 then (rec2 (i34+1)) else some 8)))) else (K2))
noncomputable def m_impl_checkTyping_L2 (d0:DSignature) (d1:DTypedNet) (K2:Option Int):Nat→Int→Option Int
  |0,_=>none
  |g+1,i34=>m_impl_checkTyping_B2 d0 d1 (m_impl_checkTyping_L2 d0 d1 K2 g) K2 i34
noncomputable def m_impl_checkTyping_A1 (d0:DSignature) (d1:DTypedNet):Option Int:=
  (m_impl_checkTyping_L2 d0 d1 m_impl_checkTyping_A2 (d1.net.agents.length+1) 0)
noncomputable def m_impl_checkTyping_B1 (d0:DSignature) (d1:DTypedNet) (y23:List DPort) (rec1:Int→Option Int) (K1:Option Int) (i71:Int):Option Int:=
  (bif (decide (i71 < (y23.length:Int))) then ((getI y23 i71).bind fun x74=>((m_impl_Net_peer (⟨d1.net.agents⟩:DNet) x74).bind fun y87=>((getI d1.types x74.agent).bind fun x100=>((getI x100 x74.slot).bind fun x110=>((m_impl_isSimple (SizeOf.sizeOf x110) d0.datas x110).bind fun y127=>(bif y127 then ((getI d1.types y87.agent).bind fun x132=>((getI x132 y87.slot).bind fun x140=>((m_impl_SameType (SizeOf.sizeOf x110) x110 x140).bind fun y150=>(bif y150 then (rec1 (i71+1)) else some 8)))) else some 8)))))) else (K1))
noncomputable def m_impl_checkTyping_L1 (d0:DSignature) (d1:DTypedNet) (y23:List DPort) (K1:Option Int):Nat→Int→Option Int
  |0,_=>none
  |g+1,i71=>m_impl_checkTyping_B1 d0 d1 y23 (m_impl_checkTyping_L1 d0 d1 y23 K1 g) K1 i71
noncomputable def m_impl_checkTyping (d0:DSignature) (d1:DTypedNet):Option Int:=
  ((m_impl_ValidNet (⟨d1.net.agents⟩:DNet)).bind fun y13=>(bif y13 then ((m_impl_typesFit d1).bind fun y18=>(bif y18 then ((m_impl_Net_ports (⟨d1.net.agents⟩:DNet)).bind fun y23=>(m_impl_checkTyping_L1 d0 d1 y23 (m_impl_checkTyping_A1 d0 d1) (y23.length+1) 0)) else some 1)) else some 1))
set_option maxHeartbeats 2000000 in
theorem c_m_impl_checkTyping (d0:DSignature) (d1:DTypedNet) (r:Int) (hm:m_impl_checkTyping d0 d1=some r) (v0:Value) (v1:Value) (w:World) (hv0:St signatureRd w v0 d0) (hv1:St typedNetRd w v1 d1) :
    Calls Tryz.prog 46 #[v0,v1] w fun e w'=>e=.returned (.int .i64 r)∧Below w.heap.size w w':=by
  obtain ⟨csa0,rfl,⟨A1,n1,c1,A2,n2,c2,rfl,⟨h1,r1⟩,⟨h2,r2⟩⟩⟩:=hv0
  have e1:=h1.len; subst e1
  have q1:=len_le r1
  have e2:=h2.len; subst e2
  have q2:=len_le r2
  obtain ⟨csa1,rfl,⟨A3,n3,c3,A4,n4,c4,rfl,⟨h3,r3⟩,⟨h4,r4⟩⟩⟩:=hv1
  have e3:=h3.len; subst e3
  have q3:=len_le r3
  have e4:=h4.len; subst e4
  have q4:=len_le r4
  have T:=Below.refl w.heap.size w
  unfold m_impl_checkTyping at hm
  refine enter 80 Tryz.func46 rfl rfl rfl ?_
  intro f hf
  have s0:f 0=.agg #[.slice A1 d0.datas.length c1,.slice A2 d0.defs.length c2]:=hf 0 _ rfl
  have s1:f 1=.agg #[.slice A3 d1.net.agents.length c3,.slice A4 d1.types.length c4]:=hf 1 _ rfl
  refine wp_seq<|wp_rl rfl ?_
  refine RL.box rfl s0 (fun w5 B6 hb7 szw5=>?_)
  replace B6:Blk w5 w.heap.size 38 #[.slice A1 d0.datas.length c1,.slice A2 d0.defs.length c2]:=B6
  have GB6:w.heap.size≤w.heap.size:=T.size
  have T:=Tt T hb7
  refine RL.box rfl s1 (fun w9 B10 hb11 szw9=>?_)
  replace B10:Blk w9 w5.heap.size 45 #[.slice A3 d1.net.agents.length c3,.slice A4 d1.types.length c4]:=B10
  have GB10:w.heap.size≤w5.heap.size:=T.size
  have Eob12_ob8:=Nat.ne_of_lt B6.lt
  have B6:=blkT B6 hb11
  have T:=Tt T hb11
  refine RL.y rfl (Y.assign (v:=.int .i64 0) rfl)<|RL.nil<|then_n<|wp_seq<|wp_seq<|wp_rb rfl<|RQ.y rfl (Y.fieldAddr (off:=0) rfl (by kernel_rfl))<|RQ.y rfl (Y.loadN (cs:=[.slice A3 d1.net.agents.length c3]) rfl (by kernel_rfl) (cells1 (beC (blkCell B10 (i:=0) rfl)))) ?_
  obtain ⟨y13,e14,hm⟩:=bnd hm
  refine RQ.call rfl (am1 rfl) (by kernel_rfl) (v:=.bool y13) (bel (K:=fun _=>True) fun w' hb'=>(c_m_impl_ValidNet (⟨d1.net.agents⟩:DNet) _ e14 _ w' (stArg (R:=netRd) ⟨_,_,_,rfl,⟨SlAt.now agentRd_ok h3 (Nat.le_refl _) (Tt T hb'),r3⟩⟩)))<|RQ.y rfl (Y.not (b':=(!y13)) rfl rfl)<|RQ.y rfl (Y.move (v:=.bool (!y13)) rfl) ?_
  rcases bcases y13 with c15|c15
  ·replace hm:=cF c15 hm
   iterate 3 refine RQ.skip (wantN (dj:=15) rfl (vbn rfl c15 rfl) rfl) ?_
   refine RQ.y rfl (Y.pick (b:=true) (v:=.bool true) (vbn rfl c15 rfl) rfl)<|RQ.nil ?_
   intro w16 hb17
   have szw16:=hb17.size
   have B6:=blkT B6 hb17
   have B10:=blkT B10 hb17
   have T:=Tt T hb17
   refine then_n<|cond_t rfl rfl<|wp_seq<|wp_rs rfl<|RQ.y rfl (Y.assign (v:=.int .i64 1) rfl)<|RQ.nil<|then_n<|wp_ret ?_
   obtain rfl:=sj hm
   exact (then_r (ret1 rfl rfl rfl ⟨rfl,T⟩))
  replace hm:=cT c15 hm
  refine RQ.y (wantT (dj:=15) rfl (vbn rfl c15 rfl)) (Y.loadN (cs:=[.slice A3 d1.net.agents.length c3,.slice A4 d1.types.length c4]) rfl (by kernel_rfl) (cells2 (beC (blkCell B10 (i:=0) rfl)) (beC (blkCell B10 (i:=1) rfl)))) ?_
  obtain ⟨y18,e19,hm⟩:=bnd hm
  refine RQ.call (wantT (dj:=15) rfl (vbn rfl c15 rfl)) (am1 rfl) (by kernel_rfl) (v:=.bool y18) (bel (K:=fun _=>True) fun w' hb'=>(c_m_impl_typesFit d1 _ e19 _ w' (stArg (R:=typedNetRd) ⟨_,_,_,_,_,_,rfl,⟨SlAt.now agentRd_ok h3 (Nat.le_refl _) (Tt T hb'),r3⟩,⟨SlAt.now (slRd_ok typeRd_ok) h4 (Nat.le_refl _) (Tt T hb'),r4⟩⟩)))<|RQ.y (wantT (dj:=15) rfl (vbn rfl c15 rfl)) (Y.not (b':=(!y18)) rfl rfl)<|RQ.y rfl (Y.pick (b:=false) (v:=.bool (!y18)) (vbn rfl c15 rfl) rfl)<|RQ.nil ?_
  intro w20 hb21
  have szw20:=hb21.size
  have B6:=blkT B6 hb21
  have B10:=blkT B10 hb21
  have T:=Tt T hb21
  refine then_n ?_
  rcases bcases y18 with c22|c22
  ·replace hm:=cF c22 hm
   refine cond_t rfl (vbn rfl c22 rfl)<|wp_seq<|wp_rs rfl<|RQ.y rfl (Y.assign (v:=.int .i64 1) rfl)<|RQ.nil<|then_n<|wp_ret ?_
   obtain rfl:=sj hm
   exact (then_r (ret1 rfl rfl rfl ⟨rfl,T⟩))
  replace hm:=cT c22 hm
  refine cond_f rfl (vbn rfl c22 rfl)<|wp_skip<|then_n<|wp_seq<|wp_seq<|wp_rl rfl<|RL.y rfl (Y.fieldAddr (off:=0) rfl (by kernel_rfl)) ?_
  obtain ⟨y23,e24,hm⟩:=bnd hm
  refine RL.call rfl (am1 rfl) (by kernel_rfl) ((c_m_impl_Net_ports (⟨d1.net.agents⟩:DNet) _ e24 _ _ (ptBoxS (R:=netRd) (pre:=[]) (cs:=[.slice A3 d1.net.agents.length c3]) (post:=[.slice A4 d1.types.length c4]) B10 ⟨_,_,_,rfl,⟨SlAt.now agentRd_ok h3 (Nat.le_refl _) T,r3⟩⟩ rfl)).mono ?_)
  rintro _ w28 ⟨⟨v25,rfl,G26⟩,hb29⟩
  refine ⟨_,rfl,?_⟩
  have szw28:=hb29.size
  have T0w28:=T.size
  have Zo27_ob8:=ap_ne (Ap.new (OwF.flo G26) (one_hi B6.lt))
  have Zo27_ob12:=ap_ne (Ap.new (OwF.flo G26) (one_hi B10.lt))
  have B6:=blkT B6 hb29
  have B10:=blkT B10 hb29
  have T:=Tt T hb29
  replace G26:=OwF.mono G26 T0w28
  obtain ⟨A30,c31,rfl⟩:=OwF.form G26
  have qbA30:=OwF.bound G26
  refine RL.y rfl (Y.len (by kernel_rfl) rfl)<|RL.y rfl (Y.move (v:=.int .i64 0) rfl)<|RL.nil<|then_n<|wp_block ?_
  obtain ⟨K1,hK1,hm⟩ :∃K,K=(m_impl_checkTyping_A1 d0 d1)∧m_impl_checkTyping_L1 d0 d1 y23 K (y23.length+1) 0=some r:=⟨_,rfl,hm⟩
  refine wp_loopX (fun g f w'=>∃(i71:Int),f 2=.pointer (some ⟨w.heap.size,0,none⟩)∧f 3=.pointer (some ⟨w5.heap.size,0,none⟩)∧f 21=.slice A30 y23.length c31∧f 22=.int .i64 (y23.length:Int)∧f 23=.int .i64 i71∧0≤i71∧Blk w' w.heap.size 38 #[.slice A1 d0.datas.length c1,.slice A2 d0.defs.length c2]∧Blk w' w5.heap.size 45 #[.slice A3 d1.net.agents.length c3,.slice A4 d1.types.length c4]∧OwF 161 encPort 2 w' w.heap.size (.slice A30 y23.length c31) y23∧Below w.heap.size w w'∧m_impl_checkTyping_L1 d0 d1 y23 K1 g i71=some r) 0 (fun f w'=>f 2=.pointer (some ⟨w.heap.size,0,none⟩)∧f 3=.pointer (some ⟨w5.heap.size,0,none⟩)∧Blk w' w.heap.size 38 #[.slice A1 d0.datas.length c1,.slice A2 d0.defs.length c2]∧Blk w' w5.heap.size 45 #[.slice A3 d1.net.agents.length c3,.slice A4 d1.types.length c4]∧Below w.heap.size w w'∧m_impl_checkTyping_A1 d0 d1  = some r) (y23.length+1) ⟨0,rfl,rfl,rfl,rfl,rfl,(by omega),B6,B10,G26,T,hm⟩ ?_ ?_
  ·rintro f w32 ⟨s2_1x,s3_1x,B6,B10,T,hm⟩
   unfold m_impl_checkTyping_A1 at hm
   refine blk_hit (then_n ?_)
   refine wp_seq<|wp_seq<|wp_rs rfl<|RQ.y rfl (Y.fieldAddr (off:=0) s3_1x (by kernel_rfl))<|RQ.y rfl (Y.fieldAddr (off:=0) rfl (by kernel_rfl))<|RQ.y rfl (Y.load (v:=.slice A3 d1.net.agents.length c3) rfl (by kernel_rfl) (eqC (blkCell B10 (i:=0) rfl)))<|RQ.y rfl (Y.len (by kernel_rfl) rfl)<|RQ.y rfl (Y.move (v:=.int .i64 0) rfl)<|RQ.nil<|then_n<|wp_block ?_
   obtain ⟨K2,hK2,hm⟩ :∃K,K=m_impl_checkTyping_A2∧m_impl_checkTyping_L2 d0 d1 K (d1.net.agents.length+1) 0=some r:=⟨_,rfl,hm⟩
   refine wp_loopX (fun g f w'=>∃(i34:Int),f 2=.pointer (some ⟨w.heap.size,0,none⟩)∧f 3=.pointer (some ⟨w5.heap.size,0,none⟩)∧f 63=.slice A3 d1.net.agents.length c3∧f 64=.int .i64 (d1.net.agents.length:Int)∧f 65=.int .i64 i34∧0≤i34∧Blk w' w.heap.size 38 #[.slice A1 d0.datas.length c1,.slice A2 d0.defs.length c2]∧Blk w' w5.heap.size 45 #[.slice A3 d1.net.agents.length c3,.slice A4 d1.types.length c4]∧Below w.heap.size w w'∧m_impl_checkTyping_L2 d0 d1 K2 g i34=some r) 2 (fun f w'=>Blk w' w.heap.size 38 #[.slice A1 d0.datas.length c1,.slice A2 d0.defs.length c2]∧Blk w' w5.heap.size 45 #[.slice A3 d1.net.agents.length c3,.slice A4 d1.types.length c4]∧Below w.heap.size w w'∧m_impl_checkTyping_A2  = some r) (d1.net.agents.length+1) ⟨0,s2_1x,s3_1x,rfl,rfl,rfl,(by omega),B6,B10,T,hm⟩ ?_ ?_
   ·rintro f w33 ⟨B6,B10,T,hm⟩
    unfold m_impl_checkTyping_A2 at hm
    refine blk_hit (then_n ?_)
    refine wp_seq<|wp_rs rfl<|RQ.y rfl (Y.assign (v:=.int .i64 0) rfl)<|RQ.nil<|then_n<|wp_ret ?_
    obtain rfl:=sj hm
    exact (ret1 rfl rfl rfl ⟨rfl,T⟩)
   rintro g f w35 ⟨i34,s2_2,s3_2,s63_2,s64_2,s65_2,nn65_2,B6,B10,T,hm⟩
   rcases g with _|g
   ·simp only [m_impl_checkTyping_L2] at hm; cases hm
   obtain ⟨rec2,hrec2,hm⟩ :∃z,z=m_impl_checkTyping_L2 d0 d1 K2 g∧m_impl_checkTyping_B2 d0 d1 z K2 i34=some r:=⟨_,rfl,hm⟩
   unfold m_impl_checkTyping_B2 at hm
   refine wp_seq<|wp_rs rfl<|RQ.y rfl (Y.binI (v:=.bool (decide (i34 < (d1.net.agents.length:Int)))) s65_2 s64_2 rfl)<|RQ.nil<|then_n<|wp_seq ?_
   rcases bcases (decide (i34 < (d1.net.agents.length:Int))) with c36|c36
   ·replace hm:=cF c36 hm
    have pc36:=of_decide_eq_false c36
    refine cond_f rfl (vb rfl c36)<|wp_exit ?_
    exact (then_x (then_x (hit_x ⟨_,rfl,⟨B6,B10,T,(by rw [hK2] at hm; exact hm)⟩⟩)))
   replace hm:=cT c36 hm
   have pc36:=of_decide_eq_true c36
   refine cond_t rfl (vb rfl c36)<|wp_skip<|then_n<|wp_seq<|wp_block<|wp_seq<|wp_rl rfl<|RL.y rfl (Y.move (v:=.int .i64 i34) s65_2) ?_
   obtain ⟨x37,hx40,hm⟩:=bnd hm
   obtain ⟨k38,hk41,hl42,hx40⟩:=getI_some hx40
   obtain ⟨b44,o45,rfl,hbb44⟩:=h3.addr (by omega)
   obtain ⟨cs39,hRcs39,hc43⟩:=h3.el hx40
   have hScs39:=hRcs39
   obtain ⟨A46,n46,c46,A47,n47,c47,rfl,⟨h46,r46⟩,⟨h47,r47⟩⟩:=hRcs39
   have e46:=h46.len; subst e46
   have q46:=len_le r46
   have e47:=h47.len; subst e47
   have q47:=len_le r47
   refine RL.y rfl (Y.indexAddr (m:=k38) (sz:=5) s63_2 s65_2 hk41 hl42 (by kernel_rfl))<|RL.y rfl (Y.loadN (cs:=[.int .i64 x37.kind,.int .i64 x37.level,.int .i64 x37.value,.slice A46 x37.data.length c46,.slice A47 x37.ports.length c47]) rfl (by kernel_rfl) (cells5 (eqC (cellT T (hc43 0 _ rfl))) (eqC (cellT T (hc43 1 _ rfl))) (eqC (cellT T (hc43 2 _ rfl))) (eqC (cellT T (hc43 3 _ rfl))) (eqC (cellT T (hc43 4 _ rfl))))) ?_
   refine RL.alloc (z:=.agg #[.int .i64 0,.int .i64 0,.int .i64 0,.slice none 0 0,.slice none 0 0]) rfl (by kernel_rfl) (fun w48 B49 hb50 szw48=>?_)
   replace B49:Blk w48 w35.heap.size 159 #[.int .i64 0,.int .i64 0,.int .i64 0,.slice none 0 0,.slice none 0 0]:=B49
   have GB49:w.heap.size≤w35.heap.size:=T.size
   have Eob51_ob8:=Nat.ne_of_lt B6.lt
   have Eob51_ob12:=Nat.ne_of_lt B10.lt
   have B6:=blkT B6 hb50
   have B10:=blkT B10 hb50
   have T:=Tt T hb50
   refine RL.y rfl (Y.assign (v:=.int .i64 i34) rfl) ?_
   refine RL.store (v:=.agg #[.int .i64 x37.kind,.int .i64 x37.level,.int .i64 x37.value,.slice A46 x37.data.length c46,.slice A47 x37.ports.length c47]) (cs':=#[.int .i64 x37.kind,.int .i64 x37.level,.int .i64 x37.value,.slice A46 x37.data.length c46,.slice A47 x37.ports.length c47]) rfl rfl rfl B49 (by kernel_rfl) (by rfl) (by rfl) (by rfl) (fun w52 B53 ho54=>?_)
   have szw52:=ho54.size
   have B6:=B6.only_ ho54 (by intro hin; simp at hin; exact Eob51_ob8 hin)
   have B10:=B10.only_ ho54 (by intro hin; simp at hin; exact Eob51_ob12 hin)
   have T:=T.trans (ho54.below (by first|(simp; done)|(simp; omega)))
   refine RL.nil<|then_n<|wp_seq<|wp_rbd (by kernel_rfl) (by kernel_rfl)<|RQ.y rfl (Y.loadN (cs:=[.slice A1 d0.datas.length c1,.slice A2 d0.defs.length c2]) s2_2 (by kernel_rfl) (cells2 (beC (blkCell B6 (i:=0) rfl)) (beC (blkCell B6 (i:=1) rfl))))<|RQ.y rfl (Y.loadN (cs:=[.int .i64 x37.kind,.int .i64 x37.level,.int .i64 x37.value,.slice A46 x37.data.length c46,.slice A47 x37.ports.length c47]) rfl (by kernel_rfl) (cells5 (beC (blkCell B53 (i:=0) rfl)) (beC (blkCell B53 (i:=1) rfl)) (beC (blkCell B53 (i:=2) rfl)) (beC (blkCell B53 (i:=3) rfl)) (beC (blkCell B53 (i:=4) rfl))))<|RQ.y rfl (Y.fieldAddr (off:=1) s3_2 (by kernel_rfl))<|RQ.y rfl (Y.load (v:=.slice A4 d1.types.length c4) rfl (by kernel_rfl) (beC (blkCell B10 (i:=1) rfl)))<|RQ.y rfl (Y.move (v:=.int .i64 i34) rfl) ?_
   obtain ⟨x55,hx58,hm⟩:=bnd hm
   obtain ⟨k56,hk59,hl60,hx58⟩:=getI_some hx58
   obtain ⟨b62,o63,rfl,hbb62⟩:=h4.addr (by omega)
   obtain ⟨cs57,hRcs57,hc61⟩:=h4.el hx58
   have hScs57:=hRcs57
   obtain ⟨A64,n64,c64,rfl,h64,r64⟩:=hRcs57
   have e64:=h64.len; subst e64
   have q64:=len_le r64
   refine RQ.y rfl (Y.indexAddr (m:=k56) (sz:=1) rfl rfl hk59 hl60 (by kernel_rfl))<|RQ.y rfl (Y.load (v:=.slice A64 x55.length c64) rfl (by kernel_rfl) (beC (cellT T (hc61 0 _ rfl)))) ?_
   obtain ⟨y65,e66,hm⟩:=bnd hm
   refine RQ.call rfl (am3 rfl rfl rfl) (by kernel_rfl) (v:=.bool y65) (bel (K:=fun _=>True) fun w' hb'=>(c_m_impl_Signature_obeys d0 x37 x55 _ e66 _ _ _ w' (stArg (R:=signatureRd) ⟨_,_,_,_,_,_,rfl,⟨SlAt.now dataRd_ok h1 (Nat.le_refl _) (Tt T hb'),r1⟩,⟨SlAt.now typeRd_ok h2 (Nat.le_refl _) (Tt T hb'),r2⟩⟩) (stArg (R:=agentRd) ⟨_,_,_,_,_,_,rfl,⟨SlAt.now intRd_ok h46 (Nat.le_refl _) (Tt T hb'),r46⟩,⟨SlAt.now portRd_ok h47 (Nat.le_refl _) (Tt T hb'),r47⟩⟩) (slArg typeRd_ok h64 r64 (Tt T hb'))))<|RQ.y rfl (Y.not (b':=(!y65)) rfl rfl)<|RQ.nil ?_
   intro w67 hb68
   have szw67:=hb68.size
   have B6:=blkT B6 hb68
   have B10:=blkT B10 hb68
   have T:=Tt T hb68
   refine then_n ?_
   rcases bcases y65 with c69|c69
   ·replace hm:=cF c69 hm
    refine cond_t rfl (vbn rfl c69 rfl)<|wp_seq<|wp_rs rfl<|RQ.y rfl (Y.assign (v:=.int .i64 8) rfl)<|RQ.nil<|then_n<|wp_ret ?_
    obtain rfl:=sj hm
    exact (blk_r (then_r (then_r (hit_r (blk_r (then_r (ret1 rfl rfl rfl ⟨rfl,T⟩)))))))
   replace hm:=cT c69 hm
   refine cond_f rfl (vbn rfl c69 rfl)<|wp_skip ?_
   refine blk_n (then_n ?_)
   refine wp_rs rfl<|RQ.y rfl (Y.binI s65_2 rfl (binI_add (m:=i34) (by omega)))<|RQ.y rfl (Y.move (v:=.int .i64 (i34+1)) rfl)<|RQ.nil ?_
   exact (then_n ⟨g,_,Nat.lt_succ_self _,rfl,⟨(i34+1),s2_2,s3_2,s63_2,s64_2,rfl,(by omega),B6,B10,T,(by rw [← hrec2]; exact hm)⟩⟩)
  rintro g f w72 ⟨i71,s2_1,s3_1,s21_1,s22_1,s23_1,nn23_1,B6,B10,G26,T,hm⟩
  rcases g with _|g
  ·simp only [m_impl_checkTyping_L1] at hm; cases hm
  obtain ⟨rec1,hrec1,hm⟩ :∃z,z=m_impl_checkTyping_L1 d0 d1 y23 K1 g∧m_impl_checkTyping_B1 d0 d1 y23 z K1 i71=some r:=⟨_,rfl,hm⟩
  unfold m_impl_checkTyping_B1 at hm
  refine wp_seq<|wp_rs rfl<|RQ.y rfl (Y.binI (v:=.bool (decide (i71 < (y23.length:Int)))) s23_1 s22_1 rfl)<|RQ.nil<|then_n<|wp_seq ?_
  rcases bcases (decide (i71 < (y23.length:Int))) with c73|c73
  ·replace hm:=cF c73 hm
   have pc73:=of_decide_eq_false c73
   refine cond_f rfl (vb rfl c73)<|wp_exit ?_
   exact (then_x (then_x (hit_x ⟨_,rfl,⟨s2_1,s3_1,B6,B10,T,(by rw [hK1] at hm; exact hm)⟩⟩)))
  replace hm:=cT c73 hm
  have pc73:=of_decide_eq_true c73
  refine cond_t rfl (vb rfl c73)<|wp_skip<|then_n<|wp_seq<|wp_block<|wp_seq<|wp_rl rfl ?_
  obtain ⟨x74,hx76,hm⟩:=bnd hm
  obtain ⟨k75,hk77,hl78,hx76⟩:=getI_some hx76
  obtain ⟨b79,rfl⟩:=OwF.addr0 G26 (by omega)
  refine RL.y rfl (Y.indexAddr (m:=k75) (sz:=2) s21_1 s23_1 hk77 hl78 (by kernel_rfl))<|RL.y rfl (Y.loadN (cs:=[.int .i64 x74.agent,.int .i64 x74.slot]) rfl (by kernel_rfl) (cells2 (eqC (OwF.cell fPort G26 hx76 (j:=0) rfl)) (eqC (OwF.cell fPort G26 hx76 (j:=1) rfl)))) ?_
  refine RL.alloc (z:=.agg #[.int .i64 0,.int .i64 0]) rfl (by kernel_rfl) (fun w80 B81 hb82 szw80=>?_)
  replace B81:Blk w80 w72.heap.size 161 #[.int .i64 0,.int .i64 0]:=B81
  have GB81:w.heap.size≤w72.heap.size:=T.size
  have Eob83_ob8:=Nat.ne_of_lt B6.lt
  have Eob83_ob12:=Nat.ne_of_lt B10.lt
  have No27_ob83:=OwF.far G26 (Nat.le_refl _)
  have B6:=blkT B6 hb82
  have B10:=blkT B10 hb82
  have G26:=OwF.below G26 hb82
  have T:=Tt T hb82
  refine RL.store (v:=.agg #[.int .i64 x74.agent,.int .i64 x74.slot]) (cs':=#[.int .i64 x74.agent,.int .i64 x74.slot]) rfl rfl rfl B81 (by kernel_rfl) (by rfl) (by rfl) (by rfl) (fun w84 B85 ho86=>?_)
  have szw84:=ho86.size
  have B6:=B6.only_ ho86 (by intro hin; simp at hin; exact Eob83_ob8 hin)
  have B10:=B10.only_ ho86 (by intro hin; simp at hin; exact Eob83_ob12 hin)
  have G26:=OwF.only G26 ho86 No27_ob83
  have T:=T.trans (ho86.below (by first|(simp; done)|(simp; omega)))
  refine RL.nil<|then_n<|wp_seq<|wp_rl rfl<|RL.y rfl (Y.fieldAddr (off:=0) s3_1 (by kernel_rfl))<|RL.y rfl (Y.loadN (cs:=[.int .i64 x74.agent,.int .i64 x74.slot]) rfl (by kernel_rfl) (cells2 (eqC (blkCell B85 (i:=0) rfl)) (eqC (blkCell B85 (i:=1) rfl)))) ?_
  obtain ⟨y87,e88,hm⟩:=bnd hm
  refine RL.call rfl (am2 rfl rfl) (by kernel_rfl) ((c_m_impl_Net_peer (⟨d1.net.agents⟩:DNet) x74 _ e88 _ _ (ptBoxS (R:=netRd) (pre:=[]) (cs:=[.slice A3 d1.net.agents.length c3]) (post:=[.slice A4 d1.types.length c4]) B10 ⟨_,_,_,rfl,⟨SlAt.now agentRd_ok h3 (Nat.le_refl _) T,r3⟩⟩ rfl)).mono ?_)
  rintro _ w89 ⟨rfl,hb90⟩
  refine ⟨_,rfl,?_⟩
  have szw89:=hb90.size
  have B6:=blkT B6 hb90
  have B10:=blkT B10 hb90
  have B85:=blkT B85 hb90
  have G26:=OwF.below G26 hb90
  have T:=Tt T hb90
  refine RL.alloc (z:=.agg #[.int .i64 0,.int .i64 0]) rfl (by kernel_rfl) (fun w91 B92 hb93 szw91=>?_)
  replace B92:Blk w91 w89.heap.size 161 #[.int .i64 0,.int .i64 0]:=B92
  have GB92:w.heap.size≤w89.heap.size:=T.size
  have Eob94_ob8:=Nat.ne_of_lt B6.lt
  have Eob94_ob12:=Nat.ne_of_lt B10.lt
  have Eob94_ob83:=Nat.ne_of_lt B85.lt
  have No27_ob94:=OwF.far G26 (Nat.le_refl _)
  have B6:=blkT B6 hb93
  have B10:=blkT B10 hb93
  have B85:=blkT B85 hb93
  have G26:=OwF.below G26 hb93
  have T:=Tt T hb93
  refine RL.store (v:=.agg #[.int .i64 y87.agent,.int .i64 y87.slot]) (cs':=#[.int .i64 y87.agent,.int .i64 y87.slot]) rfl rfl rfl B92 (by kernel_rfl) (by rfl) (by rfl) (by rfl) (fun w95 B96 ho97=>?_)
  have szw95:=ho97.size
  have B6:=B6.only_ ho97 (by intro hin; simp at hin; exact Eob94_ob8 hin)
  have B10:=B10.only_ ho97 (by intro hin; simp at hin; exact Eob94_ob12 hin)
  have B85:=B85.only_ ho97 (by intro hin; simp at hin; exact Eob94_ob83 hin)
  have G26:=OwF.only G26 ho97 No27_ob94
  have T:=T.trans (ho97.below (by first|(simp; done)|(simp; omega)))
  refine RL.nil<|then_n<|wp_seq ?_
  refine wp_rg (fun w'=>Below w.heap.size w w'∧Blk w' w5.heap.size 45 #[.slice A3 d1.net.agents.length c3,.slice A4 d1.types.length c4]∧Blk w' w72.heap.size 161 #[.int .i64 x74.agent,.int .i64 x74.slot]) [(0,true),(1,true),(2,true),(3,true),(4,true),(5,true),(6,true),(7,true),(8,true),(9,true),(10,false),(11,false)] (by kernel_rfl) (by kernel_rfl) (fun w98 hb99 szw98=>?_)
  have B6:=blkT B6 hb99
  have B10:=blkT B10 hb99
  have B85:=blkT B85 hb99
  have B96:=blkT B96 hb99
  have G26:=OwF.below G26 hb99
  have T:=Tt T hb99
  refine ⟨⟨T,B10,B85⟩,?_⟩
  refine RG.y rfl rfl (Y.fieldAddr (off:=1) s3_1 (by kernel_rfl))<|RG.y rfl rfl (Y.load (v:=.slice A4 d1.types.length c4) rfl (by kernel_rfl) (fun w' hS=>(blkCell hS.2.1 (i:=1) rfl)))<|RG.y rfl rfl (Y.fieldAddr (off:=0) rfl (by kernel_rfl))<|RG.y rfl rfl (Y.load (v:=.int .i64 x74.agent) rfl (by kernel_rfl) (fun w' hS=>(blkCell hS.2.2 (i:=0) rfl))) ?_
  obtain ⟨x100,hx103,hm⟩:=bnd hm
  obtain ⟨k101,hk104,hl105,hx103⟩:=getI_some hx103
  obtain ⟨b107,o108,rfl,hbb107⟩:=h4.addr (by omega)
  obtain ⟨cs102,hRcs102,hc106⟩:=h4.el hx103
  have hScs102:=hRcs102
  obtain ⟨A109,n109,c109,rfl,h109,r109⟩:=hRcs102
  have e109:=h109.len; subst e109
  have q109:=len_le r109
  refine RG.y rfl rfl (Y.indexAddr (m:=k101) (sz:=1) rfl rfl hk104 hl105 (by kernel_rfl))<|RG.y rfl rfl (Y.load (v:=.slice A109 x100.length c109) rfl (by kernel_rfl) (fun w' hS=>(cellT hS.1 (hc106 0 _ rfl))))<|RG.y rfl rfl (Y.fieldAddr (off:=1) rfl (by kernel_rfl))<|RG.y rfl rfl (Y.load (v:=.int .i64 x74.slot) rfl (by kernel_rfl) (fun w' hS=>(blkCell hS.2.2 (i:=1) rfl))) ?_
  obtain ⟨x110,hx113,hm⟩:=bnd hm
  obtain ⟨k111,hk114,hl115,hx113⟩:=getI_some hx113
  obtain ⟨b117,o118,rfl,hbb117⟩:=h109.addr (by omega)
  obtain ⟨cs112,hRcs112,hc116⟩:=h109.el hx113
  have hScs112:=hRcs112
  obtain ⟨A119,n119,c119,rfl,⟨h119,r119⟩⟩:=(typeRd_out hRcs112)
  have e119:=h119.len; subst e119
  have q119:=len_le r119
  refine RG.y rfl rfl (Y.indexAddr (m:=k111) (sz:=3) rfl rfl hk114 hl115 (by kernel_rfl))<|RG.y rfl rfl (Y.loadN (cs:=[.int .i64 x110.kind,.string x110.name,.slice A119 x110.kids.length c119]) rfl (by kernel_rfl) (cells3 (fun w' hS=>(cellT hS.1 (hc116 0 _ rfl))) (fun w' hS=>(cellT hS.1 (hc116 1 _ rfl))) (fun w' hS=>(cellT hS.1 (hc116 2 _ rfl)))))<|RG.act rfl ?_
  refine RL.alloc (z:=.agg #[.int .i64 0,.string ByteArray.empty,.slice none 0 0]) rfl (by kernel_rfl) (fun w120 B121 hb122 szw120=>?_)
  replace B121:Blk w120 w98.heap.size 114 #[.int .i64 0,.string ByteArray.empty,.slice none 0 0]:=B121
  have GB121:w.heap.size≤w98.heap.size:=T.size
  have Eob123_ob8:=Nat.ne_of_lt B6.lt
  have Eob123_ob12:=Nat.ne_of_lt B10.lt
  have Eob123_ob83:=Nat.ne_of_lt B85.lt
  have Eob123_ob94:=Nat.ne_of_lt B96.lt
  have No27_ob123:=OwF.far G26 (Nat.le_refl _)
  have B6:=blkT B6 hb122
  have B10:=blkT B10 hb122
  have B85:=blkT B85 hb122
  have B96:=blkT B96 hb122
  have G26:=OwF.below G26 hb122
  have T:=Tt T hb122
  refine RL.nil ⟨⟨T,B10,B85⟩,?_⟩
  refine RG.act rfl ?_
  refine RL.store (v:=.agg #[.int .i64 x110.kind,.string x110.name,.slice A119 x110.kids.length c119]) (cs':=#[.int .i64 x110.kind,.string x110.name,.slice A119 x110.kids.length c119]) rfl rfl rfl B121 (by kernel_rfl) (by rfl) (by rfl) (by rfl) (fun w124 B125 ho126=>?_)
  have szw124:=ho126.size
  have B6:=B6.only_ ho126 (by intro hin; simp at hin; exact Eob123_ob8 hin)
  have B10:=B10.only_ ho126 (by intro hin; simp at hin; exact Eob123_ob12 hin)
  have B85:=B85.only_ ho126 (by intro hin; simp at hin; exact Eob123_ob83 hin)
  have B96:=B96.only_ ho126 (by intro hin; simp at hin; exact Eob123_ob94 hin)
  have G26:=OwF.only G26 ho126 No27_ob123
  have T:=T.trans (ho126.below (by first|(simp; done)|(simp; omega)))
  refine RL.nil ⟨⟨T,B10,B85⟩,?_⟩
  refine RG.nil<|then_n<|wp_seq<|wp_rbd (by kernel_rfl) (by kernel_rfl)<|RQ.y rfl (Y.fieldAddr (off:=0) s2_1 (by kernel_rfl))<|RQ.y rfl (Y.load (v:=.slice A1 d0.datas.length c1) rfl (by kernel_rfl) (beC (blkCell B6 (i:=0) rfl)))<|RQ.y rfl (Y.loadN (cs:=[.int .i64 x110.kind,.string x110.name,.slice A119 x110.kids.length c119]) rfl (by kernel_rfl) (cells3 (beC (blkCell B125 (i:=0) rfl)) (beC (blkCell B125 (i:=1) rfl)) (beC (blkCell B125 (i:=2) rfl)))) ?_
  obtain ⟨y127,e128,hm⟩:=bnd hm
  refine RQ.call rfl (am2 rfl rfl) (by kernel_rfl) (v:=.bool y127) (bel (K:=fun _=>True) fun w' hb'=>(c_m_impl_isSimple (SizeOf.sizeOf x110) d0.datas x110 _ e128 _ _ w' (slArg dataRd_ok h1 r1 (Tt T hb')) (stArg (R:=typeRd) (typeRd_in ⟨_,_,_,rfl,⟨SlAt.now typeRd_ok h119 (Nat.le_refl _) (Tt T hb'),r119⟩⟩))))<|RQ.y rfl (Y.not (b':=(!y127)) rfl rfl)<|RQ.y rfl (Y.move (v:=.bool (!y127)) rfl) ?_
  rcases bcases y127 with c129|c129
  ·replace hm:=cF c129 hm
   iterate 13 refine RQ.skip (wantN (dj:=45) rfl (vbn rfl c129 rfl) rfl) ?_
   refine RQ.y rfl (Y.pick (b:=true) (v:=.bool true) (vbn rfl c129 rfl) rfl)<|RQ.nil ?_
   intro w130 hb131
   have szw130:=hb131.size
   have B6:=blkT B6 hb131
   have B10:=blkT B10 hb131
   have G26:=OwF.below G26 hb131
   have T:=Tt T hb131
   refine then_n<|cond_t rfl rfl<|wp_seq<|wp_rs rfl<|RQ.y rfl (Y.assign (v:=.int .i64 8) rfl)<|RQ.nil<|then_n<|wp_ret ?_
   obtain rfl:=sj hm
   exact (blk_r (then_r (then_r (hit_r (blk_r (then_r (ret1 rfl rfl rfl ⟨rfl,T⟩)))))))
  replace hm:=cT c129 hm
  refine RQ.y (wantT (dj:=45) rfl (vbn rfl c129 rfl)) (Y.loadN (cs:=[.int .i64 x110.kind,.string x110.name,.slice A119 x110.kids.length c119]) rfl (by kernel_rfl) (cells3 (beC (blkCell B125 (i:=0) rfl)) (beC (blkCell B125 (i:=1) rfl)) (beC (blkCell B125 (i:=2) rfl))))<|RQ.y (wantT (dj:=45) rfl (vbn rfl c129 rfl)) (Y.fieldAddr (off:=1) s3_1 (by kernel_rfl))<|RQ.y (wantT (dj:=45) rfl (vbn rfl c129 rfl)) (Y.load (v:=.slice (some ⟨b107,o108,none⟩) d1.types.length c4) rfl (by kernel_rfl) (beC (blkCell B10 (i:=1) rfl)))<|RQ.y (wantT (dj:=45) rfl (vbn rfl c129 rfl)) (Y.fieldAddr (off:=0) rfl (by kernel_rfl))<|RQ.y (wantT (dj:=45) rfl (vbn rfl c129 rfl)) (Y.load (v:=.int .i64 y87.agent) rfl (by kernel_rfl) (beC (blkCell B96 (i:=0) rfl))) ?_
  obtain ⟨x132,hx135,hm⟩:=bnd hm
  obtain ⟨k133,hk136,hl137,hx135⟩:=getI_some hx135
  obtain ⟨cs134,hRcs134,hc138⟩:=h4.el hx135
  have hScs134:=hRcs134
  obtain ⟨A139,n139,c139,rfl,h139,r139⟩:=hRcs134
  have e139:=h139.len; subst e139
  have q139:=len_le r139
  refine RQ.y (wantT (dj:=45) rfl (vbn rfl c129 rfl)) (Y.indexAddr (m:=k133) (sz:=1) rfl rfl hk136 hl137 (by kernel_rfl))<|RQ.y (wantT (dj:=45) rfl (vbn rfl c129 rfl)) (Y.load (v:=.slice A139 x132.length c139) rfl (by kernel_rfl) (beC (cellT T (hc138 0 _ rfl))))<|RQ.y (wantT (dj:=45) rfl (vbn rfl c129 rfl)) (Y.fieldAddr (off:=1) rfl (by kernel_rfl))<|RQ.y (wantT (dj:=45) rfl (vbn rfl c129 rfl)) (Y.load (v:=.int .i64 y87.slot) rfl (by kernel_rfl) (beC (blkCell B96 (i:=1) rfl))) ?_
  obtain ⟨x140,hx143,hm⟩:=bnd hm
  obtain ⟨k141,hk144,hl145,hx143⟩:=getI_some hx143
  obtain ⟨b147,o148,rfl,hbb147⟩:=h139.addr (by omega)
  obtain ⟨cs142,hRcs142,hc146⟩:=h139.el hx143
  have hScs142:=hRcs142
  obtain ⟨A149,n149,c149,rfl,⟨h149,r149⟩⟩:=(typeRd_out hRcs142)
  have e149:=h149.len; subst e149
  have q149:=len_le r149
  refine RQ.y (wantT (dj:=45) rfl (vbn rfl c129 rfl)) (Y.indexAddr (m:=k141) (sz:=3) rfl rfl hk144 hl145 (by kernel_rfl))<|RQ.y (wantT (dj:=45) rfl (vbn rfl c129 rfl)) (Y.loadN (cs:=[.int .i64 x140.kind,.string x140.name,.slice A149 x140.kids.length c149]) rfl (by kernel_rfl) (cells3 (beC (cellT T (hc146 0 _ rfl))) (beC (cellT T (hc146 1 _ rfl))) (beC (cellT T (hc146 2 _ rfl))))) ?_
  obtain ⟨y150,e151,hm⟩:=bnd hm
  refine RQ.call (wantT (dj:=45) rfl (vbn rfl c129 rfl)) (am2 rfl rfl) (by kernel_rfl) (v:=.bool y150) (bel (K:=fun _=>True) fun w' hb'=>(c_m_impl_SameType (SizeOf.sizeOf x110) x110 x140 _ e151 _ _ w' (stArg (R:=typeRd) (typeRd_in ⟨_,_,_,rfl,⟨SlAt.now typeRd_ok h119 (Nat.le_refl _) (Tt T hb'),r119⟩⟩)) (stArg (R:=typeRd) (typeRd_in ⟨_,_,_,rfl,⟨SlAt.now typeRd_ok h149 (Nat.le_refl _) (Tt T hb'),r149⟩⟩))))<|RQ.y (wantT (dj:=45) rfl (vbn rfl c129 rfl)) (Y.not (b':=(!y150)) rfl rfl)<|RQ.y rfl (Y.pick (b:=false) (v:=.bool (!y150)) (vbn rfl c129 rfl) rfl)<|RQ.nil ?_
  intro w152 hb153
  have szw152:=hb153.size
  have B6:=blkT B6 hb153
  have B10:=blkT B10 hb153
  have G26:=OwF.below G26 hb153
  have T:=Tt T hb153
  refine then_n ?_
  rcases bcases y150 with c154|c154
  ·replace hm:=cF c154 hm
   refine cond_t rfl (vbn rfl c154 rfl)<|wp_seq<|wp_rs rfl<|RQ.y rfl (Y.assign (v:=.int .i64 8) rfl)<|RQ.nil<|then_n<|wp_ret ?_
   obtain rfl:=sj hm
   exact (blk_r (then_r (then_r (hit_r (blk_r (then_r (ret1 rfl rfl rfl ⟨rfl,T⟩)))))))
  replace hm:=cT c154 hm
  refine cond_f rfl (vbn rfl c154 rfl)<|wp_skip ?_
  refine blk_n (then_n ?_)
  refine wp_rs rfl<|RQ.y rfl (Y.binI s23_1 rfl (binI_add (m:=i71) (by omega)))<|RQ.y rfl (Y.move (v:=.int .i64 (i71+1)) rfl)<|RQ.nil ?_
  exact (then_n ⟨g,_,Nat.lt_succ_self _,rfl,⟨(i71+1),s2_1,s3_1,s21_1,s22_1,rfl,(by omega),B6,B10,G26,T,(by rw [← hrec1]; exact hm)⟩⟩)
noncomputable def m_impl_CheckTypedBook_A1:Option Int:=
  some 0
noncomputable def m_impl_CheckTypedBook_B1 (d0:DSignature) (d1:List DTypedNet) (rec1:Int→Option Int) (K1:Option Int) (i16:Int):Option Int:=
  (bif (decide (i16 < (d1.length:Int))) then ((getI d1 i16).bind fun x19=>((m_impl_checkTyping d0 x19).bind fun y37=>(bif (y37 != 0) then some y37 else ((getI x19.types 0).bind fun x42=>((getI x42 0).bind fun x52=>((getI d0.defs i16).bind fun x62=>((m_impl_SameType (SizeOf.sizeOf x52) x52 x62).bind fun y72=>(bif y72 then (rec1 (i16+1)) else some 8)))))))) else (K1))
noncomputable def m_impl_CheckTypedBook_L1 (d0:DSignature) (d1:List DTypedNet) (K1:Option Int):Nat→Int→Option Int
  |0,_=>none
  |g+1,i16=>m_impl_CheckTypedBook_B1 d0 d1 (m_impl_CheckTypedBook_L1 d0 d1 K1 g) K1 i16
noncomputable def m_impl_CheckTypedBook (d0:DSignature) (d1:List DTypedNet):Option Int:=
  ((m_impl_ValidSignature d0).bind fun y7=>(bif y7 then (bif ((d1.length:Int) != (d0.defs.length:Int)) then some 1 else (m_impl_CheckTypedBook_L1 d0 d1 m_impl_CheckTypedBook_A1 (d1.length+1) 0)) else some 1))
set_option maxHeartbeats 2000000 in
theorem c_m_impl_CheckTypedBook (d0:DSignature) (d1:List DTypedNet) (r:Int) (hm:m_impl_CheckTypedBook d0 d1=some r) (v0:Value) (v1:Value) (w:World) (hv0:St signatureRd w v0 d0) (hv1:Sl typedNetRd 2 w v1 d1) :
    Calls Tryz.prog 18 #[v0,v1] w fun e w'=>e=.returned (.int .i64 r)∧Below w.heap.size w w':=by
  obtain ⟨csa0,rfl,⟨A1,n1,c1,A2,n2,c2,rfl,⟨h1,r1⟩,⟨h2,r2⟩⟩⟩:=hv0
  have e1:=h1.len; subst e1
  have q1:=len_le r1
  have e2:=h2.len; subst e2
  have q2:=len_le r2
  obtain ⟨Aa1,na1,ca1,rfl,ha1,ra1⟩:=hv1
  have ea1:=ha1.len; subst ea1
  have qa1:=len_le ra1
  have T:=Below.refl w.heap.size w
  unfold m_impl_CheckTypedBook at hm
  refine enter 46 Tryz.func18 rfl rfl rfl ?_
  intro f hf
  have s0:f 0=.agg #[.slice A1 d0.datas.length c1,.slice A2 d0.defs.length c2]:=hf 0 _ rfl
  have s1:f 1=.slice Aa1 d1.length ca1:=hf 1 _ rfl
  refine wp_seq<|wp_rl rfl ?_
  refine RL.box rfl s0 (fun w3 B4 hb5 szw3=>?_)
  replace B4:Blk w3 w.heap.size 38 #[.slice A1 d0.datas.length c1,.slice A2 d0.defs.length c2]:=B4
  have GB4:w.heap.size≤w.heap.size:=T.size
  have T:=Tt T hb5
  refine RL.y rfl (Y.assign (v:=.int .i64 0) rfl)<|RL.nil<|then_n<|wp_seq<|wp_seq<|wp_rb rfl<|RQ.y rfl (Y.loadN (cs:=[.slice A1 d0.datas.length c1,.slice A2 d0.defs.length c2]) rfl (by kernel_rfl) (cells2 (beC (blkCell B4 (i:=0) rfl)) (beC (blkCell B4 (i:=1) rfl)))) ?_
  obtain ⟨y7,e8,hm⟩:=bnd hm
  refine RQ.call rfl (am1 rfl) (by kernel_rfl) (v:=.bool y7) (bel (K:=fun _=>True) fun w' hb'=>(c_m_impl_ValidSignature d0 _ e8 _ w' (stArg (R:=signatureRd) ⟨_,_,_,_,_,_,rfl,⟨SlAt.now dataRd_ok h1 (Nat.le_refl _) (Tt T hb'),r1⟩,⟨SlAt.now typeRd_ok h2 (Nat.le_refl _) (Tt T hb'),r2⟩⟩)))<|RQ.y rfl (Y.not (b':=(!y7)) rfl rfl)<|RQ.y rfl (Y.move (v:=.bool (!y7)) rfl) ?_
  rcases bcases y7 with c9|c9
  ·replace hm:=cF c9 hm
   iterate 6 refine RQ.skip (wantN (dj:=11) rfl (vbn rfl c9 rfl) rfl) ?_
   refine RQ.y rfl (Y.pick (b:=true) (v:=.bool true) (vbn rfl c9 rfl) rfl)<|RQ.nil ?_
   intro w10 hb11
   have szw10:=hb11.size
   have B4:=blkT B4 hb11
   have T:=Tt T hb11
   refine then_n<|cond_t rfl rfl<|wp_seq<|wp_rs rfl<|RQ.y rfl (Y.assign (v:=.int .i64 1) rfl)<|RQ.nil<|then_n<|wp_ret ?_
   obtain rfl:=sj hm
   exact (then_r (ret1 rfl rfl rfl ⟨rfl,T⟩))
  replace hm:=cT c9 hm
  refine RQ.y (wantT (dj:=11) rfl (vbn rfl c9 rfl)) (Y.move (v:=.slice Aa1 d1.length ca1) s1)<|RQ.y (wantT (dj:=11) rfl (vbn rfl c9 rfl)) (Y.len (by kernel_rfl) rfl)<|RQ.y (wantT (dj:=11) rfl (vbn rfl c9 rfl)) (Y.fieldAddr (off:=1) rfl (by kernel_rfl))<|RQ.y (wantT (dj:=11) rfl (vbn rfl c9 rfl)) (Y.load (v:=.slice A2 d0.defs.length c2) rfl (by kernel_rfl) (beC (blkCell B4 (i:=1) rfl)))<|RQ.y (wantT (dj:=11) rfl (vbn rfl c9 rfl)) (Y.len (by kernel_rfl) rfl)<|RQ.y (wantT (dj:=11) rfl (vbn rfl c9 rfl)) (Y.binI (v:=.bool ((d1.length:Int) != (d0.defs.length:Int))) rfl rfl rfl)<|RQ.y rfl (Y.pick (b:=false) (v:=.bool ((d1.length:Int) != (d0.defs.length:Int))) (vbn rfl c9 rfl) rfl)<|RQ.nil ?_
  intro w12 hb13
  have szw12:=hb13.size
  have B4:=blkT B4 hb13
  have T:=Tt T hb13
  refine then_n ?_
  rcases bcases ((d1.length:Int) != (d0.defs.length:Int)) with c14|c14
  ·replace hm:=cF c14 hm
   refine cond_f rfl (vb rfl c14)<|wp_skip<|then_n<|wp_seq<|wp_seq<|wp_rs rfl<|RQ.y rfl (Y.move (v:=.slice Aa1 d1.length ca1) s1)<|RQ.y rfl (Y.len (by kernel_rfl) rfl)<|RQ.y rfl (Y.move (v:=.int .i64 0) rfl)<|RQ.nil<|then_n<|wp_block ?_
   obtain ⟨K1,hK1,hm⟩ :∃K,K=m_impl_CheckTypedBook_A1∧m_impl_CheckTypedBook_L1 d0 d1 K (d1.length+1) 0=some r:=⟨_,rfl,hm⟩
   refine wp_loopX (fun g f w'=>∃(i16:Int),f 2=.pointer (some ⟨w.heap.size,0,none⟩)∧f 19=.slice Aa1 d1.length ca1∧f 20=.int .i64 (d1.length:Int)∧f 21=.int .i64 i16∧0≤i16∧Blk w' w.heap.size 38 #[.slice A1 d0.datas.length c1,.slice A2 d0.defs.length c2]∧Below w.heap.size w w'∧m_impl_CheckTypedBook_L1 d0 d1 K1 g i16=some r) 0 (fun f w'=>Blk w' w.heap.size 38 #[.slice A1 d0.datas.length c1,.slice A2 d0.defs.length c2]∧Below w.heap.size w w'∧m_impl_CheckTypedBook_A1  = some r) (d1.length+1) ⟨0,rfl,rfl,rfl,rfl,(by omega),B4,T,hm⟩ ?_ ?_
   ·rintro f w15 ⟨B4,T,hm⟩
    unfold m_impl_CheckTypedBook_A1 at hm
    refine blk_hit (then_n ?_)
    refine wp_seq<|wp_rs rfl<|RQ.y rfl (Y.assign (v:=.int .i64 0) rfl)<|RQ.nil<|then_n<|wp_ret ?_
    obtain rfl:=sj hm
    exact (ret1 rfl rfl rfl ⟨rfl,T⟩)
   rintro g f w17 ⟨i16,s2_1,s19_1,s20_1,s21_1,nn21_1,B4,T,hm⟩
   rcases g with _|g
   ·simp only [m_impl_CheckTypedBook_L1] at hm; cases hm
   obtain ⟨rec1,hrec1,hm⟩ :∃z,z=m_impl_CheckTypedBook_L1 d0 d1 K1 g∧m_impl_CheckTypedBook_B1 d0 d1 z K1 i16=some r:=⟨_,rfl,hm⟩
   unfold m_impl_CheckTypedBook_B1 at hm
   refine wp_seq<|wp_rs rfl<|RQ.y rfl (Y.binI (v:=.bool (decide (i16 < (d1.length:Int)))) s21_1 s20_1 rfl)<|RQ.nil<|then_n<|wp_seq ?_
   rcases bcases (decide (i16 < (d1.length:Int))) with c18|c18
   ·replace hm:=cF c18 hm
    have pc18:=of_decide_eq_false c18
    refine cond_f rfl (vb rfl c18)<|wp_exit ?_
    exact (then_x (then_x (hit_x ⟨_,rfl,⟨B4,T,(by rw [hK1] at hm; exact hm)⟩⟩)))
   replace hm:=cT c18 hm
   have pc18:=of_decide_eq_true c18
   refine cond_t rfl (vb rfl c18)<|wp_skip<|then_n<|wp_seq<|wp_block<|wp_seq<|wp_rl rfl<|RL.y rfl (Y.move (v:=.int .i64 i16) s21_1) ?_
   obtain ⟨x19,hx22,hm⟩:=bnd hm
   obtain ⟨k20,hk23,hl24,hx22⟩:=getI_some hx22
   obtain ⟨b26,o27,rfl,hbb26⟩:=ha1.addr (by omega)
   obtain ⟨cs21,hRcs21,hc25⟩:=ha1.el hx22
   have hScs21:=hRcs21
   obtain ⟨A28,n28,c28,A29,n29,c29,rfl,⟨h28,r28⟩,⟨h29,r29⟩⟩:=hRcs21
   have e28:=h28.len; subst e28
   have q28:=len_le r28
   have e29:=h29.len; subst e29
   have q29:=len_le r29
   refine RL.y rfl (Y.indexAddr (m:=k20) (sz:=2) s19_1 s21_1 hk23 hl24 (by kernel_rfl))<|RL.y rfl (Y.loadN (cs:=[.slice A28 x19.net.agents.length c28,.slice A29 x19.types.length c29]) rfl (by kernel_rfl) (cells2 (eqC (cellT T (hc25 0 _ rfl))) (eqC (cellT T (hc25 1 _ rfl))))) ?_
   refine RL.alloc (z:=.agg #[.slice none 0 0,.slice none 0 0]) rfl (by kernel_rfl) (fun w30 B31 hb32 szw30=>?_)
   replace B31:Blk w30 w17.heap.size 45 #[.slice none 0 0,.slice none 0 0]:=B31
   have GB31:w.heap.size≤w17.heap.size:=T.size
   have Eob33_ob6:=Nat.ne_of_lt B4.lt
   have B4:=blkT B4 hb32
   have T:=Tt T hb32
   refine RL.y rfl (Y.assign (v:=.int .i64 i16) rfl) ?_
   refine RL.store (v:=.agg #[.slice A28 x19.net.agents.length c28,.slice A29 x19.types.length c29]) (cs':=#[.slice A28 x19.net.agents.length c28,.slice A29 x19.types.length c29]) rfl rfl rfl B31 (by kernel_rfl) (by rfl) (by rfl) (by rfl) (fun w34 B35 ho36=>?_)
   have szw34:=ho36.size
   have B4:=B4.only_ ho36 (by intro hin; simp at hin; exact Eob33_ob6 hin)
   have T:=T.trans (ho36.below (by first|(simp; done)|(simp; omega)))
   refine RL.nil<|then_n<|wp_seq<|wp_seq<|wp_rb rfl<|RQ.y rfl (Y.loadN (cs:=[.slice A1 d0.datas.length c1,.slice A2 d0.defs.length c2]) s2_1 (by kernel_rfl) (cells2 (beC (blkCell B4 (i:=0) rfl)) (beC (blkCell B4 (i:=1) rfl))))<|RQ.y rfl (Y.loadN (cs:=[.slice A28 x19.net.agents.length c28,.slice A29 x19.types.length c29]) rfl (by kernel_rfl) (cells2 (beC (blkCell B35 (i:=0) rfl)) (beC (blkCell B35 (i:=1) rfl)))) ?_
   obtain ⟨y37,e38,hm⟩:=bnd hm
   refine RQ.call rfl (am2 rfl rfl) (by kernel_rfl) (v:=.int .i64 y37) (bel (K:=fun _=>True) fun w' hb'=>(c_m_impl_checkTyping d0 x19 _ e38 _ _ w' (stArg (R:=signatureRd) ⟨_,_,_,_,_,_,rfl,⟨SlAt.now dataRd_ok h1 (Nat.le_refl _) (Tt T hb'),r1⟩,⟨SlAt.now typeRd_ok h2 (Nat.le_refl _) (Tt T hb'),r2⟩⟩) (stArg (R:=typedNetRd) ⟨_,_,_,_,_,_,rfl,⟨SlAt.now agentRd_ok h28 (Nat.le_refl _) (Tt T hb'),r28⟩,⟨SlAt.now (slRd_ok typeRd_ok) h29 (Nat.le_refl _) (Tt T hb'),r29⟩⟩)))<|RQ.y rfl (Y.assign (v:=.int .i64 y37) rfl)<|RQ.nil ?_
   intro w39 hb40
   have szw39:=hb40.size
   have B4:=blkT B4 hb40
   have B35:=blkT B35 hb40
   have T:=Tt T hb40
   refine then_n<|wp_seq<|wp_rs rfl<|RQ.y rfl (Y.move (v:=.int .i64 y37) rfl)<|RQ.y rfl (Y.binI (v:=.bool (y37 != 0)) rfl rfl rfl)<|RQ.nil<|then_n ?_
   rcases bcases (y37 != 0) with c41|c41
   ·replace hm:=cF c41 hm
    refine cond_f rfl (vb rfl c41)<|wp_skip<|then_n<|wp_seq<|wp_rbd (by kernel_rfl) (by kernel_rfl)<|RQ.y rfl (Y.fieldAddr (off:=1) rfl (by kernel_rfl))<|RQ.y rfl (Y.load (v:=.slice A29 x19.types.length c29) rfl (by kernel_rfl) (beC (blkCell B35 (i:=1) rfl))) ?_
    obtain ⟨x42,hx45,hm⟩:=bnd hm
    obtain ⟨k43,hk46,hl47,hx45⟩:=getI_some hx45
    obtain ⟨b49,o50,rfl,hbb49⟩:=h29.addr (by omega)
    obtain ⟨cs44,hRcs44,hc48⟩:=h29.el hx45
    have hScs44:=hRcs44
    obtain ⟨A51,n51,c51,rfl,h51,r51⟩:=hRcs44
    have e51:=h51.len; subst e51
    have q51:=len_le r51
    refine RQ.y rfl (Y.indexAddr (m:=k43) (sz:=1) rfl rfl hk46 hl47 (by kernel_rfl))<|RQ.y rfl (Y.load (v:=.slice A51 x42.length c51) rfl (by kernel_rfl) (beC (cellT T (hc48 0 _ rfl)))) ?_
    obtain ⟨x52,hx55,hm⟩:=bnd hm
    obtain ⟨k53,hk56,hl57,hx55⟩:=getI_some hx55
    obtain ⟨b59,o60,rfl,hbb59⟩:=h51.addr (by omega)
    obtain ⟨cs54,hRcs54,hc58⟩:=h51.el hx55
    have hScs54:=hRcs54
    obtain ⟨A61,n61,c61,rfl,⟨h61,r61⟩⟩:=(typeRd_out hRcs54)
    have e61:=h61.len; subst e61
    have q61:=len_le r61
    refine RQ.y rfl (Y.indexAddr (m:=k53) (sz:=3) rfl rfl hk56 hl57 (by kernel_rfl))<|RQ.y rfl (Y.loadN (cs:=[.int .i64 x52.kind,.string x52.name,.slice A61 x52.kids.length c61]) rfl (by kernel_rfl) (cells3 (beC (cellT T (hc58 0 _ rfl))) (beC (cellT T (hc58 1 _ rfl))) (beC (cellT T (hc58 2 _ rfl)))))<|RQ.y rfl (Y.fieldAddr (off:=1) s2_1 (by kernel_rfl))<|RQ.y rfl (Y.load (v:=.slice A2 d0.defs.length c2) rfl (by kernel_rfl) (beC (blkCell B4 (i:=1) rfl)))<|RQ.y rfl (Y.move (v:=.int .i64 i16) rfl) ?_
    obtain ⟨x62,hx65,hm⟩:=bnd hm
    obtain ⟨k63,hk66,hl67,hx65⟩:=getI_some hx65
    obtain ⟨b69,o70,rfl,hbb69⟩:=h2.addr (by omega)
    obtain ⟨cs64,hRcs64,hc68⟩:=h2.el hx65
    have hScs64:=hRcs64
    obtain ⟨A71,n71,c71,rfl,⟨h71,r71⟩⟩:=(typeRd_out hRcs64)
    have e71:=h71.len; subst e71
    have q71:=len_le r71
    refine RQ.y rfl (Y.indexAddr (m:=k63) (sz:=3) rfl rfl hk66 hl67 (by kernel_rfl))<|RQ.y rfl (Y.loadN (cs:=[.int .i64 x62.kind,.string x62.name,.slice A71 x62.kids.length c71]) rfl (by kernel_rfl) (cells3 (beC (cellT T (hc68 0 _ rfl))) (beC (cellT T (hc68 1 _ rfl))) (beC (cellT T (hc68 2 _ rfl))))) ?_
    obtain ⟨y72,e73,hm⟩:=bnd hm
    refine RQ.call rfl (am2 rfl rfl) (by kernel_rfl) (v:=.bool y72) (bel (K:=fun _=>True) fun w' hb'=>(c_m_impl_SameType (SizeOf.sizeOf x52) x52 x62 _ e73 _ _ w' (stArg (R:=typeRd) (typeRd_in ⟨_,_,_,rfl,⟨SlAt.now typeRd_ok h61 (Nat.le_refl _) (Tt T hb'),r61⟩⟩)) (stArg (R:=typeRd) (typeRd_in ⟨_,_,_,rfl,⟨SlAt.now typeRd_ok h71 (Nat.le_refl _) (Tt T hb'),r71⟩⟩))))<|RQ.y rfl (Y.not (b':=(!y72)) rfl rfl)<|RQ.nil ?_
    intro w74 hb75
    have szw74:=hb75.size
    have B4:=blkT B4 hb75
    have T:=Tt T hb75
    refine then_n ?_
    rcases bcases y72 with c76|c76
    ·replace hm:=cF c76 hm
     refine cond_t rfl (vbn rfl c76 rfl)<|wp_seq<|wp_rs rfl<|RQ.y rfl (Y.assign (v:=.int .i64 8) rfl)<|RQ.nil<|then_n<|wp_ret ?_
     obtain rfl:=sj hm
     exact (blk_r (then_r (then_r (hit_r (blk_r (then_r (ret1 rfl rfl rfl ⟨rfl,T⟩)))))))
    replace hm:=cT c76 hm
    refine cond_f rfl (vbn rfl c76 rfl)<|wp_skip ?_
    refine blk_n (then_n ?_)
    refine wp_rs rfl<|RQ.y rfl (Y.binI s21_1 rfl (binI_add (m:=i16) (by omega)))<|RQ.y rfl (Y.move (v:=.int .i64 (i16+1)) rfl)<|RQ.nil ?_
    exact (then_n ⟨g,_,Nat.lt_succ_self _,rfl,⟨(i16+1),s2_1,s19_1,s20_1,rfl,(by omega),B4,T,(by rw [← hrec1]; exact hm)⟩⟩)
   replace hm:=cT c41 hm
   refine cond_t rfl (vb rfl c41)<|wp_seq<|wp_rs rfl<|RQ.y rfl (Y.move (v:=.int .i64 y37) rfl)<|RQ.y rfl (Y.assign (v:=.int .i64 y37) rfl)<|RQ.nil<|then_n<|wp_ret ?_
   obtain rfl:=sj hm
   exact (then_r (blk_r (then_r (then_r (hit_r (blk_r (then_r (ret1 rfl rfl rfl ⟨rfl,T⟩))))))))
  replace hm:=cT c14 hm
  refine cond_t rfl (vb rfl c14)<|wp_seq<|wp_rs rfl<|RQ.y rfl (Y.assign (v:=.int .i64 1) rfl)<|RQ.nil<|then_n<|wp_ret ?_
  obtain rfl:=sj hm
  exact (then_r (ret1 rfl rfl rfl ⟨rfl,T⟩))
end
section
open Go.RowKit
theorem getI_D {α:Type} {xs:List α} {k:Nat} (h:k < xs.length) (z:α):getI xs (k:Int)=some (xs.getD k z):=by
  rw [getI_lt h]; simp [List.getD,h]
theorem idxD_some {α:Type} {d:List α} {p:α→Bool} (h:d.any p=true) :∃i:Nat,i < d.length∧idxD d p=(i:Int):=by
  unfold idxD
  cases h2:d.findIdx? p with
  |none=>
    have h3:=List.findIdx?_eq_none_iff.1 h2
    obtain ⟨x,hx,hp⟩:=List.any_eq_true.1 h
    rw [h3 x hx] at hp; cases hp
  |some i=>exact ⟨i,(List.findIdx?_eq_some_iff_getElem.1 h2).1,rfl⟩
/-- A loop over numbers that goes on while p holds. -/
theorem allN {β:Type} {n:Nat} {L:Nat→Int→Option β} {p:Nat→Bool} {K z:Option β} (h :∀g (k:Nat) (hk:k < n),L (g+1) (k:Int)=bif p k then L g ((k:Int)+1) else z) (he :∀g,L (g+1) (n:Int)=K):L (n+1) 0=bif (List.range n).all p then K else z:=by
  have:=allK (d:=List.range n) (L:=L) (p:=p) (K:=K) (z:=z) (fun g k hk=>by
    have hk':k < n:=by simpa using hk
    rw [List.getElem_range]; exact h g k hk') (fun g=>by rw [List.length_range]; exact he g) (n+1) (by simp)
  exact this
theorem Good.peerS {xs:List DAgent} (G:Good xs) {p:DPort} (h:hasPort xs p=true):hasPort xs (peer xs p)=true∧Go.Proofs.YtpbobilkejblgaaGreat.peer xs (Go.Proofs.YtpbobilkejblgaaGreat.peer xs p)=p∧Go.Proofs.YtpbobilkejblgaaGreat.peer xs p ≠ p:=by
  obtain ⟨i,k,x,rfl,hx,hk,_⟩:=hasPort_at h
  have hb:=G.ports i x hx k hk
  unfold badPort at hb
  simp only [Bool.or_eq_false_iff,Bool.not_eq_false',decide_eq_false_iff_not,decide_eq_true_eq] at hb
  exact ⟨hb.1.2,hb.2,hb.1.1⟩
theorem kindLen {x:DAgent} (h:agentOk x=true):((x.kind=2 ∨ x.kind=3 ∨ x.kind=4 ∨ x.kind=7)→x.ports.length=3)∧((x.kind=6 ∨ x.kind=12)→x.ports.length=1)∧((x.kind=8 ∨ x.kind=10 ∨ x.kind=11)→x.ports.length=2)∧1≤x.ports.length:=by
  have hp:=agentOk_pos h
  unfold agentOk at h
  simp only [Bool.and_eq_true,decide_eq_true_eq] at h
  have h2:=h.1.1.2
  refine ⟨fun hk=>?_,fun hk=>?_,fun hk=>?_,by omega⟩
  · rcases hk with e|e|e|e <;> rw [e] at h2 <;> simp [portsOf,fieldsN] at h2 <;> omega
  · rcases hk with e|e <;> rw [e] at h2 <;> simp [portsOf,fieldsN] at h2 <;> omega
  · rcases hk with e|e|e <;> rw [e] at h2 <;> simp [portsOf,fieldsN] at h2 <;> omega
theorem kindData {x:DAgent} (h:agentOk x=true):(x.kind=9→0≤x.value)∧(x.kind=10→1≤x.data.length)∧(x.kind=11→x.data.length=2)∧x.data.length≤4:=by
  unfold agentOk at h
  simp only [Bool.and_eq_true,decide_eq_true_eq] at h
  have h2:=h.2
  unfold content at h2
  refine ⟨fun e=>?_,fun e=>?_,fun e=>?_,?_⟩
  · rw [e] at h2; simp at h2; omega
  · rw [e] at h2; simp at h2; omega
  · rw [e] at h2; simp at h2; omega
  · split at h2
    · simp at h2; simp [h2.1]
    · split at h2
      · simp at h2; simp [h2.1]
      · split at h2
        · simp at h2; omega
        · split at h2
          · simp at h2; simp [h2.1]
          · split at h2
            · simp at h2; simp [h2.1]
            · split at h2
              · simp at h2; omega
              · split at h2
                · simp at h2; omega
                · simp at h2; simp [h2.2]
noncomputable def defTy (s:DSignature) (d:Int) (t:DType):Bool:=match getI s.defs d with|some x=>decide (x=t)|none=>false
theorem getI_out {α:Type} {xs:List α} {d:Int} (h:d < 0 ∨ (xs.length:Int)≤d):getI xs d=none:=by
  unfold getI
  rcases h with h|h
  · rw [if_neg (by omega)]
  · by_cases h0:0≤d
    · rw [if_pos h0]; exact List.getElem?_eq_none (by omega)
    · rw [if_neg h0]
theorem getI_in {α:Type} {xs:List α} {d:Int} (h0:0≤d) (h1:d < (xs.length:Int)) :∃x,getI xs d=some x:=by
  obtain ⟨k,rfl⟩:=Int.eq_ofNat_of_zero_le h0
  exact ⟨_,getI_lt (by omega)⟩
theorem p_sDef (s:DSignature) (hl:s.defs.length≤24) (d:Int) (t:DType):m_spec_l20Def s d t=some (defTy s d t):=by
  unfold m_spec_l20Def defTy
  rw [ck_ok (by omega),Option.bind_some]
  unfold inR
  by_cases h0:0≤d
  · by_cases h1:d≤(s.defs.length:Int) - 1
    · obtain ⟨x,hx⟩:=getI_in (xs:=s.defs) h0 (by omega)
      rw [decide_eq_true h0,decide_eq_true h1,hx,Bool.and_self,cond_true,Option.bind_some,p_sSameTy _ _ _ (Nat.le_refl _),Option.bind_some]
    · rw [decide_eq_false h1,Bool.and_false,cond_false,getI_out (.inr (by omega))]
  · rw [decide_eq_false h0,Bool.false_and,cond_false,getI_out (.inl (by omega))]
theorem p_iHas (s:DSignature) (d:Int) (t:DType):m_impl_Signature_hasType s d t=some (defTy s d t):=by
  unfold m_impl_Signature_hasType m_impl_Signature_defType defTy
  by_cases h0:d < 0
  · rw [decide_eq_true h0,cond_true,Option.bind_some,getI_out (.inl h0)]; rfl
  · rw [decide_eq_false h0,cond_false]
    by_cases h1:d ≥ (s.defs.length:Int)
    · rw [decide_eq_true h1,cond_true,Option.bind_some,getI_out (.inr h1)]; rfl
    · obtain ⟨x,hx⟩:=getI_in (xs:=s.defs) (d:=d) (by omega) (by omega)
      rw [decide_eq_false h1,cond_false,hx,Option.bind_some,Option.bind_some,cond_true,p_iSameTy _ _ _ (Nat.le_refl _),Option.bind_some]
theorem tlen1 {α:Type} {xs:List α} (h:xs.length=1) :∃a,xs=[a]:=by match xs,h with|[a],_=>exact ⟨a,rfl⟩
theorem tlen2 {α:Type} {xs:List α} (h:xs.length=2) :∃a b,xs=[a,b]:=by match xs,h with|[a,b],_=>exact ⟨a,b,rfl⟩
theorem tlen3 {α:Type} {xs:List α} (h:xs.length=3) :∃a b c,xs=[a,b,c]:=by match xs,h with|[a,b,c],_=>exact ⟨a,b,c,rfl⟩
theorem tlenP {α:Type} {xs:List α} (h:1≤xs.length) :∃a r,xs=a :: r:=by match xs,h with|a :: r,_=>exact ⟨a,r,rfl⟩
theorem notInts (ts:List DType):m_slices_ContainsFunc_impl_Type_impl_Type ts (fun x0=>m_impl_Signature_obeys_2 x0 ())=some (ts.any fun t=>!(t.kind==1)):=
  p_contT (fun t _=>by
    show m_impl_Signature_obeys_2 t ()=_
    unfold m_impl_Signature_obeys_2 m_impl_Signature_obeys_1
    rw [Option.bind_some])
theorem simple_data {ds:List DData} {t:DType} (hs:simpleD ds t=true) (hk:t.kind=2) :∃i:Nat,∃hi:i < ds.length,idxD ds (fun x=>decide (x.name=t.name))=(i:Int):=by
  rw [simpleD_eq,if_neg (by omega),if_pos hk,Bool.and_eq_true] at hs
  obtain ⟨i,h1,h2⟩:=idxD_some hs.2
  exact ⟨i,h1,h2⟩
theorem fits_both {s:DSignature} (hdl:s.defs.length≤24) {x:DAgent} (hx:agentOk x=true) {ts:List DType} (hl:ts.length=x.ports.length) (hs :∀t∈ts,simpleD s.datas t=true) :
    ∃b,m_spec_l20Fits s x ts=some b∧m_impl_Signature_obeys s x ts=some b:=by
  obtain ⟨k3,k1,k2,kp⟩:=kindLen hx
  obtain ⟨kv,kd,ks,kl⟩:=kindData hx
  rw [← hl] at k3 k1 k2 kp
  unfold m_spec_l20Fits m_impl_Signature_obeys
  by_cases e2:x.kind=2
  · obtain ⟨a,b,c,rfl⟩:=tlen3 (k3 (.inl e2))
    rw [show (x.kind==2)=true by simp [e2],cond_true,cond_true]
    have g0:getI [a,b,c] 0=some a:=rfl
    have g1:getI [a,b,c] 1=some b:=rfl
    have g2:getI [a,b,c] 2=some c:=rfl
    simp -implicitDefEqProofs only [g0,g1,g2,Option.bind_some,l02M,funTM,p_sSameTy _ _ _ (Nat.le_refl _),p_iSameTy _ _ _ (Nat.le_refl _)]
    exact ⟨_,rfl,rfl⟩
  rw [show (x.kind==2)=false by simp [e2],cond_false,cond_false]
  by_cases e3:x.kind=3
  · obtain ⟨a,b,c,rfl⟩:=tlen3 (k3 (.inr (.inl e3)))
    rw [show (x.kind==3)=true by simp [e3],cond_true,cond_true]
    have g0:getI [a,b,c] 0=some a:=rfl
    have g1:getI [a,b,c] 1=some b:=rfl
    have g2:getI [a,b,c] 2=some c:=rfl
    simp -implicitDefEqProofs only [g0,g1,g2,Option.bind_some,l02M,funTM,p_sSameTy _ _ _ (Nat.le_refl _),p_iSameTy _ _ _ (Nat.le_refl _)]
    exact ⟨_,rfl,rfl⟩
  rw [show (x.kind==3)=false by simp [e3],cond_false,cond_false]
  by_cases e4:x.kind=4
  · obtain ⟨a,b,c,rfl⟩:=tlen3 (k3 (.inr (.inr (.inl e4))))
    rw [show (x.kind==4)=true by simp [e4],cond_true,cond_true]
    have g0:getI [a,b,c] 0=some a:=rfl
    have g1:getI [a,b,c] 1=some b:=rfl
    have g2:getI [a,b,c] 2=some c:=rfl
    simp -implicitDefEqProofs only [g0,g1,g2,Option.bind_some,p_sSameTy _ _ _ (Nat.le_refl _),p_iSameTy _ _ _ (Nat.le_refl _)]
    cases decide (a=b) <;> exact ⟨_,rfl,rfl⟩
  rw [show (x.kind==4)=false by simp [e4],cond_false,cond_false]
  by_cases e6:x.kind=6
  · obtain ⟨a,rfl⟩:=tlen1 (k1 (.inl e6))
    rw [show (x.kind==6)=true by simp [e6],cond_true,cond_true]
    have g0:getI [a] 0=some a:=rfl
    have key:=allK (L:=m_spec_l20Fits_L4 [a] m_spec_l20Fits_A4) (d:=[a]) (p:=fun t=>t.kind==1) (K:=some true) (z:=some false)
      (fun g k hk=>by
        simp -implicitDefEqProofs only [m_spec_l20Fits_L4,m_spec_l20Fits_B4,dlt hk,cond_true,getI_lt hk,Option.bind_some,show∀n:Int,(n != 1) = !(n==1) from fun _=>rfl]
        cases ([a][k].kind==1) <;> rfl)
      (fun g=>by simp -implicitDefEqProofs only [m_spec_l20Fits_L4,m_spec_l20Fits_B4,dge,cond_false,m_spec_l20Fits_A4]) _ (Nat.lt_succ_self _)
    rw [key,g0,Option.bind_some]
    unfold m_impl_Signature_obeys_1
    rw [Option.bind_some]
    refine ⟨a.kind==1,?_,rfl⟩
    simp only [List.all_cons,List.all_nil,Bool.and_true]
    cases a.kind==1 <;> rfl
  rw [show (x.kind==6)=false by simp [e6],cond_false,cond_false]
  by_cases e7:x.kind=7
  · rw [show (x.kind==7)=true by simp [e7],cond_true,cond_true]
    have key:=allK (L:=m_spec_l20Fits_L3 ts m_spec_l20Fits_A3) (d:=ts) (p:=fun t=>t.kind==1) (K:=some true) (z:=some false)
      (fun g k hk=>by
        simp -implicitDefEqProofs only [m_spec_l20Fits_L3,m_spec_l20Fits_B3,dlt hk,cond_true,getI_lt hk,Option.bind_some,show∀n:Int,(n != 1) = !(n==1) from fun _=>rfl]
        cases (ts[k].kind==1) <;> rfl)
      (fun g=>by simp -implicitDefEqProofs only [m_spec_l20Fits_L3,m_spec_l20Fits_B3,dge,cond_false,m_spec_l20Fits_A3]) _ (Nat.lt_succ_self _)
    rw [key,notInts,Option.bind_some,not_any_not]
    exact ⟨ts.all fun t=>t.kind==1,by cases (ts.all fun t=>t.kind==1) <;> rfl,rfl⟩
  rw [show (x.kind==7)=false by simp [e7],cond_false,cond_false]
  by_cases e8:x.kind=8
  · rw [show (x.kind==8)=true by simp [e8],cond_true,cond_true]
    have key:=allK (L:=m_spec_l20Fits_L2 ts m_spec_l20Fits_A2) (d:=ts) (p:=fun t=>t.kind==1) (K:=some true) (z:=some false)
      (fun g k hk=>by
        simp -implicitDefEqProofs only [m_spec_l20Fits_L2,m_spec_l20Fits_B2,dlt hk,cond_true,getI_lt hk,Option.bind_some,show∀n:Int,(n != 1) = !(n==1) from fun _=>rfl]
        cases (ts[k].kind==1) <;> rfl)
      (fun g=>by simp -implicitDefEqProofs only [m_spec_l20Fits_L2,m_spec_l20Fits_B2,dge,cond_false,m_spec_l20Fits_A2]) _ (Nat.lt_succ_self _)
    rw [key,notInts,Option.bind_some,not_any_not]
    exact ⟨ts.all fun t=>t.kind==1,by cases (ts.all fun t=>t.kind==1) <;> rfl,rfl⟩
  rw [show (x.kind==8)=false by simp [e8],cond_false,cond_false]
  by_cases e9:x.kind=9
  · obtain ⟨a,r,rfl⟩:=tlenP kp
    rw [show (x.kind==9)=true by simp [e9],cond_true,cond_true]
    have g0:getI (a :: r) 0=some a:=rfl
    obtain ⟨v,hv⟩:=Int.eq_ofNat_of_zero_le (kv e9)
    unfold m_impl_Signature_constructors
    rw [g0,Option.bind_some,Option.bind_some,p_sNamed,p_iFind,Option.bind_some,Option.bind_some,Option.bind_some]
    by_cases hk:a.kind=2
    · obtain ⟨i,hi,he⟩:=simple_data (hs a (by simp)) hk
      rw [he,getI_lt hi,show (a.kind==2)=true by simp [hk],show (a.kind != 2)=false by simp [hk],cond_true,cond_false,Option.bind_some,Option.bind_some,Option.bind_some,Option.bind_some,hv]
      by_cases hvl:v < s.datas[i].cons.length
      · rw [decide_eq_true (show ((v:Nat):Int) < _ by omega),cond_true,cond_true]
        simp -implicitDefEqProofs only [getI_lt hvl,Option.bind_some,mustP_ok (show 1≤(a :: r).length by simp),p_sSameTyS,p_iSameTyS]
        exact ⟨_,rfl,rfl⟩
      · rw [decide_eq_false (show ¬ ((v:Nat):Int) < _ by omega),cond_false,cond_false]
        exact ⟨_,rfl,rfl⟩
    · rw [show (a.kind==2)=false by simp [hk],show (a.kind != 2)=true by simp [hk],cond_true,cond_false,Option.bind_some,hv,decide_eq_false (show ¬ ((v:Nat):Int) < (([] : List DConstructor).length:Int) by simp),cond_false]
      exact ⟨_,rfl,rfl⟩
  rw [show (x.kind==9)=false by simp [e9],cond_false,cond_false]
  by_cases e10:x.kind=10
  · obtain ⟨a,b,rfl⟩:=tlen2 (k2 (.inr (.inl e10)))
    rw [show (x.kind==10)=true by simp [e10],cond_true,cond_true]
    have g0:getI [a,b] 0=some a:=rfl
    have g1:getI [a,b] 1=some b:=rfl
    have hdl1:=kd e10
    unfold m_impl_Signature_constructors m_slices_EqualFunc_impl_Constructor_int64_impl_Constructor_int64
    rw [g0,Option.bind_some,Option.bind_some,p_sNamed,p_iFind,Option.bind_some,Option.bind_some,Option.bind_some]
    by_cases hk:a.kind=2
    · obtain ⟨i,hi,he⟩:=simple_data (hs a (by simp)) hk
      rw [he,getI_lt hi,show (a.kind != 2)=false by simp [hk],cond_false,cond_false,Option.bind_some,Option.bind_some,Option.bind_some,bne_nat]
      by_cases hlen:s.datas[i].cons.length=x.data.length
      · rw [decide_eq_true hlen,Bool.not_true,cond_false,cond_false]
        have ks1:=allN (n:=x.data.length) (L:=m_spec_l20Fits_L1 s x [a,b] (i:Int) m_spec_l20Fits_A1) (p:=fun k=>defTy s (x.data.getD k 0) (funD (s.datas[i].cons.getD k default).fields b)) (K:=some true) (z:=some false)
          (fun g k hk2=>by
            simp -implicitDefEqProofs only [m_spec_l20Fits_L1,m_spec_l20Fits_B1,dlt hk2,cond_true,getI_D hk2 0,Option.bind_some,getI_lt hi,getI_D (show k < s.datas[i].cons.length by omega) default,g1,l07M,p_sDef s hdl])
          (fun g=>by simp -implicitDefEqProofs only [m_spec_l20Fits_L1,m_spec_l20Fits_B1,dge,cond_false,m_spec_l20Fits_A1])
        have ki1:=allN (n:=s.datas[i].cons.length) (L:=m_slices_EqualFunc_impl_Constructor_int64_impl_Constructor_int64_L1 s.datas[i].cons x.data (fun x0 x1=>m_impl_Signature_obeys_3 x0 x1 s [a,b]) m_slices_EqualFunc_impl_Constructor_int64_impl_Constructor_int64_A1) (p:=fun k=>defTy s (x.data.getD k 0) (funD (s.datas[i].cons.getD k default).fields b)) (K:=some true) (z:=some false)
          (fun g k hk2=>by
            simp -implicitDefEqProofs only [m_slices_EqualFunc_impl_Constructor_int64_impl_Constructor_int64_L1,m_slices_EqualFunc_impl_Constructor_int64_impl_Constructor_int64_B1,dlt hk2,cond_true,getI_D (show k < x.data.length by omega) 0,Option.bind_some,getI_D hk2 default,m_impl_Signature_obeys_3,g1,fieldsM,p_iHas])
          (fun g=>by simp -implicitDefEqProofs only [m_slices_EqualFunc_impl_Constructor_int64_impl_Constructor_int64_L1,m_slices_EqualFunc_impl_Constructor_int64_impl_Constructor_int64_B1,dge,cond_false,m_slices_EqualFunc_impl_Constructor_int64_impl_Constructor_int64_A1])
        rw [ks1,ki1,← hlen]
        cases ((List.range s.datas[i].cons.length).all fun k=>defTy s (x.data.getD k 0) (funD (s.datas[i].cons.getD k default).fields b)) <;> exact ⟨_,rfl,rfl⟩
      · rw [decide_eq_false hlen,Bool.not_false,cond_true,cond_true,Option.bind_some]
        exact ⟨_,rfl,rfl⟩
    · rw [show (a.kind != 2)=true by simp [hk],cond_true,cond_true,Option.bind_some,bne_nat,decide_eq_false (show ¬ ([] : List DConstructor).length=x.data.length by simp; omega),Bool.not_false,cond_true,Option.bind_some]
      exact ⟨_,rfl,rfl⟩
  rw [show (x.kind==10)=false by simp [e10],cond_false,cond_false]
  by_cases e11:x.kind=11
  · obtain ⟨a,b,rfl⟩:=tlen2 (k2 (.inr (.inr e11)))
    obtain ⟨d0,d1,hd⟩:=tlen2 (ks e11)
    rw [show (x.kind==11)=true by simp [e11],cond_true,cond_true,hd]
    have g0:getI [a,b] 0=some a:=rfl
    have g1:getI [a,b] 1=some b:=rfl
    have i0:getI [d0,d1] 0=some d0:=rfl
    have i1:getI [d0,d1] 1=some d1:=rfl
    have hcn:=p_contains_int [d0,d1] (fun x0=>m_impl_Signature_obeys_4 x0 s [a,b]) (fun d=>!defTy s d b) (fun d _=>by
      show m_impl_Signature_obeys_4 d s [a,b] = _
      unfold m_impl_Signature_obeys_4
      rw [g1,Option.bind_some,p_iHas,Option.bind_some])
    unfold m_impl_Signature_obeys_1
    simp -implicitDefEqProofs only [g0,g1,i0,i1,Option.bind_some,p_sDef s hdl,hcn]
    cases a.kind==1 with
    |false=>exact ⟨_,rfl,rfl⟩
    |true=>
      cases hd0:defTy s d0 b <;> cases hd1:defTy s d1 b <;> exact ⟨_,rfl,by simp [hd0,hd1]⟩
  rw [show (x.kind==11)=false by simp [e11],cond_false,cond_false]
  by_cases e12:x.kind=12
  · obtain ⟨a,rfl⟩:=tlen1 (k1 (.inr e12))
    rw [show (x.kind==12)=true by simp [e12],cond_true,cond_true]
    have g0:getI [a] 0=some a:=rfl
    rw [g0,Option.bind_some,Option.bind_some,p_sDef s hdl,p_iHas,Option.bind_some]
    exact ⟨_,rfl,rfl⟩
  rw [show (x.kind==12)=false by simp [e12],cond_false,cond_false]
  exact ⟨_,rfl,rfl⟩
def tyRow (t:DTypedNet) (i:Nat):List DType:=t.types.getD i []
def agAt (t:DTypedNet) (i:Nat):DAgent:=t.net.agents.getD i default
def fitRow (t:DTypedNet) (i:Nat):Bool:=decide ((tyRow t i).length=(agAt t i).ports.length)
noncomputable def shapeD (t:DTypedNet):Bool:=validNet t.net && (decide (t.types.length=t.net.agents.length) && (List.range t.net.agents.length).all (fitRow t))
theorem p_sShape (t:DTypedNet) (hs:Small t.net.agents):m_spec_l20Shape t=some (shapeD t):=by
  unfold m_spec_l20Shape shapeD
  rw [p_ok _ hs,Option.bind_some,bne_nat]
  cases hv:validNet t.net with
  |false=>rfl
  |true=>
    rw [cond_true,Bool.true_and]
    by_cases hl:t.types.length=t.net.agents.length
    · rw [decide_eq_true hl,Bool.not_true,cond_false,Bool.true_and]
      have key:=allN (n:=t.types.length) (L:=m_spec_l20Shape_L1 t m_spec_l20Shape_A1) (p:=fitRow t) (K:=some true) (z:=some false)
        (fun g k hk=>by
          simp -implicitDefEqProofs only [m_spec_l20Shape_L1,m_spec_l20Shape_B1,dlt hk,cond_true,getI_D hk [],Option.bind_some,getI_D (show k < t.net.agents.length by omega) default,bne_nat]
          unfold fitRow tyRow agAt
          cases decide ((t.types.getD k []).length=(t.net.agents.getD k default).ports.length) <;> rfl)
        (fun g=>by simp -implicitDefEqProofs only [m_spec_l20Shape_L1,m_spec_l20Shape_B1,dge,cond_false,m_spec_l20Shape_A1])
      rw [key,hl]
      cases (List.range t.net.agents.length).all (fitRow t) <;> rfl
    · rw [decide_eq_false hl,Bool.not_false,cond_true,Bool.false_and]
theorem p_iFit (t:DTypedNet):m_impl_typesFit t=some (decide (t.types.length=t.net.agents.length) && (List.range t.net.agents.length).all (fitRow t)):=by
  unfold m_impl_typesFit m_slices_EqualFunc_impl_Agent_SS_impl_Type_impl_Agent_impl_Type
  rw [bne_nat]
  by_cases hl:t.net.agents.length=t.types.length
  · rw [decide_eq_true hl,decide_eq_true hl.symm,Bool.not_true,cond_false,Bool.true_and]
    have key:=allN (n:=t.net.agents.length) (L:=m_slices_EqualFunc_impl_Agent_SS_impl_Type_impl_Agent_impl_Type_L1 t.net.agents t.types (fun x0 x1=>m_impl_typesFit_1 x0 x1) m_slices_EqualFunc_impl_Agent_SS_impl_Type_impl_Agent_impl_Type_A1) (p:=fitRow t) (K:=some true) (z:=some false)
      (fun g k hk=>by
        simp -implicitDefEqProofs only [m_slices_EqualFunc_impl_Agent_SS_impl_Type_impl_Agent_impl_Type_L1,m_slices_EqualFunc_impl_Agent_SS_impl_Type_impl_Agent_impl_Type_B1,dlt hk,cond_true,getI_D hk default,Option.bind_some,getI_D (show k < t.types.length by omega) [],m_impl_typesFit_1]
        unfold fitRow tyRow agAt
        rw [show (((t.net.agents.getD k default).ports.length:Int)==((t.types.getD k []).length:Int))=decide ((t.types.getD k []).length=(t.net.agents.getD k default).ports.length) by rw [Bool.eq_iff_iff]; simp; omega])
      (fun g=>by simp -implicitDefEqProofs only [m_slices_EqualFunc_impl_Agent_SS_impl_Type_impl_Agent_impl_Type_L1,m_slices_EqualFunc_impl_Agent_SS_impl_Type_impl_Agent_impl_Type_B1,dge,cond_false,m_slices_EqualFunc_impl_Agent_SS_impl_Type_impl_Agent_impl_Type_A1])
    rw [key]
    cases (List.range t.net.agents.length).all (fitRow t) <;> rfl
  · rw [decide_eq_false hl,decide_eq_false (fun e=>hl e.symm),Bool.not_false,cond_true,Bool.false_and]; rfl
def tyAt (t:DTypedNet) (i k:Nat):DType:=(tyRow t i).getD k default
noncomputable def portOK (s:DSignature) (t:DTypedNet) (p:DPort):Bool:=simpleD s.datas (tyAt t p.agent.toNat p.slot.toNat) && decide (tyAt t p.agent.toNat p.slot.toNat=tyAt t (peer t.net.agents p).agent.toNat (peer t.net.agents p).slot.toNat)
noncomputable def rowOK (s:DSignature) (t:DTypedNet) (i:Nat):Bool:=(List.range (agAt t i).ports.length).all fun k=>portOK s t ⟨(i:Int),(k:Int)⟩
noncomputable def fitsD (s:DSignature) (t:DTypedNet) (i:Nat):Bool:=(m_spec_l20Fits s (agAt t i) (tyRow t i)).getD false
noncomputable def checkD (s:DSignature) (t:DTypedNet):Int:=bif (List.range t.net.agents.length).all fun i=>rowOK s t i && fitsD s t i then 0 else 8
structure ShapeOk (t:DTypedNet):Prop where
  good:Good t.net.agents
  len:t.types.length=t.net.agents.length
  row :∀i,i < t.net.agents.length→(tyRow t i).length=(agAt t i).ports.length
theorem shapeOk {t:DTypedNet} (h:shapeD t=true):ShapeOk t:=by
  unfold shapeD at h
  rw [Bool.and_eq_true,Bool.and_eq_true] at h
  exact ⟨good h.1,of_decide_eq_true h.2.1,fun i hi=>of_decide_eq_true (List.all_eq_true.1 h.2.2 i (by simpa using hi))⟩
section
variable {s : DSignature} {t : DTypedNet}
theorem ShapeOk.get (S:ShapeOk t) {i:Nat} (hi:i < t.net.agents.length):getI t.types (i:Int)=some (tyRow t i):=getI_D (by rw [S.len]; exact hi) []
theorem ShapeOk.ag (S:ShapeOk t) {i:Nat} (hi:i < t.net.agents.length):t.net.agents[i]? = some (agAt t i):=by unfold agAt; simp [List.getD,hi]
theorem ShapeOk.ty (S:ShapeOk t) {p:DPort} (hp:hasPort t.net.agents p=true):getI t.types p.agent=some (tyRow t p.agent.toNat)∧getI (tyRow t p.agent.toNat) p.slot=some (tyAt t p.agent.toNat p.slot.toNat):=by
  obtain ⟨j,m,x,e,hx,hm,_⟩:=hasPort_at hp
  have hj:=lt_of_some hx
  subst e
  have hxx:agAt t j=x:=(Option.some.inj (hx.symm.trans (S.ag hj))).symm
  simp only [Int.toNat_natCast]
  exact ⟨S.get hj,getI_D (by rw [S.row j hj,hxx]; exact hm) default⟩
theorem fits_at (S:ShapeOk t) (hdl:s.defs.length≤24) {i:Nat} (hi:i < t.net.agents.length) (hr:rowOK s t i=true):m_spec_l20Fits s (agAt t i) (tyRow t i)=some (fitsD s t i)∧m_impl_Signature_obeys s (agAt t i) (tyRow t i)=some (fitsD s t i):=by
  obtain ⟨b,h1,h2⟩:=fits_both hdl (S.good.ok i _ (S.ag hi)) (S.row i hi) (fun x hx=>by
    obtain ⟨k,hk,rfl⟩:=List.getElem_of_mem hx
    have:=List.all_eq_true.1 hr k (by rw [List.mem_range,← S.row i hi]; exact hk)
    unfold portOK at this
    rw [Bool.and_eq_true] at this
    have h3:=this.1
    simp only [Int.toNat_natCast] at h3
    unfold tyAt at h3
    rwa [show (tyRow t i).getD k default=(tyRow t i)[k] by simp [List.getD,hk]] at h3)
  have e:fitsD s t i=b:=by unfold fitsD; rw [h1]; rfl
  rw [e]; exact ⟨h1,h2⟩
theorem p_sCheck (hs:szSignature s≤1048576) (ht:Small t.net.agents):m_spec_l20Check s t=some (bif validSig s then (bif shapeD t then checkD s t else 1) else 1):=by
  unfold m_spec_l20Check
  rw [p_sSignature s hs,Option.bind_some,p_sShape t ht,Option.bind_some]
  cases hv:validSig s with
  |false=>rfl
  |true=>
  cases hsh:shapeD t with
  |false=>rfl
  |true=>
  have S:=shapeOk hsh
  have G:=S.good
  have hdl:s.defs.length≤24:=by unfold validSig at hv; simp only [Bool.and_eq_true,decide_eq_true_eq] at hv; exact hv.2.1
  have h600:=G.len
  simp only [cond_true]
  have key:=allN (n:=t.net.agents.length) (L:=m_spec_l20Check_L1 s t m_spec_l20Check_A1) (p:=fun i=>rowOK s t i && fitsD s t i) (K:=some 0) (z:=some 8)
    (fun g i hi=>by
      have e:m_spec_l20Check_L1 s t m_spec_l20Check_A1 (g+1) (i:Int)=m_spec_l20Check_B1 s t (m_spec_l20Check_L1 s t m_spec_l20Check_A1 g) m_spec_l20Check_A1 (i:Int):=rfl
      rw [e]
      unfold m_spec_l20Check_B1
      rw [S.len,dlt hi,cond_true,getI_nat (S.ag hi),Option.bind_some,S.get hi,Option.getD_some,S.row i hi]
      have k2:=allN (n:=(agAt t i).ports.length) (L:=m_spec_l20Check_L2 s t (i:Int) (agAt t i) (m_spec_l20Check_A2 s t (m_spec_l20Check_L1 s t m_spec_l20Check_A1 g) (i:Int) (agAt t i))) (p:=fun k=>portOK s t ⟨(i:Int),(k:Int)⟩) (K:=m_spec_l20Check_A2 s t (m_spec_l20Check_L1 s t m_spec_l20Check_A1 g) (i:Int) (agAt t i)) (z:=some 8)
        (fun g2 k hk=>by
          have hp:=hasPort_of (S.ag hi) hk
          have hpr:getI (agAt t i).ports (k:Int)=some (peer t.net.agents ⟨(i:Int),(k:Int)⟩):=by
            rw [getI_lt hk]
            unfold peer
            simp only [Int.toNat_natCast]
            rw [agentAt_nat (S.ag hi)]
            simp [List.getD,hk]
          obtain ⟨q1,q2⟩:=S.ty (G.peerS hp).1
          have hrow:k < (tyRow t i).length:=by rw [S.row i hi]; exact hk
          simp -implicitDefEqProofs only [m_spec_l20Check_L2,m_spec_l20Check_B2,S.get hi,Option.bind_some,dlt hrow,cond_true,hpr,getI_D hrow default,p_sSimple s.datas _ _ (Nat.le_refl _),q1,q2,p_sSameTy _ _ _ (Nat.le_refl _)]
          unfold portOK
          simp only [Int.toNat_natCast]
          unfold tyAt
          cases simpleD s.datas ((tyRow t i).getD k default) <;> rfl)
        (fun g2=>by
          rw [← S.row i hi]
          simp -implicitDefEqProofs only [m_spec_l20Check_L2,m_spec_l20Check_B2,S.get hi,Option.bind_some,dge,cond_false])
      rw [k2]
      show (bif rowOK s t i then _ else _)=_
      cases hr:rowOK s t i with
      |false=>rfl
      |true=>
        rw [cond_true,Bool.true_and]
        unfold m_spec_l20Check_A2
        rw [S.get hi,Option.bind_some,(fits_at S hdl hi hr).1,Option.bind_some,ck_ok (by omega),Option.bind_some])
    (fun g=>by
      have e:m_spec_l20Check_L1 s t m_spec_l20Check_A1 (g+1) (t.net.agents.length:Int)=m_spec_l20Check_B1 s t (m_spec_l20Check_L1 s t m_spec_l20Check_A1 g) m_spec_l20Check_A1 (t.net.agents.length:Int):=rfl
      rw [e]
      unfold m_spec_l20Check_B1
      rw [S.len,dge,cond_false]; rfl)
  rw [S.len,key]
  unfold checkD
  cases (List.range t.net.agents.length).all fun i=>rowOK s t i && fitsD s t i <;> rfl
theorem all_allPorts (P:DPort→Bool):(allPorts t.net.agents).all P=(List.range t.net.agents.length).all fun i=>(List.range (agAt t i).ports.length).all fun k=>P ⟨(i:Int),(k:Int)⟩:=by
  rw [Bool.eq_iff_iff,List.all_eq_true,List.all_eq_true]
  constructor
  · intro h i hi
    rw [List.mem_range] at hi
    rw [List.all_eq_true]
    intro k hk
    rw [List.mem_range] at hk
    exact h _ (mem_portsFrom.2 ⟨i,agAt t i,k,by unfold agAt; simp [List.getD,hi],hk,by simp⟩)
  · intro h p hp
    obtain ⟨j,x,k,h1,h2,rfl⟩:=mem_portsFrom.1 hp
    have hj:=lt_of_some h1
    have e:agAt t j=x:=by unfold agAt; simp [List.getD,h1]
    have h3:=List.all_eq_true.1 (h j (List.mem_range.2 hj)) k (List.mem_range.2 (by rw [e]; exact h2))
    simpa using h3
theorem p_iCheck (hv:validDs s.datas=true) (hdl:s.defs.length≤24) (ht:Small t.net.agents):m_impl_checkTyping s t=some (bif shapeD t then checkD s t else 1):=by
  have e1:(⟨t.net.agents⟩:DNet)=t.net:=rfl
  unfold m_impl_checkTyping
  rw [e1,p_valid _ ht,Option.bind_some,p_iFit,Option.bind_some,p_ports _ ht,Option.bind_some]
  have hsplit:shapeD t=(validNet t.net && (decide (t.types.length=t.net.agents.length) && (List.range t.net.agents.length).all (fitRow t))):=rfl
  rw [hsplit]
  cases hn:validNet t.net with
  |false=>rfl
  |true=>
  cases hf:(decide (t.types.length=t.net.agents.length) && (List.range t.net.agents.length).all (fitRow t)) with
  |false=>rfl
  |true=>
  have hsh:shapeD t=true:=by rw [hsplit,hn,hf]; rfl
  have S:=shapeOk hsh
  have G:=S.good
  simp only [cond_true,Bool.and_self]
  have key:=allK (L:=m_impl_checkTyping_L1 s t (allPorts t.net.agents) (m_impl_checkTyping_A1 s t)) (d:=allPorts t.net.agents) (p:=portOK s t) (K:=m_impl_checkTyping_A1 s t) (z:=some 8)
    (fun g k hk=>by
      obtain ⟨j,x,m,h1,h2,h3⟩:=mem_portsFrom.1 (List.getElem_mem hk)
      have hp:hasPort t.net.agents (allPorts t.net.agents)[k] = true:=by rw [h3]; simpa using hasPort_of h1 h2
      obtain ⟨a1,a2⟩:=S.ty hp
      obtain ⟨q1,q2⟩:=S.ty (G.peerS hp).1
      simp -implicitDefEqProofs only [m_impl_checkTyping_L1,m_impl_checkTyping_B1,dlt hk,cond_true,getI_lt hk,Option.bind_some,p_peer hp,a1,a2,q1,q2,p_iSimple hv _ _ (Nat.le_refl _),p_iSameTy _ _ _ (Nat.le_refl _)]
      unfold portOK
      cases simpleD s.datas (tyAt t (allPorts t.net.agents)[k].agent.toNat (allPorts t.net.agents)[k].slot.toNat) <;> rfl)
    (fun g=>by simp -implicitDefEqProofs only [m_impl_checkTyping_L1,m_impl_checkTyping_B1,dge,cond_false]) _ (Nat.lt_succ_self _)
  rw [key,all_allPorts]
  have hr:(List.range t.net.agents.length).all (fun i=>(List.range (agAt t i).ports.length).all fun k=>portOK s t ⟨(i:Int),(k:Int)⟩)=(List.range t.net.agents.length).all (rowOK s t):=rfl
  rw [hr]
  unfold checkD
  have hand:((List.range t.net.agents.length).all fun i=>rowOK s t i && fitsD s t i)=((List.range t.net.agents.length).all (rowOK s t) && (List.range t.net.agents.length).all (fitsD s t)):=by
    rw [Bool.eq_iff_iff,Bool.and_eq_true,List.all_eq_true,List.all_eq_true,List.all_eq_true]
    constructor
    · intro h
      exact ⟨fun i hi=>by have:=h i hi; rw [Bool.and_eq_true] at this; exact this.1,fun i hi=>by have:=h i hi; rw [Bool.and_eq_true] at this; exact this.2⟩
    · intro h i hi
      rw [Bool.and_eq_true]; exact ⟨h.1 i hi,h.2 i hi⟩
  rw [hand]
  cases hall:(List.range t.net.agents.length).all (rowOK s t) with
  |false=>rfl
  |true=>
    rw [cond_true,Bool.true_and]
    unfold m_impl_checkTyping_A1
    have k2:=allN (n:=t.net.agents.length) (L:=m_impl_checkTyping_L2 s t m_impl_checkTyping_A2) (p:=fitsD s t) (K:=some 0) (z:=some 8)
      (fun g i hi=>by
        have hri:=List.all_eq_true.1 hall i (List.mem_range.2 hi)
        simp -implicitDefEqProofs only [m_impl_checkTyping_L2,m_impl_checkTyping_B2,dlt hi,cond_true,getI_nat (S.ag hi),Option.bind_some,S.get hi,(fits_at S hdl hi hri).2])
      (fun g=>by simp -implicitDefEqProofs only [m_impl_checkTyping_L2,m_impl_checkTyping_B2,dge,cond_false,m_impl_checkTyping_A2])
    rw [k2]
    cases (List.range t.net.agents.length).all (fitsD s t) <;> rfl
end
theorem validSig_parts {s:DSignature} (hv:validSig s=true):validDs s.datas=true∧s.defs.length≤24:=by
  unfold validSig at hv; simp only [Bool.and_eq_true,decide_eq_true_eq] at hv; exact ⟨hv.1,hv.2.1⟩
def szTypedNetS (xs:List DTypedNet):Nat:=xs.length+(xs.map szTypedNet).sum
theorem rootTy {t:DTypedNet} (h:shapeD t=true):getI t.types 0=some (tyRow t 0)∧getI (tyRow t 0) 0=some (tyAt t 0 0):=by
  have S:=shapeOk h
  have h1:=S.good.one
  have hp:=S.good.pos (S.ag (i:=0) (by omega))
  exact ⟨S.get (i:=0) (by omega),getI_D (xs:=tyRow t 0) (k:=0) (by rw [S.row 0 (by omega)]; exact hp) default⟩
noncomputable def bookD (s:DSignature) (b:List DTypedNet):Nat→Nat→Int
  |0,_=>0
  |m+1,k=>let t:=b.getD k default; let c:=bif shapeD t then checkD s t else 1
    if c=0 then (bif decide (tyAt t 0 0=s.defs.getD k default) then bookD s b m (k+1) else 8) else c
theorem checkD_vals (s:DSignature) (t:DTypedNet) (h:(bif shapeD t then checkD s t else 1)=0):shapeD t=true:=by
  cases hs:shapeD t with
  |true=>rfl
  |false=>rw [hs] at h; cases h
theorem bookK {s:DSignature} {b:List DTypedNet} {L:Nat→Int→Option Int} (hl:b.length=s.defs.length)
    (h :∀g (k:Nat) (hk:k < b.length),L (g+1) (k:Int)=(some (bif shapeD (b.getD k default) then checkD s (b.getD k default) else 1)).bind fun y=>bif y != 0 then some y else (getI (b.getD k default).types 0).bind fun x=>(getI x 0).bind fun z=>(getI s.defs (k:Int)).bind fun d=>(some (decide (z=d))).bind fun q=>bif q then L g ((k:Int)+1) else some 8)
    (he :∀g,L (g+1) (b.length:Int)=some 0):L (b.length+1) 0=some (bookD s b b.length 0):=by
  have key :∀(m k g:Nat),k+m=b.length→m < g→L g (k:Int)=some (bookD s b m k):=by
    intro m
    induction m with
    |zero=>
      intro k g hk hg
      obtain ⟨g,rfl⟩ :∃q,g=q+1:=⟨g - 1,by omega⟩
      obtain rfl:k=b.length:=by omega
      rw [he]; rfl
    |succ m ih=>
      intro k g hk hg
      obtain ⟨g,rfl⟩ :∃q,g=q+1:=⟨g - 1,by omega⟩
      rw [h g k (by omega),Option.bind_some]
      unfold bookD
      simp only
      by_cases hc:(bif shapeD (b.getD k default) then checkD s (b.getD k default) else 1)=0
      · obtain ⟨r1,r2⟩:=rootTy (checkD_vals s _ hc)
        rw [if_pos hc,hc,show ((0:Int) != 0)=false from rfl,cond_false,r1,Option.bind_some,r2,Option.bind_some,getI_D (show k < s.defs.length by omega) default,Option.bind_some,Option.bind_some]
        cases decide (tyAt (b.getD k default) 0 0=s.defs.getD k default) with
        |false=>rfl
        |true=>rw [cond_true,cond_true]; exact ih (k+1) g (by omega) (by omega)
      · rw [if_neg hc,show ((bif shapeD (b.getD k default) then checkD s (b.getD k default) else 1) != 0)=true by simpa using hc,cond_true]
  exact key b.length 0 (b.length+1) (by omega) (by omega)
noncomputable def checkBook (s:DSignature) (b:List DTypedNet):Int:=bif validSig s then (bif decide (b.length=s.defs.length) then bookD s b b.length 0 else 1) else 1
theorem small_at {b:List DTypedNet} (hb:szTypedNetS b≤1048576) {k:Nat} (hk:k < b.length):Small (b.getD k default).net.agents:=by
  have e:b.getD k default=b[k]:=by simp [List.getD,hk]
  have:=sum_mem (f:=szTypedNet) (List.getElem_mem hk)
  have e2:szTypedNet b[k] = szNet b[k].net+szTypeSS b[k].types:=rfl
  unfold szTypedNetS at hb
  rw [e]
  show szNet b[k].net≤_
  omega
theorem p_sCheckTypedBook (s:DSignature) (b:List DTypedNet) (hs:szSignature s≤1048576) (hb:szTypedNetS b≤1048576):m_spec_CheckTypedBook s b=some (checkBook s b):=by
  unfold m_spec_CheckTypedBook m_spec_l20Book checkBook
  rw [p_sSignature s hs,Option.bind_some,bne_nat]
  cases hv:validSig s with
  |false=>rfl
  |true=>
    rw [cond_true,cond_true]
    by_cases hl:b.length=s.defs.length
    · rw [decide_eq_true hl,Bool.not_true,cond_false,cond_true,bookK (L:=m_spec_l20Book_L1 s b m_spec_l20Book_A1) hl
        (fun g k hk=>by
          simp -implicitDefEqProofs only [m_spec_l20Book_L1,m_spec_l20Book_B1,dlt hk,cond_true,getI_D hk default,Option.bind_some,p_sCheck hs (small_at hb hk),hv,p_sSameTy _ _ _ (Nat.le_refl _)])
        (fun g=>by simp -implicitDefEqProofs only [m_spec_l20Book_L1,m_spec_l20Book_B1,dge,cond_false,m_spec_l20Book_A1]),Option.bind_some]
    · rw [decide_eq_false hl]; rfl
theorem p_iCheckTypedBook (s:DSignature) (b:List DTypedNet) (hs:szSignature s≤1048576) (hb:szTypedNetS b≤1048576):m_impl_CheckTypedBook s b=some (checkBook s b):=by
  unfold m_impl_CheckTypedBook checkBook
  rw [p_iValidSignature s hs,Option.bind_some,bne_nat]
  cases hv:validSig s with
  |false=>rfl
  |true=>
    obtain ⟨h1,h2⟩:=validSig_parts hv
    rw [cond_true,cond_true]
    by_cases hl:b.length=s.defs.length
    · rw [decide_eq_true hl,Bool.not_true,cond_false,cond_true,bookK (L:=m_impl_CheckTypedBook_L1 s b m_impl_CheckTypedBook_A1) hl
        (fun g k hk=>by
          simp -implicitDefEqProofs only [m_impl_CheckTypedBook_L1,m_impl_CheckTypedBook_B1,dlt hk,cond_true,getI_D hk default,Option.bind_some,p_iCheck h1 h2 (small_at hb hk),p_iSameTy _ _ _ (Nat.le_refl _)])
        (fun g=>by simp -implicitDefEqProofs only [m_impl_CheckTypedBook_L1,m_impl_CheckTypedBook_B1,dge,cond_false,m_impl_CheckTypedBook_A1])]
    · rw [decide_eq_false hl]; rfl
end
section
open Go.RowKit
theorem Blk.only {w w':World} {g lo hi:Nat} {t:TypeId} {cs:Array Value} (h:Blk w g t cs) (ho:OnlyIn lo hi w w') (hg:g < lo ∨ hi≤g):Blk w' g t cs:=(ho.block g hg).trans h
end
section
open Go.RowKit
theorem ownSg {e e':TypeId} {w:World} {lo:Nat} {v u:Value} {d:DSignature} {bs cs:List Nat} (h:OwN e dataOw 2 w lo v d.datas bs) (h':OwN e' typeOw 3 w lo u d.defs cs) (D:Ap bs cs):OwT signatureOw w (.agg #[v,u]) d lo w.heap.size:=by
  obtain ⟨A,n,c,l,rfl,h1,h2,h3,r⟩:=h.own1 dataOw_ok
  obtain ⟨A',n',c',l',rfl,h1',h2',h3',r'⟩:=h'.own1 typeOw_ok
  refine ⟨[.slice A n c,.slice A' n' c'],l ++ l',rfl,⟨A,n,c,A',n',c',l,l',rfl,⟨h1,r⟩,⟨h1',r'⟩,rfl⟩,List.nodup_append.2 ⟨h2,h2',fun a ha b hb e=>D a (h3 a ha) (e ▸ h3' b hb)⟩,fun b hb=>?_⟩
  rcases List.mem_append.1 hb with hb|hb
  · exact ⟨h.lo_ b (h3 b hb),h.hi b (h3 b hb)⟩
  · exact ⟨h'.lo_ b (h3' b hb),h'.hi b (h3' b hb)⟩
theorem szSignature_v (v:Value) (x:DSignature) (left:Int) (w:World) {B:Nat} (h:RdT signatureRd w B v x) (hB:B≤w.heap.size) (h0:0≤left) (h1:left≤1048576) (ho:OkSig x:=by assumption) :
    Calls Tryz.prog 7 #[v,.int .i64 left] w fun e w'=>e=.returned (.int .i64 (szL left (szSignature x)))∧Below w.heap.size w w':=
  c_m_laws_szSignature x left _ (p_szSignature x left ho h0 h1) v w (h.more signatureRd_ok hB)
theorem toSignature_v (v:Value) (x:DSignature) (w:World) {B:Nat} (h:RdT signatureRd w B v x) (hB:B≤w.heap.size) (hs:szSignature x≤1048576) :
    Calls Tryz.prog 10 #[v] w fun e w'=>Ret1 (fun v'=>OwT signatureOw w' v' x w.heap.size w'.heap.size) e∧Below w.heap.size w w':=
  (c_m_laws_toSignature x _ (p_toSignature x hs) v w (h.more signatureRd_ok hB)).mono fun e w' ⟨⟨v0,bs0,v1,bs1,he,h1,h2,D⟩,hb⟩=>⟨⟨_,he,ownSg h1 h2 D⟩,hb⟩
theorem eqSignature_v (v u:Value) (x y:DSignature) (w:World) {B B':Nat} (h:RdT signatureRd w B v x) (h':RdT signatureRd w B' u y) (hB:B≤w.heap.size) (hB':B'≤w.heap.size) :
    Calls Tryz.prog 13 #[v,u] w fun e w'=>e=.returned (.bool (decide (x=y)))∧Below w.heap.size w w':=
  c_m_laws_eqSignature x y _ (p_eqSignature x y) v u w (h.more signatureRd_ok hB) (h'.more signatureRd_ok hB')
end
section
open Go.RowKit
def OkTnS (xs:List DTypedNet):Prop:=xs.length≤maxLen∧∀y∈xs,OkTySS y.types
theorem p_szTypedNetS (xs:List DTypedNet) (left:Int) (ho:OkTnS xs) (h0:0≤left) (h1:left≤1048576):m_laws_szTypedNetS xs left=some (szL left (szTypedNetS xs)):=by
  unfold m_laws_szTypedNetS szTypedNetS
  have hl:=maxLen_le ho.1
  rw [ck_ok (by omega),Option.bind_some]
  by_cases hn:left - (xs.length:Int) < 0
  · rw [decide_eq_true hn,cond_true,szL_neg (by omega)]
  · rw [decide_eq_false hn,cond_false]
    have key:=subI (L:=m_laws_szTypedNetS_L1 xs m_laws_szTypedNetS_A1) (d:=xs) (s:=szTypedNet) (ok:=fun y=>OkTySS y.types)
      (fun g k x left hx h0 h1=>by
        have hm:=List.mem_of_getElem? hx
        simp -implicitDefEqProofs only [m_laws_szTypedNetS_L1,m_laws_szTypedNetS_B1,dlt (lt_of_some hx),cond_true,getI_nat hx,Option.bind_some,p_szTypedNet x left (ho.2 x hm) h0 h1])
      (fun g left=>by simp -implicitDefEqProofs only [m_laws_szTypedNetS_L1,m_laws_szTypedNetS_B1,dge,cond_false,m_laws_szTypedNetS_A1])
      xs.length 0 (xs.length+1) (left - xs.length) (by omega) (by omega) (by omega) (by omega)
    refine key.trans ?_
    rw [List.drop_zero]
    congr 1
    rw [← szL_step,szL_pos hn,if_neg hn]
theorem p_eqTypedNetS (xs ys:List DTypedNet):m_laws_eqTypedNetS xs ys=some (decide (xs=ys)):=by
  unfold m_laws_eqTypedNetS
  rw [bne_nat]
  by_cases hl:xs.length=ys.length
  · rw [decide_eq_true hl,Bool.not_true,cond_false]
    exact rowEq (L:=m_laws_eqTypedNetS_L1 xs ys m_laws_eqTypedNetS_A1) (q:=m_laws_eqTypedNet) hl (fun x hx y=>p_eqTypedNet x y)
      (fun g k hx hy=>by simp -implicitDefEqProofs only [m_laws_eqTypedNetS_L1,m_laws_eqTypedNetS_B1,dlt hx,cond_true,getI_nat (List.getElem?_eq_getElem hx),getI_nat (List.getElem?_eq_getElem hy),Option.bind_some])
      (fun g=>by simp -implicitDefEqProofs only [m_laws_eqTypedNetS_L1,m_laws_eqTypedNetS_B1,dge,cond_false,m_laws_eqTypedNetS_A1])
  · rw [decide_eq_false hl,Bool.not_false,cond_true,decide_len hl]
theorem p_toTypedNetS (xs:List DTypedNet) (hs:szTypedNetS xs≤1048576):m_laws_toTypedNetS xs=some xs:=by
  unfold szTypedNetS at hs
  unfold m_laws_toTypedNetS
  rw [mustP_ok (by omega),Option.bind_some]
  exact copyI (L:=m_laws_toTypedNetS_L1 xs m_laws_toTypedNetS_A1) (xs:=xs) (K:=some)
    (fun g k acc hk hg=>by
      have hm:=sum_mem (f:=szTypedNet) (List.getElem_mem hk)
      simp -implicitDefEqProofs only [m_laws_toTypedNetS_L1,m_laws_toTypedNetS_B1,dlt hk,cond_true,getI_lt hk,Option.bind_some,hg,p_toTypedNet xs[k] (by omega)])
    (fun g acc=>by simp -implicitDefEqProofs only [m_laws_toTypedNetS_L1,m_laws_toTypedNetS_B1,dge,cond_false,m_laws_toTypedNetS_A1])
end
section
open Go.RowKit
theorem szTypedNetS_v (v:Value) (x:List DTypedNet) (left:Int) (w:World) {B:Nat} (h:RdS typedNetRd 2 w B v x) (hB:B≤w.heap.size) (h0:0≤left) (h1:left≤1048576) (ho:OkTnS x:=by assumption) :
    Calls Tryz.prog 15 #[v,.int .i64 left] w fun e w'=>e=.returned (.int .i64 (szL left (szTypedNetS x)))∧Below w.heap.size w w':=
  c_m_laws_szTypedNetS x left _ (p_szTypedNetS x left ho h0 h1) v w (h.more typedNetRd_ok hB)
theorem toTypedNetS_v (v:Value) (x:List DTypedNet) (w:World) {B:Nat} (h:RdS typedNetRd 2 w B v x) (hB:B≤w.heap.size) (hs:szTypedNetS x≤1048576) :
    Calls Tryz.prog 17 #[v] w fun e w'=>Ret1 (fun v'=>OwS typedNetOw 2 w' v' x w.heap.size w'.heap.size) e∧Below w.heap.size w w':=
  (c_m_laws_toTypedNetS x _ (p_toTypedNetS x hs) v w (h.more typedNetRd_ok hB)).mono fun e w' ⟨⟨v0,bs0,he,h1⟩,hb⟩=>⟨⟨_,he,by
    obtain ⟨A,n,c,l,rfl,a1,a2,a3,r⟩:=h1.own1 typedNetOw_ok
    exact ⟨A,n,c,l,rfl,a1,a2,fun b hb=>⟨h1.lo_ b (a3 b hb),h1.hi b (a3 b hb)⟩,r⟩⟩,hb⟩
theorem eqTypedNetS_v (v u:Value) (x y:List DTypedNet) (w:World) {B B':Nat} (h:RdS typedNetRd 2 w B v x) (h':RdS typedNetRd 2 w B' u y) (hB:B≤w.heap.size) (hB':B'≤w.heap.size) :
    Calls Tryz.prog 19 #[v,u] w fun e w'=>e=.returned (.bool (eqL x y))∧Below w.heap.size w w':=
  c_m_laws_eqTypedNetS x y _ (p_eqTypedNetS x y) v u w (h.more typedNetRd_ok hB) (h'.more typedNetRd_ok hB')
theorem specCheckTypedBook_v (v u:Value) (x:DSignature) (y:List DTypedNet) (w:World) {B B':Nat} (h:RdT signatureRd w B v x) (h':RdS typedNetRd 2 w B' u y) (hB:B≤w.heap.size) (hB':B'≤w.heap.size) (hs:szSignature x≤1048576) (hs':szTypedNetS y≤1048576) :
    Calls Tryz.prog 16 #[v,u] w fun e w'=>e=.returned (.int .i64 (checkBook x y))∧Below w.heap.size w w':=
  c_m_spec_CheckTypedBook x y _ (p_sCheckTypedBook x y hs hs') v u w (h.more signatureRd_ok hB) (h'.more typedNetRd_ok hB')
theorem implCheckTypedBook_v (v u:Value) (x:DSignature) (y:List DTypedNet) (w:World) {B B':Nat} (h:RdT signatureRd w B v x) (h':RdS typedNetRd 2 w B' u y) (hB:B≤w.heap.size) (hB':B'≤w.heap.size) (hs:szSignature x≤1048576) (hs':szTypedNetS y≤1048576) :
    Calls Tryz.prog 18 #[v,u] w fun e w'=>e=.returned (.int .i64 (checkBook x y))∧Below w.heap.size w w':=
  c_m_impl_CheckTypedBook x y _ (p_iCheckTypedBook x y hs hs') v u w (h.more signatureRd_ok hB) (h'.more typedNetRd_ok hB')
end
section
open Go.RowKit
set_option maxRecDepth 100000
set_option maxHeartbeats 8000000 in
theorem walk_CheckTypedBook (w:World) (v0:Value) (sg:DSignature) (R0:RdT signatureRd w w.heap.size v0 sg) (ho0:OkSig sg) (v1:Value) (b:List DTypedNet) (R1:RdS typedNetRd 2 w w.heap.size v1 b) (ho1:OkTnS b) :
    Calls Tryz.prog 4 #[v0,v1] w fun e w'=>e=.returned (.bool true)∧Below w.heap.size w w':=by
  obtain ⟨a0A0,a0n0,a0c0,a0A1,a0n1,a0c1,rfl⟩ :∃a0A0 a0n0 a0c0 a0A1 a0n1 a0c1,v0=.agg #[.slice a0A0 a0n0 a0c0,.slice a0A1 a0n1 a0c1]:=by obtain ⟨cs,rfl,⟨A0,n0,c0,A1,n1,c1,rfl,_⟩⟩:=R0; exact ⟨A0,n0,c0,A1,n1,c1,rfl⟩
  obtain ⟨a1A,a1n,a1c,rfl⟩ :∃A n c,v1=.slice A n c:=by obtain ⟨A,n,c,e,_⟩:=R1; exact ⟨A,n,c,e⟩
  have la1:a1n=b.length:=by obtain ⟨A,n,c,e,h,_⟩:=R1; injection e with _ e2 _; rw [e2]; exact h.len
  subst la1
  by_cases d0:(szSignature sg:Int)≤1048576
  case neg=>
   have T:=Below.refl w.heap.size w
   have T:Below w.heap.size w (w.alloc (.cells #[.slice a0A0 a0n0 a0c0,.slice a0A1 a0n1 a0c1] 25)):=T.alloc (by first|exact Nat.le_refl _|(simp; done)|(simp; omega)) _
   have B0:Blk (w.alloc (.cells #[.slice a0A0 a0n0 a0c0,.slice a0A1 a0n1 a0c1] 25)) (w.heap.size) 25 #[.slice a0A0 a0n0 a0c0,.slice a0A1 a0n1 a0c1]:=by have:=Blk.new w 25 #[.slice a0A0 a0n0 a0c0,.slice a0A1 a0n1 a0c1]; simpa using this
   have zb0:(w.alloc (.cells #[.slice a0A0 a0n0 a0c0,.slice a0A1 a0n1 a0c1] 25)).heap.size=w.heap.size+1:=by simp
   go_enter Tryz.func4,Tryz.ntmps4
   go_wp2_with fail
   refine (szSignature_v _ sg (1048576) _ (R0.below signatureRd_ok T) T.size (by omega) (by omega)).mono ?_
   rw [szL_neg (by omega)]
   rintro e w1 ⟨rfl,b1⟩
   have z1:=b1.size
   have B0:=B0.below b1 (by omega)
   have T:=T.trans (b1.mono (by omega))
   have gB0:=B0.cell
   go_wp2_with fail
   go_ret
   exact ⟨rfl,T⟩
  by_cases d1:(szTypedNetS b:Int)≤1048576 - (szSignature sg:Int)
  case neg=>
   have T:=Below.refl w.heap.size w
   have T:Below w.heap.size w (w.alloc (.cells #[.slice a0A0 a0n0 a0c0,.slice a0A1 a0n1 a0c1] 25)):=T.alloc (by first|exact Nat.le_refl _|(simp; done)|(simp; omega)) _
   have B0:Blk (w.alloc (.cells #[.slice a0A0 a0n0 a0c0,.slice a0A1 a0n1 a0c1] 25)) (w.heap.size) 25 #[.slice a0A0 a0n0 a0c0,.slice a0A1 a0n1 a0c1]:=by have:=Blk.new w 25 #[.slice a0A0 a0n0 a0c0,.slice a0A1 a0n1 a0c1]; simpa using this
   have zb0:(w.alloc (.cells #[.slice a0A0 a0n0 a0c0,.slice a0A1 a0n1 a0c1] 25)).heap.size=w.heap.size+1:=by simp
   go_enter Tryz.func4,Tryz.ntmps4
   go_wp2_with fail
   refine (szSignature_v _ sg (1048576) _ (R0.below signatureRd_ok T) T.size (by omega) (by omega)).mono ?_
   rw [szL_pos (by omega)]
   rintro e w1 ⟨rfl,b1⟩
   have z1:=b1.size
   have B0:=B0.below b1 (by omega)
   have T:=T.trans (b1.mono (by omega))
   have gB0:=B0.cell
   go_wp2_with fail
   refine (szTypedNetS_v _ b (1048576 - (szSignature sg:Int)) _ (R1.below typedNetRd_ok T) T.size (by omega) (by omega)).mono ?_
   rw [szL_neg (by omega)]
   rintro e w2 ⟨rfl,b2⟩
   have z2:=b2.size
   have B0:=B0.below b2 (by omega)
   have T:=T.trans (b2.mono (by omega))
   clear gB0
   have gB0:=B0.cell
   go_wp2_with fail
   go_ret
   exact ⟨rfl,T⟩
  have s0:szSignature sg≤1048576:=by omega
  have s1:szTypedNetS b≤1048576:=by omega
  have qa1:eqL b b=true:=decide_eq_true rfl
  have T:=Below.refl w.heap.size w
  have T:Below w.heap.size w (w.alloc (.cells #[.slice a0A0 a0n0 a0c0,.slice a0A1 a0n1 a0c1] 25)):=T.alloc (by first|exact Nat.le_refl _|(simp; done)|(simp; omega)) _
  have B0:Blk (w.alloc (.cells #[.slice a0A0 a0n0 a0c0,.slice a0A1 a0n1 a0c1] 25)) (w.heap.size) 25 #[.slice a0A0 a0n0 a0c0,.slice a0A1 a0n1 a0c1]:=by have:=Blk.new w 25 #[.slice a0A0 a0n0 a0c0,.slice a0A1 a0n1 a0c1]; simpa using this
  have zb0:(w.alloc (.cells #[.slice a0A0 a0n0 a0c0,.slice a0A1 a0n1 a0c1] 25)).heap.size=w.heap.size+1:=by simp
  go_enter Tryz.func4,Tryz.ntmps4
  go_wp2_with fail
  refine (szSignature_v _ sg (1048576) _ (R0.below signatureRd_ok T) T.size (by omega) (by omega)).mono ?_
  rw [szL_pos (by omega)]
  rintro e w1 ⟨rfl,b1⟩
  have z1:=b1.size
  have B0:=B0.below b1 (by omega)
  have T:=T.trans (b1.mono (by omega))
  have gB0:=B0.cell
  go_wp2_with fail
  refine (szTypedNetS_v _ b (1048576 - (szSignature sg:Int)) _ (R1.below typedNetRd_ok T) T.size (by omega) (by omega)).mono ?_
  rw [szL_pos (by omega)]
  rintro e w2 ⟨rfl,b2⟩
  have z2:=b2.size
  have B0:=B0.below b2 (by omega)
  have T:=T.trans (b2.mono (by omega))
  clear gB0
  have gB0:=B0.cell
  go_wp2_with fail
  refine (toSignature_v _ sg _ (R0.below signatureRd_ok T) T.size s0).mono ?_
  rintro e w3 ⟨⟨t1,rfl,p2⟩,b3⟩
  have z3:=b3.size
  have B0:=B0.below b3 (by omega)
  have T:=T.trans (b3.mono (by omega))
  clear gB0
  have gB0:=B0.cell
  go_wp2_with fail
  refine (toTypedNetS_v _ b _ (R1.below typedNetRd_ok T) T.size s1).mono ?_
  rintro e w4 ⟨⟨t3,rfl,p4⟩,b4⟩
  have z4:=b4.size
  have B0:=B0.below b4 (by omega)
  have p2:=p2.below signatureOw_ok b4 (by omega)
  have T:=T.trans (b4.mono (by omega))
  clear gB0
  have gB0:=B0.cell
  go_wp2_with fail
  refine (specCheckTypedBook_v _ _ sg b _ (p2.reads (signatureOw_reads (w4).heap.size) (by omega)) (p4.reads (typedNetOw_reads (w4).heap.size) (by omega)) (Nat.le_refl _) (Nat.le_refl _) s0 s1).mono ?_
  rintro e w5 ⟨rfl,b5⟩
  have z5:=b5.size
  have B0:=B0.below b5 (by omega)
  have p2:=p2.below signatureOw_ok b5 (by omega)
  have p4:=p4.below typedNetOw_ok b5 (by omega)
  have T:=T.trans (b5.mono (by omega))
  clear gB0
  have gB0:=B0.cell
  clear p2
  clear p4
  go_wp2_with fail
  refine (toSignature_v _ sg _ (R0.below signatureRd_ok T) T.size s0).mono ?_
  rintro e w6 ⟨⟨t6,rfl,p7⟩,b6⟩
  have z6:=b6.size
  have B0:=B0.below b6 (by omega)
  have T:=T.trans (b6.mono (by omega))
  clear gB0
  have gB0:=B0.cell
  obtain ⟨l9A0,l9n0,l9c0,l9A1,l9n1,l9c1,rfl⟩ :∃l9A0 l9n0 l9c0 l9A1 l9n1 l9c1,t6=.agg #[.slice l9A0 l9n0 l9c0,.slice l9A1 l9n1 l9c1]:=by obtain ⟨cs,bs,rfl,⟨A0,n0,c0,A1,n1,c1,b0,b1,rfl,_⟩,_⟩:=p7; exact ⟨A0,n0,c0,A1,n1,c1,rfl⟩
  have b7:Below w6.heap.size w6 (w6.alloc (.cells #[.slice l9A0 l9n0 l9c0,.slice l9A1 l9n1 l9c1] 38)):=(Below.refl _ _).alloc (Nat.le_refl _) _
  have z7:(w6.alloc (.cells #[.slice l9A0 l9n0 l9c0,.slice l9A1 l9n1 l9c1] 38)).heap.size=w6.heap.size+1:=World.size_alloc _ _
  have B0:=B0.below b7 (by omega)
  have p7:=p7.below signatureOw_ok b7 (by omega)
  have T:=T.trans (b7.mono (by omega))
  have X8:Blk (w6.alloc (.cells #[.slice l9A0 l9n0 l9c0,.slice l9A1 l9n1 l9c1] 38)) w6.heap.size 38 #[.slice l9A0 l9n0 l9c0,.slice l9A1 l9n1 l9c1]:=Blk.new _ _ _
  clear gB0
  have gB0:=B0.cell
  have gX8:=X8.cell
  go_wp2_with fail
  refine (toTypedNetS_v _ b _ (R1.below typedNetRd_ok T) T.size s1).mono ?_
  rintro e w8 ⟨⟨t10,rfl,p11⟩,b8⟩
  have z8:=b8.size
  have B0:=B0.below b8 (by omega)
  have X8:=X8.below b8 (by omega)
  have p7:=p7.below signatureOw_ok b8 (by omega)
  have T:=T.trans (b8.mono (by omega))
  clear gB0
  clear gX8
  have gB0:=B0.cell
  have gX8:=X8.cell
  go_wp2_with fail
  refine (implCheckTypedBook_v _ _ sg b _ (p7.reads (signatureOw_reads (w8).heap.size) (by omega)) (p11.reads (typedNetOw_reads (w8).heap.size) (by omega)) (Nat.le_refl _) (Nat.le_refl _) s0 s1).mono ?_
  rintro e w9 ⟨rfl,b9⟩
  have z9:=b9.size
  have B0:=B0.below b9 (by omega)
  have X8:=X8.below b9 (by omega)
  have p7:=p7.below signatureOw_ok b9 (by omega)
  have p11:=p11.below typedNetOw_ok b9 (by omega)
  have T:=T.trans (b9.mono (by omega))
  clear gB0
  clear gX8
  have gB0:=B0.cell
  have gX8:=X8.cell
  go_wp2_with fail
  have T:=T.drew
  have B0:=B0.drew
  have X8:=X8.drew
  have p7:=p7.keep signatureOw_ok (w':=w9.drew) (fun _ _ _=>rfl)
  have p11:=p11.keep typedNetOw_ok (w':=w9.drew) (fun _ _ _=>rfl)
  have zd10:w9.drew.heap.size=w9.heap.size:=rfl
  go_region_held3 (fun w'=>w'.cell? ⟨w6.heap.size,0,none⟩=some (.slice l9A0 l9n0 l9c0)∧w'.cell? ⟨w6.heap.size,1,none⟩=some (.slice l9A1 l9n1 l9c1)∧w'.cell? ⟨w.heap.size,0,none⟩=some (.slice a0A0 a0n0 a0c0)∧w'.cell? ⟨w.heap.size,1,none⟩=some (.slice a0A1 a0n1 a0c1)) (exact ⟨gX8 0,gX8 1,gB0 0,gB0 1⟩) (first
   |(go_at_call 10; refine (toSignature_v _ sg _ (R0.below signatureRd_ok T) T.size s0).mono ?_; rintro e w11 ⟨⟨t13,rfl,p14⟩,b11⟩; have z11:=b11.size; have B0:=B0.below b11 (by omega); have X8:=X8.below b11 (by omega); have p7:=p7.below signatureOw_ok b11 (by omega); have p11:=p11.below typedNetOw_ok b11 (by omega); have T:=T.trans (b11.mono (by omega)); clear gB0; clear gX8; have gB0:=B0.cell; have gX8:=X8.cell)
   |(go_at_call 13; refine (eqSignature_v _ _ _ _ _ (p7.reads (signatureOw_reads (w11).heap.size) (by omega)) (p14.reads (signatureOw_reads (w11).heap.size) (by omega)) (Nat.le_refl _) (Nat.le_refl _)).mono ?_; rintro e w12 ⟨rfl,b12⟩; have z12:=b12.size; have B0:=B0.below b12 (by omega); have X8:=X8.below b12 (by omega); have p7:=p7.below signatureOw_ok b12 (by omega); have p11:=p11.below typedNetOw_ok b12 (by omega); have p14:=p14.below signatureOw_ok b12 (by omega); have T:=T.trans (b12.mono (by omega)); clear gB0; clear gX8; have gB0:=B0.cell; have gX8:=X8.cell))
  go_wp2_with fail
  refine (toTypedNetS_v _ b _ (R1.below typedNetRd_ok T) T.size s1).mono ?_
  rintro e w13 ⟨⟨t15,rfl,p16⟩,b13⟩
  have z13:=b13.size
  have B0:=B0.below b13 (by omega)
  have X8:=X8.below b13 (by omega)
  have p7:=p7.below signatureOw_ok b13 (by omega)
  have p11:=p11.below typedNetOw_ok b13 (by omega)
  have p14:=p14.below signatureOw_ok b13 (by omega)
  have T:=T.trans (b13.mono (by omega))
  clear gB0
  clear gX8
  have gB0:=B0.cell
  have gX8:=X8.cell
  go_wp2_with fail
  refine (eqTypedNetS_v _ _ _ _ _ (p11.reads (typedNetOw_reads (w13).heap.size) (by omega)) (p16.reads (typedNetOw_reads (w13).heap.size) (by omega)) (Nat.le_refl _) (Nat.le_refl _)).mono ?_
  rintro e w14 ⟨rfl,b14⟩
  have z14:=b14.size
  have B0:=B0.below b14 (by omega)
  have X8:=X8.below b14 (by omega)
  have p7:=p7.below signatureOw_ok b14 (by omega)
  have p11:=p11.below typedNetOw_ok b14 (by omega)
  have p14:=p14.below signatureOw_ok b14 (by omega)
  have p16:=p16.below typedNetOw_ok b14 (by omega)
  have T:=T.trans (b14.mono (by omega))
  clear gB0
  clear gX8
  have gB0:=B0.cell
  have gX8:=X8.cell
  go_wp2_with fail
  go_ret
  exact ⟨rfl,T⟩
end
section
open Go.RowKit Go.ChangeShapes Go.WideShapes Go.Deep Go.WideMaps
def Opens {α:Type} (P:Program) (t:TypeId) (R:Rd α):Prop:=∀(H:Type) (enc:TypeId × Value→H) (W:World) (fuel:Nat) (cs:List Value) (x:DataW H × List MemPlace),
  DataW.trod enc P W 0 (fun _=>true) true fuel t cs=some x→∃d,R W W.heap.size cs d
theorem opens_int {P:Program} {t:TypeId} (ht:P.underlying t=some (.int .i64)):Opens P t intRd:=fun H enc W fuel cs x h=>by
  obtain ⟨n,hc,_,_⟩:=DataW.trod_int ht h
  exact ⟨n,hc⟩
theorem spot_none {w:World} {a:Addr} {v:Value} (h:w.cell? a=some v):a.spot=none:=by
  unfold World.cell? at h
  split at h
  · cases hs:a.spot with
    |none=>rfl
    |some s=>simp [hs] at h
  · simp at h
theorem opens_slice {α:Type} {P:Program} {t e:TypeId} {R:Rd α} {sz:Nat} (ht:P.underlying t=some (.slice e)) (hsz:P.cellsOf e=sz) (hpos:0 < sz) (ok:RdOk R sz) (he:Opens P e R):Opens P t (slRd R sz):=fun H enc W fuel cs x h=>by
  rcases open_slice ht h with ⟨rfl,rfl⟩|⟨a,len,cap,m,n,D,Pl,rfl,hb,hl,hm,hmm,hx,hel⟩
  · exact ⟨[],none,0,0,rfl,SlAt.none_,Nat.le_refl _,Nat.zero_le _⟩
  · have hmc:len≤m:=by rw [hmm]; simp; omega
    have hel' :∀i,i < len→∃p:List Value × α,R W W.heap.size p.1 p.2∧∀j,j < sz→W.cell? (a.add (i * sz+j))=p.1[j]?:=fun i hi=>by
      obtain ⟨cs',hc,htr⟩:=hel i (by omega)
      obtain ⟨d,hd⟩:=he H enc W n cs' (D i,Pl i) htr
      obtain ⟨_,hlen,hat⟩:=World.cells?_some hc
      exact ⟨(cs',d),hd,fun j hj=>by
        have:=hat j (by rw [hsz]; exact hj)
        rw [hsz,Go.Deep.add_add] at this
        exact this⟩
    rcases Nat.eq_zero_or_pos len with h0|h0
    · subst h0
      exact ⟨[],some a,0,cap,rfl,SlAt.none_,Nat.zero_le _,hm⟩
    · have hne:Nonempty (List Value × α):=let ⟨p,_⟩:=hel' 0 h0; ⟨p⟩
      have hf :∃f:Nat→List Value × α,∀i,i < len→R W W.heap.size (f i).1 (f i).2∧∀j,j < sz→W.cell? (a.add (i * sz+j))=(f i).1[j]?:=by
        classical
        refine ⟨fun i=>if hi:i < len then Classical.choose (hel' i hi) else Classical.choice hne,fun i hi=>?_⟩
        simp only [dif_pos hi]
        exact Classical.choose_spec (hel' i hi)
      obtain ⟨f,hf⟩:=hf
      have hc0 :∃v,W.cell? a=some v:=by
        obtain ⟨hR,hc⟩:=hf 0 h0
        have hlR:=ok.len hR
        have h1:=hc 0 hpos
        have h2:a.add (0 * sz+0)=a:=by simp [Addr.add]
        rw [h2,List.getElem?_eq_getElem (by omega)] at h1
        exact ⟨_,h1⟩
      obtain ⟨v0,hv0⟩:=hc0
      have hsp:=spot_none hv0
      have hbl:=World.block_lt_of_cell? _ _ hv0
      have ea:a=⟨a.block,a.off,none⟩:=by cases a; simp_all
      refine ⟨(List.range len).map fun i=>(f i).2,some a,len,cap,rfl,⟨by simp,fun _=>⟨a.block,a.off,by rw [← ea],hbl,fun i x hx=>?_⟩⟩,hl,hm⟩
      have hi:i < len:=by simpa using lt_of_some hx
      have hx':(f i).2=x:=by simpa [hi] using hx
      subst hx'
      obtain ⟨hR,hc⟩:=hf i hi
      refine ⟨_,hR,fun j v hj=>?_⟩
      have hj':j < sz:=by have:=lt_of_some hj; rw [ok.len hR] at this; exact this
      have h1:=hc j hj'
      rw [hj] at h1
      have e2:a.add (i * sz+j)=⟨a.block,a.off+i * sz+j,none⟩:=by
        rw [ea]; simp only [Addr.add_lit]; congr 1; omega
      rw [← e2]
      exact h1
/-- An argument's value as its cells. -/
theorem opens_arg {α:Type} {P:Program} {t:TypeId} {R:Rd α} (h:Opens P t R) {H:Type} {enc:TypeId × Value→H} {W:World} {v:Value} {d:DataW H} {ps:List MemPlace} (ht:DataW.Trod enc P W 0 (fun _=>true) true t v d ps) :∃x,R W W.heap.size v.cells.toList x:=by
  obtain ⟨fuel,hf⟩:=ht
  exact h H enc W fuel _ _ hf
/-- A slice argument. -/
theorem open_sl {α:Type} {P:Program} {t e:TypeId} {R:Rd α} {sz:Nat} (h:Opens P t (slRd R sz)) (ht:P.underlying t=some (.slice e)) {r:Reach} {b0:Nat} {H:Type} {enc:TypeId × Value→H} {W:World} {v:Value} {d:DataW H} {ps:List MemPlace}
    (hv:Value.okWide P W r b0 t v) (hd:DataW.Trod enc P W 0 (fun _=>true) true t v d ps) :∃A n c x,v=.slice A n c∧SlAt R sz W W.heap.size A n x∧n≤c∧c≤maxLen:=by
  obtain ⟨A,n,c,rfl⟩:=okWide_slice ht hv
  obtain ⟨x,A',n',c',e,h1,h2,h3⟩:=opens_arg h hd
  simp [Value.cells] at e
  obtain ⟨rfl,rfl,rfl⟩:=e
  exact ⟨A,n,c,x,rfl,h1,h2,h3⟩
end
section
open Go.RowKit
theorem opens_ints:Opens Tryz.prog 60 (slRd intRd 1):=opens_slice Tryz.underlying60 (by kernel_rfl) (by decide) intRd_ok (opens_int Tryz.underlying2)
end
section
open Go.RowKit Go.ChangeShapes Go.WideShapes Go.Deep Go.WideMaps
theorem trod_fields {P:Program} {t:TypeId} {fs:Array Field} {H:Type} {enc:TypeId × Value→H} {W:World} {fuel:Nat} {cs:List Value} {x:DataW H × List MemPlace} (ht:P.underlying t=some (.struct fs)) (h:DataW.trod enc P W 0 (fun _=>true) true fuel t cs=some x) :
    cs.length=P.cellsOf t∧∃n,∀(i:Nat) (f:Field),fs[i]? = some f→∃y,DataW.trod enc P W 0 (fun _=>true) true n f.type ((cs.drop f.offset).take (P.cellsOf f.type))=some y:=by
  obtain ⟨xs,n,_,_,hl,hlen,hf⟩:=DataW.trod_struct ht h
  refine ⟨hl,n,fun i f hi=>?_⟩
  have hlt:i < fs.size:=(Array.getElem?_eq_some_iff.1 hi).1
  exact ⟨xs[i],by rw [hf i f hi]; exact List.getElem?_eq_getElem (by omega)⟩
/-- A struct argument. -/
theorem open_st {α:Type} {P:Program} {t:TypeId} {fs:Array Field} {R:Rd α} (h:Opens P t R) (ht:P.underlying t=some (.struct fs)) {r:Reach} {b0:Nat} {H:Type} {enc:TypeId × Value→H} {W:World} {v:Value} {d:DataW H} {ps:List MemPlace}
    (hv:Value.okWide P W r b0 t v) (hd:DataW.Trod enc P W 0 (fun _=>true) true t v d ps) :∃x,RdT R W W.heap.size v x:=by
  obtain ⟨cs,rfl,_⟩:=okWide_struct ht hv
  obtain ⟨x,hx⟩:=opens_arg h hd
  exact ⟨x,cs.toList,by simp,by simpa [Value.cells] using hx⟩
theorem len1 {α:Type} {l:List α} (h:l.length=1) :∃a0,l=[a0]:=by
  match l,h with
  |[a0],_=>exact ⟨a0,rfl⟩
theorem len2 {α:Type} {l:List α} (h:l.length=2) :∃a0 a1,l=[a0,a1]:=by
  match l,h with
  |[a0,a1],_=>exact ⟨a0,a1,rfl⟩
theorem len5 {α:Type} {l:List α} (h:l.length=5) :∃a0 a1 a2 a3 a4,l=[a0,a1,a2,a3,a4]:=by
  match l,h with
  |[a0,a1,a2,a3,a4],_=>exact ⟨a0,a1,a2,a3,a4,rfl⟩
theorem opens_Port:Opens Tryz.prog 289 portRd:=fun H enc W fuel cs x h=>by
  obtain ⟨hl,m,hf⟩:=trod_fields Tryz.underlying289 h
  replace hl:cs.length=2:=hl.trans (by kernel_rfl)
  obtain ⟨a0,a1,rfl⟩:=len2 hl
  obtain ⟨y0,h0⟩ :∃y,DataW.trod enc Tryz.prog W 0 (fun _=>true) true m 2 (([a0,a1].drop 0).take (Tryz.prog.cellsOf 2))=some y:=hf 0 _ rfl
  have k0:Tryz.prog.cellsOf 2=1:=by kernel_rfl
  rw [k0] at h0; simp only [List.drop_zero,List.drop_succ_cons,List.take_succ_cons,List.take_zero] at h0
  obtain ⟨d0,e0⟩:=opens_int Tryz.underlying2 H enc W _ _ _ h0
  unfold intRd at e0; simp only [List.cons.injEq,and_true] at e0
  obtain ⟨y1,h1⟩ :∃y,DataW.trod enc Tryz.prog W 0 (fun _=>true) true m 2 (([a0,a1].drop 1).take (Tryz.prog.cellsOf 2))=some y:=hf 1 _ rfl
  have k1:Tryz.prog.cellsOf 2=1:=by kernel_rfl
  rw [k1] at h1; simp only [List.drop_zero,List.drop_succ_cons,List.take_succ_cons,List.take_zero] at h1
  obtain ⟨d1,e1⟩:=opens_int Tryz.underlying2 H enc W _ _ _ h1
  unfold intRd at e1; simp only [List.cons.injEq,and_true] at e1
  subst e0; subst e1
  exact ⟨⟨d0,d1⟩,rfl⟩
theorem opens_PortS:Opens Tryz.prog 220 (slRd portRd 2):=opens_slice Tryz.underlying220 (by kernel_rfl) (by decide) portRd_ok opens_Port
theorem opens_Agent:Opens Tryz.prog 222 agentRd:=fun H enc W fuel cs x h=>by
  obtain ⟨hl,m,hf⟩:=trod_fields Tryz.underlying222 h
  replace hl:cs.length=5:=hl.trans (by kernel_rfl)
  obtain ⟨a0,a1,a2,a3,a4,rfl⟩:=len5 hl
  obtain ⟨y0,h0⟩ :∃y,DataW.trod enc Tryz.prog W 0 (fun _=>true) true m 2 (([a0,a1,a2,a3,a4].drop 0).take (Tryz.prog.cellsOf 2))=some y:=hf 0 _ rfl
  have k0:Tryz.prog.cellsOf 2=1:=by kernel_rfl
  rw [k0] at h0; simp only [List.drop_zero,List.drop_succ_cons,List.take_succ_cons,List.take_zero] at h0
  obtain ⟨d0,e0⟩:=opens_int Tryz.underlying2 H enc W _ _ _ h0
  unfold intRd at e0; simp only [List.cons.injEq,and_true] at e0
  obtain ⟨y1,h1⟩ :∃y,DataW.trod enc Tryz.prog W 0 (fun _=>true) true m 2 (([a0,a1,a2,a3,a4].drop 1).take (Tryz.prog.cellsOf 2))=some y:=hf 1 _ rfl
  have k1:Tryz.prog.cellsOf 2=1:=by kernel_rfl
  rw [k1] at h1; simp only [List.drop_zero,List.drop_succ_cons,List.take_succ_cons,List.take_zero] at h1
  obtain ⟨d1,e1⟩:=opens_int Tryz.underlying2 H enc W _ _ _ h1
  unfold intRd at e1; simp only [List.cons.injEq,and_true] at e1
  obtain ⟨y2,h2⟩ :∃y,DataW.trod enc Tryz.prog W 0 (fun _=>true) true m 2 (([a0,a1,a2,a3,a4].drop 2).take (Tryz.prog.cellsOf 2))=some y:=hf 2 _ rfl
  have k2:Tryz.prog.cellsOf 2=1:=by kernel_rfl
  rw [k2] at h2; simp only [List.drop_zero,List.drop_succ_cons,List.take_succ_cons,List.take_zero] at h2
  obtain ⟨d2,e2⟩:=opens_int Tryz.underlying2 H enc W _ _ _ h2
  unfold intRd at e2; simp only [List.cons.injEq,and_true] at e2
  obtain ⟨y3,h3⟩ :∃y,DataW.trod enc Tryz.prog W 0 (fun _=>true) true m 60 (([a0,a1,a2,a3,a4].drop 3).take (Tryz.prog.cellsOf 60))=some y:=hf 3 _ rfl
  have k3:Tryz.prog.cellsOf 60=1:=by kernel_rfl
  rw [k3] at h3; simp only [List.drop_zero,List.drop_succ_cons,List.take_succ_cons,List.take_zero] at h3
  obtain ⟨d3,A3,n3,c3,e3,g3,r3⟩:=opens_ints H enc W _ _ _ h3
  simp only [List.cons.injEq,and_true] at e3
  obtain ⟨y4,h4⟩ :∃y,DataW.trod enc Tryz.prog W 0 (fun _=>true) true m 220 (([a0,a1,a2,a3,a4].drop 4).take (Tryz.prog.cellsOf 220))=some y:=hf 4 _ rfl
  have k4:Tryz.prog.cellsOf 220=1:=by kernel_rfl
  rw [k4] at h4; simp only [List.drop_zero,List.drop_succ_cons,List.take_succ_cons,List.take_zero] at h4
  obtain ⟨d4,A4,n4,c4,e4,g4,r4⟩:=opens_PortS H enc W _ _ _ h4
  simp only [List.cons.injEq,and_true] at e4
  subst e0; subst e1; subst e2; subst e3; subst e4
  exact ⟨⟨d0,d1,d2,d3,d4⟩,A3,n3,c3,A4,n4,c4,rfl,⟨g3,r3⟩,⟨g4,r4⟩⟩
theorem opens_AgentS:Opens Tryz.prog 26 (slRd agentRd 5):=opens_slice Tryz.underlying26 (by kernel_rfl) (by decide) agentRd_ok opens_Agent
theorem opens_Net:Opens Tryz.prog 28 netRd:=fun H enc W fuel cs x h=>by
  obtain ⟨hl,m,hf⟩:=trod_fields Tryz.underlying28 h
  replace hl:cs.length=1:=hl.trans (by kernel_rfl)
  obtain ⟨a0,rfl⟩:=len1 hl
  obtain ⟨y0,h0⟩ :∃y,DataW.trod enc Tryz.prog W 0 (fun _=>true) true m 26 (([a0].drop 0).take (Tryz.prog.cellsOf 26))=some y:=hf 0 _ rfl
  have k0:Tryz.prog.cellsOf 26=1:=by kernel_rfl
  rw [k0] at h0; simp only [List.drop_zero,List.drop_succ_cons,List.take_succ_cons,List.take_zero] at h0
  obtain ⟨d0,A0,n0,c0,e0,g0,r0⟩:=opens_AgentS H enc W _ _ _ h0
  simp only [List.cons.injEq,and_true] at e0
  subst e0
  exact ⟨⟨d0⟩,A0,n0,c0,rfl,⟨g0,r0⟩⟩
end
section
open Go.RowKit Go.ChangeShapes Go.WideShapes Go.Deep Go.WideMaps
/-- Opened, up to a fuel. -/
def OpensL {α:Type} (m:Nat) (P:Program) (t:TypeId) (R:Rd α):Prop:=∀(H:Type) (enc:TypeId × Value→H) (W:World) (fuel:Nat) (cs:List Value) (x:DataW H × List MemPlace),fuel≤m→
  DataW.trod enc P W 0 (fun _=>true) true fuel t cs=some x→∃d,R W W.heap.size cs d
theorem opensL_all {α:Type} {P:Program} {t:TypeId} {R:Rd α} (h :∀m,OpensL m P t R):Opens P t R:=fun H enc W fuel cs x hx=>h fuel H enc W fuel cs x (Nat.le_refl _) hx
/-- Elements of a slice, whose own elements lie deeper. -/
theorem opensL_slice {α:Type} {m:Nat} {P:Program} {t e:TypeId} {R:Rd α} {sz:Nat} (ht:P.underlying t=some (.slice e)) (hsz:P.cellsOf e=sz) (hpos:0 < sz) (ok:RdOk R sz) (he:OpensL m P e R):OpensL m P t (slRd R sz):=fun H enc W fuel cs x hf h=>by
  rcases DataW.trod_slice ht h with ⟨rfl,rfl⟩|⟨a,len,cap,elems,rest,n,hfn,rfl,hx,hb,hl,hm,hlen,hel,_,_⟩
  · exact ⟨[],none,0,0,rfl,SlAt.none_,Nat.le_refl _,Nat.zero_le _⟩
  · have hel' :∀i,i < len→∃p:List Value × α,R W W.heap.size p.1 p.2∧∀j,j < sz→W.cell? (a.add (i * sz+j))=p.1[j]?:=fun i hi=>by
      have key:=hel i hi
      rw [List.getElem?_eq_getElem (by omega)] at key
      obtain ⟨cs',hc,htr⟩:=Option.bind_eq_some_iff.1 key
      obtain ⟨d,hd⟩:=he H enc W n cs' _ (by omega) htr
      obtain ⟨_,hlen,hat⟩:=World.cells?_some hc
      exact ⟨(cs',d),hd,fun j hj=>by
        have:=hat j (by rw [hsz]; exact hj)
        rw [hsz,Go.Deep.add_add] at this
        exact this⟩
    rcases Nat.eq_zero_or_pos len with h0|h0
    · subst h0
      exact ⟨[],some a,0,cap,rfl,SlAt.none_,Nat.zero_le _,hm⟩
    · have hne:Nonempty (List Value × α):=let ⟨p,_⟩:=hel' 0 h0; ⟨p⟩
      have hf :∃f:Nat→List Value × α,∀i,i < len→R W W.heap.size (f i).1 (f i).2∧∀j,j < sz→W.cell? (a.add (i * sz+j))=(f i).1[j]?:=by
        classical
        refine ⟨fun i=>if hi:i < len then Classical.choose (hel' i hi) else Classical.choice hne,fun i hi=>?_⟩
        simp only [dif_pos hi]
        exact Classical.choose_spec (hel' i hi)
      obtain ⟨f,hf⟩:=hf
      have hc0 :∃v,W.cell? a=some v:=by
        obtain ⟨hR,hc⟩:=hf 0 h0
        have hlR:=ok.len hR
        have h1:=hc 0 hpos
        have h2:a.add (0 * sz+0)=a:=by simp [Addr.add]
        rw [h2,List.getElem?_eq_getElem (by omega)] at h1
        exact ⟨_,h1⟩
      obtain ⟨v0,hv0⟩:=hc0
      have hsp:=spot_none hv0
      have hbl:=World.block_lt_of_cell? _ _ hv0
      have ea:a=⟨a.block,a.off,none⟩:=by cases a; simp_all
      refine ⟨(List.range len).map fun i=>(f i).2,some a,len,cap,rfl,⟨by simp,fun _=>⟨a.block,a.off,by rw [← ea],hbl,fun i x hx=>?_⟩⟩,hl,hm⟩
      have hi:i < len:=by simpa using lt_of_some hx
      have hx':(f i).2=x:=by simpa [hi] using hx
      subst hx'
      obtain ⟨hR,hc⟩:=hf i hi
      refine ⟨_,hR,fun j v hj=>?_⟩
      have hj':j < sz:=by have:=lt_of_some hj; rw [ok.len hR] at this; exact this
      have h1:=hc j hj'
      rw [hj] at h1
      have e2:a.add (i * sz+j)=⟨a.block,a.off+i * sz+j,none⟩:=by
        rw [ea]; simp only [Addr.add_lit]; congr 1; omega
      rw [← e2]
      exact h1
/-- Fields, with less fuel. -/
theorem trodL_fields {P:Program} {t:TypeId} {fs:Array Field} {H:Type} {enc:TypeId × Value→H} {W:World} {fuel:Nat} {cs:List Value} {x:DataW H × List MemPlace} (ht:P.underlying t=some (.struct fs)) (h:DataW.trod enc P W 0 (fun _=>true) true fuel t cs=some x) :
    cs.length=P.cellsOf t∧∃n,fuel=n+1∧∀(i:Nat) (f:Field),fs[i]? = some f→∃y,DataW.trod enc P W 0 (fun _=>true) true n f.type ((cs.drop f.offset).take (P.cellsOf f.type))=some y:=by
  obtain ⟨xs,n,hn,_,hl,hlen,hf⟩:=DataW.trod_struct ht h
  refine ⟨hl,n,hn,fun i f hi=>?_⟩
  have hlt:i < fs.size:=(Array.getElem?_eq_some_iff.1 hi).1
  exact ⟨xs[i],by rw [hf i f hi]; exact List.getElem?_eq_getElem (by omega)⟩
theorem opens_strM {P:Program} {t:TypeId} (ht:P.underlying t=some .string) {H:Type} {enc:TypeId × Value→H} {W:World} {fuel:Nat} {cs:List Value} {x:DataW H × List MemPlace} (h:DataW.trod enc P W 0 (fun _=>true) true fuel t cs=some x) :∃s:ByteArray,cs=[.string s]∧s.size≤maxLen:=by
  obtain ⟨n,hc,h1,h2⟩:=DataW.trod_string ht h
  exact ⟨n,hc,by first|exact h1|exact h2⟩
theorem SlAt.split {α:Type} {R:Rd α} {Q:α→Prop} {sz:Nat} {w:World} {B n:Nat} {A:Option Addr} {xs:List α} (h:SlAt (fun w B cs x=>R w B cs x∧Q x) sz w B A n xs):SlAt R sz w B A n xs∧∀x∈xs,Q x:=by
  refine ⟨⟨h.1,fun hn=>?_⟩,fun x hx=>?_⟩
  · obtain ⟨b,off,e,hb,hs⟩:=h.2 hn
    exact ⟨b,off,e,hb,fun i x hx=>by
      obtain ⟨cs,hR,hv⟩:=hs i x hx
      exact ⟨cs,hR.1,hv⟩⟩
  · obtain ⟨i,hi,rfl⟩:=List.getElem_of_mem hx
    have hn:0 < n:=by have:=h.1; omega
    obtain ⟨b,off,e,hb,hs⟩:=h.2 hn
    obtain ⟨cs,hR,hv⟩:=hs i _ (List.getElem?_eq_getElem hi)
    exact hR.2
/-- A type that reads, and whose names and rows are not too long. -/
def tyRd:Rd DType:=fun w B cs x=>typeRd w B cs x∧OkTy x
theorem tyRd_ok:RdOk tyRd 3:=⟨fun h=>typeRd_ok.len h.1,fun hk h=>⟨typeRd_ok.keep hk h.1,h.2⟩,fun hB h=>⟨typeRd_ok.more hB h.1,h.2⟩⟩
def tySRd:Rd (List DType):=fun w B cs x=>slRd typeRd 3 w B cs x∧OkTyS x
theorem tySRd_ok:RdOk tySRd 1:=⟨fun h=>(slRd_ok typeRd_ok).len h.1,fun hk h=>⟨(slRd_ok typeRd_ok).keep hk h.1,h.2⟩,fun hB h=>⟨(slRd_ok typeRd_ok).more hB h.1,h.2⟩⟩
def tnRd:Rd DTypedNet:=fun w B cs x=>typedNetRd w B cs x∧OkTySS x.types
theorem len3 {α:Type} {l:List α} (h:l.length=3) :∃a0 a1 a2,l=[a0,a1,a2]:=by
  match l,h with
  |[a0,a1,a2],_=>exact ⟨a0,a1,a2,rfl⟩
theorem opens_TypeL :∀m,OpensL m Tryz.prog 152 tyRd:=fun m=>by
  induction m with
  |zero=>
    intro H enc W fuel cs x hf h
    obtain rfl:fuel=0:=by omega
    simp [DataW.trod] at h
  |succ m ih=>
    intro H enc W fuel cs x hfu h
    obtain ⟨hl,n,hfn,hf⟩:=trodL_fields Tryz.underlying152 h
    replace hl:cs.length=3:=hl.trans (by kernel_rfl)
    obtain ⟨a0,a1,a2,rfl⟩:=len3 hl
    obtain ⟨y0,h0⟩ :∃y,DataW.trod enc Tryz.prog W 0 (fun _=>true) true n 2 (([a0,a1,a2].drop 0).take (Tryz.prog.cellsOf 2))=some y:=hf 0 _ rfl
    have k0:Tryz.prog.cellsOf 2=1:=by kernel_rfl
    rw [k0] at h0; simp only [List.drop_zero,List.drop_succ_cons,List.take_succ_cons,List.take_zero] at h0
    obtain ⟨d0,e0⟩:=opens_int Tryz.underlying2 H enc W _ _ _ h0
    unfold intRd at e0; simp only [List.cons.injEq,and_true] at e0
    obtain ⟨y1,h1⟩ :∃y,DataW.trod enc Tryz.prog W 0 (fun _=>true) true n 9 (([a0,a1,a2].drop 1).take (Tryz.prog.cellsOf 9))=some y:=hf 1 _ rfl
    have k1:Tryz.prog.cellsOf 9=1:=by kernel_rfl
    rw [k1] at h1; simp only [List.drop_zero,List.drop_succ_cons,List.take_succ_cons,List.take_zero] at h1
    obtain ⟨d1,e1,m1⟩:=opens_strM Tryz.underlying9 h1
    simp only [List.cons.injEq,and_true] at e1
    obtain ⟨y2,h2⟩ :∃y,DataW.trod enc Tryz.prog W 0 (fun _=>true) true n 23 (([a0,a1,a2].drop 2).take (Tryz.prog.cellsOf 23))=some y:=hf 2 _ rfl
    have k2:Tryz.prog.cellsOf 23=1:=by kernel_rfl
    rw [k2] at h2; simp only [List.drop_zero,List.drop_succ_cons,List.take_succ_cons,List.take_zero] at h2
    obtain ⟨d2,A2,n2,c2,e2,g2,r2⟩:=opensL_slice Tryz.underlying23 (by kernel_rfl) (by decide) tyRd_ok ih H enc W n _ _ (by omega) h2
    simp only [List.cons.injEq,and_true] at e2
    subst e0; subst e1; subst e2
    obtain ⟨g3,g4⟩:=SlAt.split g2
    have hn:=g3.len
    exact ⟨⟨d0,d1,d2⟩,typeRd_in ⟨A2,n2,c2,rfl,g3,r2⟩,OkTy.mk (x:=⟨d0,d1,d2⟩) m1 (show d2.length≤maxLen by have:=r2.1; have:=r2.2; omega) g4⟩
theorem opens_Type:Opens Tryz.prog 152 tyRd:=opensL_all opens_TypeL
theorem opens_TypeS:Opens Tryz.prog 23 tySRd:=fun H enc W fuel cs x h=>by
  obtain ⟨d2,A2,n2,c2,e2,g2,r2⟩:=opens_slice Tryz.underlying23 (by kernel_rfl) (by decide) tyRd_ok opens_Type H enc W fuel cs x h
  obtain ⟨g3,g4⟩:=SlAt.split g2
  have hn:=g3.len
  exact ⟨d2,⟨A2,n2,c2,e2,g3,r2⟩,by have:=r2.1; have:=r2.2; omega,g4⟩
theorem opens_TypedNet:Opens Tryz.prog 31 tnRd:=fun H enc W fuel cs x h=>by
  obtain ⟨hl,m,hf⟩:=trod_fields Tryz.underlying31 h
  replace hl:cs.length=2:=hl.trans (by kernel_rfl)
  obtain ⟨a0,a1,rfl⟩:=len2 hl
  obtain ⟨y0,h0⟩ :∃y,DataW.trod enc Tryz.prog W 0 (fun _=>true) true m 28 (([a0,a1].drop 0).take (Tryz.prog.cellsOf 28))=some y:=hf 0 _ rfl
  have k0:Tryz.prog.cellsOf 28=1:=by kernel_rfl
  rw [k0] at h0; simp only [List.drop_zero,List.drop_succ_cons,List.take_succ_cons,List.take_zero] at h0
  obtain ⟨d0,A0,n0,c0,e0,g0⟩:=opens_Net H enc W _ _ _ h0
  simp only [List.cons.injEq,and_true] at e0
  obtain ⟨y1,h1⟩ :∃y,DataW.trod enc Tryz.prog W 0 (fun _=>true) true m 29 (([a0,a1].drop 1).take (Tryz.prog.cellsOf 29))=some y:=hf 1 _ rfl
  have k1:Tryz.prog.cellsOf 29=1:=by kernel_rfl
  rw [k1] at h1; simp only [List.drop_zero,List.drop_succ_cons,List.take_succ_cons,List.take_zero] at h1
  obtain ⟨d1,A1,n1,c1,e1,g1,r1⟩:=opens_slice Tryz.underlying29 (by kernel_rfl) (by decide) tySRd_ok opens_TypeS H enc W _ _ _ h1
  simp only [List.cons.injEq,and_true] at e1
  subst e0; subst e1
  obtain ⟨g3,g4⟩:=SlAt.split g1
  have hn:=g3.len
  exact ⟨⟨d0,d1⟩,⟨A0,n0,c0,A1,n1,c1,rfl,g0,g3,r1⟩,by have:=r1.1; have:=r1.2; simp only; omega,g4⟩
end
section
open Go.RowKit Go.ChangeShapes Go.WideShapes Go.Deep Go.WideMaps
/-- Reads, and its names and rows are not too long. -/
def constructorRd':Rd DConstructor:=fun w B cs x=>constructorRd w B cs x∧OkCon x
theorem constructorRd'_ok:RdOk constructorRd' 2:=⟨fun h=>constructorRd_ok.len h.1,fun hk h=>⟨constructorRd_ok.keep hk h.1,h.2⟩,fun hB h=>⟨constructorRd_ok.more hB h.1,h.2⟩⟩
theorem opens_Constructor:Opens Tryz.prog 263 constructorRd':=fun H enc W fuel cs x h=>by
  obtain ⟨hl,n,hf⟩:=trod_fields Tryz.underlying263 h
  replace hl:cs.length=2:=hl.trans (by kernel_rfl)
  obtain ⟨a0,a1,rfl⟩:=len2 hl
  obtain ⟨y1,h1⟩ :∃y,DataW.trod enc Tryz.prog W 0 (fun _=>true) true n 9 (([a0,a1].drop 0).take (Tryz.prog.cellsOf 9))=some y:=hf 0 _ rfl
  have k1:Tryz.prog.cellsOf 9=1:=by kernel_rfl
  rw [k1] at h1; simp only [List.drop_zero,List.drop_succ_cons,List.take_succ_cons,List.take_zero] at h1
  obtain ⟨d1,e1,m1⟩:=opens_strM Tryz.underlying9 h1
  simp only [List.cons.injEq,and_true] at e1
  obtain ⟨y2,h2⟩ :∃y,DataW.trod enc Tryz.prog W 0 (fun _=>true) true n 23 (([a0,a1].drop 1).take (Tryz.prog.cellsOf 23))=some y:=hf 1 _ rfl
  have k2:Tryz.prog.cellsOf 23=1:=by kernel_rfl
  rw [k2] at h2; simp only [List.drop_zero,List.drop_succ_cons,List.take_succ_cons,List.take_zero] at h2
  obtain ⟨d2,A2,n2,c2,e2,g2,r2⟩:=opens_slice Tryz.underlying23 (by kernel_rfl) (by decide) tyRd_ok opens_Type H enc W _ _ _ h2
  simp only [List.cons.injEq,and_true] at e2
  subst e1; subst e2
  obtain ⟨g3,g4⟩:=SlAt.split g2
  have hn:=g3.len
  exact ⟨⟨d1,d2⟩,⟨A2,n2,c2,rfl,g3,r2⟩,m1,(show d2.length≤maxLen by have:=r2.1; have:=r2.2; omega),g4⟩
/-- Reads, and its names and rows are not too long. -/
def dataRd':Rd DData:=fun w B cs x=>dataRd w B cs x∧OkDat x
theorem dataRd'_ok:RdOk dataRd' 2:=⟨fun h=>dataRd_ok.len h.1,fun hk h=>⟨dataRd_ok.keep hk h.1,h.2⟩,fun hB h=>⟨dataRd_ok.more hB h.1,h.2⟩⟩
theorem opens_Data:Opens Tryz.prog 149 dataRd':=fun H enc W fuel cs x h=>by
  obtain ⟨hl,n,hf⟩:=trod_fields Tryz.underlying149 h
  replace hl:cs.length=2:=hl.trans (by kernel_rfl)
  obtain ⟨a0,a1,rfl⟩:=len2 hl
  obtain ⟨y1,h1⟩ :∃y,DataW.trod enc Tryz.prog W 0 (fun _=>true) true n 9 (([a0,a1].drop 0).take (Tryz.prog.cellsOf 9))=some y:=hf 0 _ rfl
  have k1:Tryz.prog.cellsOf 9=1:=by kernel_rfl
  rw [k1] at h1; simp only [List.drop_zero,List.drop_succ_cons,List.take_succ_cons,List.take_zero] at h1
  obtain ⟨d1,e1,m1⟩:=opens_strM Tryz.underlying9 h1
  simp only [List.cons.injEq,and_true] at e1
  obtain ⟨y2,h2⟩ :∃y,DataW.trod enc Tryz.prog W 0 (fun _=>true) true n 147 (([a0,a1].drop 1).take (Tryz.prog.cellsOf 147))=some y:=hf 1 _ rfl
  have k2:Tryz.prog.cellsOf 147=1:=by kernel_rfl
  rw [k2] at h2; simp only [List.drop_zero,List.drop_succ_cons,List.take_succ_cons,List.take_zero] at h2
  obtain ⟨d2,A2,n2,c2,e2,g2,r2⟩:=opens_slice Tryz.underlying147 (by kernel_rfl) (by decide) constructorRd'_ok opens_Constructor H enc W _ _ _ h2
  simp only [List.cons.injEq,and_true] at e2
  subst e1; subst e2
  obtain ⟨g3,g4⟩:=SlAt.split g2
  have hn:=g3.len
  exact ⟨⟨d1,d2⟩,⟨A2,n2,c2,rfl,g3,r2⟩,m1,(show d2.length≤maxLen by have:=r2.1; have:=r2.2; omega),g4⟩
def sgRd:Rd DSignature:=fun w B cs x=>signatureRd w B cs x∧OkSig x
theorem sg_split {w:World} {B:Nat} {v:Value} {x:DSignature} (h:RdT sgRd w B v x):RdT signatureRd w B v x∧OkSig x:=by
  obtain ⟨cs,e,h1,h2⟩:=h
  exact ⟨⟨cs,e,h1⟩,h2⟩
theorem opens_Signature:Opens Tryz.prog 25 sgRd:=fun H enc W fuel cs x h=>by
  obtain ⟨hl,m,hf⟩:=trod_fields Tryz.underlying25 h
  replace hl:cs.length=2:=hl.trans (by kernel_rfl)
  obtain ⟨a0,a1,rfl⟩:=len2 hl
  obtain ⟨y0,h0⟩ :∃y,DataW.trod enc Tryz.prog W 0 (fun _=>true) true m 22 (([a0,a1].drop 0).take (Tryz.prog.cellsOf 22))=some y:=hf 0 _ rfl
  have k0:Tryz.prog.cellsOf 22=1:=by kernel_rfl
  rw [k0] at h0; simp only [List.drop_zero,List.drop_succ_cons,List.take_succ_cons,List.take_zero] at h0
  obtain ⟨d0,A0,n0,c0,e0,g0,r0⟩:=opens_slice Tryz.underlying22 (by kernel_rfl) (by decide) dataRd'_ok opens_Data H enc W _ _ _ h0
  simp only [List.cons.injEq,and_true] at e0
  obtain ⟨y1,h1⟩ :∃y,DataW.trod enc Tryz.prog W 0 (fun _=>true) true m 23 (([a0,a1].drop 1).take (Tryz.prog.cellsOf 23))=some y:=hf 1 _ rfl
  have k1:Tryz.prog.cellsOf 23=1:=by kernel_rfl
  rw [k1] at h1; simp only [List.drop_zero,List.drop_succ_cons,List.take_succ_cons,List.take_zero] at h1
  obtain ⟨d1,A1,n1,c1,e1,g1,r1⟩:=opens_slice Tryz.underlying23 (by kernel_rfl) (by decide) tyRd_ok opens_Type H enc W _ _ _ h1
  simp only [List.cons.injEq,and_true] at e1
  subst e0; subst e1
  obtain ⟨g3,g4⟩:=SlAt.split g1
  obtain ⟨g5,g6⟩:=SlAt.split g0
  have hn:=g3.len
  have hm:=g5.len
  exact ⟨⟨d0,d1⟩,⟨A0,n0,c0,A1,n1,c1,rfl,⟨g5,r0⟩,⟨g3,r1⟩⟩,⟨by have:=r0.1; have:=r0.2; simp only; omega,g6⟩,by have:=r1.1; have:=r1.2; simp only; omega,g4⟩
end
section
open Go.RowKit
theorem tnRd_ok:RdOk tnRd 2:=⟨fun h=>typedNetRd_ok.len h.1,fun hk h=>⟨typedNetRd_ok.keep hk h.1,h.2⟩,fun hB h=>⟨typedNetRd_ok.more hB h.1,h.2⟩⟩
theorem opens_TypedNetS:Opens Tryz.prog 50 (slRd tnRd 2):=opens_slice Tryz.underlying50 (by kernel_rfl) (by decide) tnRd_ok opens_TypedNet
theorem tns_split {w:World} {B:Nat} {A:Option Addr} {n:Nat} {xs:List DTypedNet} (h:SlAt tnRd 2 w B A n xs):SlAt typedNetRd 2 w B A n xs∧∀y∈xs,OkTySS y.types:=by
  refine ⟨SlAt.congr (fun y _ cs hR=>hR.1) h,fun y hy=>?_⟩
  obtain ⟨i,hi,rfl⟩:=List.getElem_of_mem hy
  obtain ⟨b,off,_,_,hs⟩:=h.2 (by rw [h.1]; omega)
  obtain ⟨cs,hR,_⟩:=hs i _ (List.getElem?_eq_getElem hi)
  exact hR.2
end
section
open Go.ChangeShapes Go.WideShapes Go.ChangeAt Go.RowKit Go.WideElems
theorem own:ownKnob Tryz.prog.godebug=none:=by kernel_rfl
theorem laid:laidOutB Tryz.prog=true:=by kernel_rfl
section
variable {H : Type} {enc : TypeId × Value → H}
theorem trodAll_stays {W W':World} {sp:Nat→Bool} (hb:Below W.heap.size W W') :∀(ts:List TypeId) (vs:List Value) (ds:List (DataW H)) (ps:List MemPlace),
    (∀t∈ts,Tryz.prog.readableRec t=true∧t < Tryz.prog.types.size)→DataW.TrodAll enc Tryz.prog W 0 (fun _=>true) true ts vs ds ps→
    (∀x∈ps,x.block < W.heap.size)→(∀x∈ps,sp x.block=true)→DataW.TrodAll enc Tryz.prog W' 0 sp true ts vs ds ps
  |[],[],[],ps,_,h,_,_=>h
  |t :: ts,v :: vs,d :: ds,ps,hts,h,hlt,hsp=>by
    obtain ⟨p,q,h1,h2,rfl⟩:=h
    have ht:=hts t (by simp)
    exact ⟨p,q,Trod_stays laid ht.1 ht.2 h1 (fun x hx=>hb.same (hlt x (by simp [hx]))) (fun x hx=>hsp x (by simp [hx])),
      trodAll_stays hb ts vs ds q (fun t' h'=>hts t' (by simp [h'])) h2 (fun x hx=>hlt x (by simp [hx])) (fun x hx=>hsp x (by simp [hx])),rfl⟩
  |[],_ :: _,_,_,_,h,_,_=>h.elim
  |[],[],_ :: _,_,_,h,_,_=>h.elim
  |_ :: _,[],_,_,_,h,_,_=>h.elim
  |_ :: _,_ :: _,[],_,_,h,_,_=>h.elim
theorem post_law {f:Func} {s:ChangeSpec} {W W':World} {args:Array Value} {ds:List (DataW H)} {before:List MemPlace}
    (hv:s.vars=[]) (hr1:f.resultTypes = #[4])
    (hp0:(f.params.toList.all fun t=>Tryz.prog.readableRec t && decide (t < Tryz.prog.types.size))=true)
    (hres:(s.fn H (ds ++ [])).results=[.lit (.bool true)]) (hargs:(s.fn H (ds ++ [])).args=ds) (hvars:(s.fn H (ds ++ [])).vars=[])
    (hW:DataW.Whole enc Tryz.prog f.params.toList s.vars false W args.toList ds [] before)
    (hb:Below W.heap.size W W') :
    s.post enc Tryz.prog f false true false false W args (.bool true) W':=by
  have hp :∀t∈f.params.toList,Tryz.prog.readableRec t=true∧t < Tryz.prog.types.size:=fun t ht=>by simpa using List.all_eq_true.1 hp0 t ht
  have hlt :∀p∈before,p.block < W.heap.size:=fun p hp=>hW.lt p hp
  have hold :∀p∈before,(fun b=>decide (b < W.heap.size)) p.block=true:=fun p hp=>by simpa using hlt p hp
  have hWh:=hW
  obtain ⟨p,q,hA,hV,rfl,hfz,_⟩:=hWh
  rw [hv] at hV
  obtain rfl:q=[]:=hV
  rw [List.append_nil] at hlt hold
  have hA' :∀sp:Nat→Bool,(∀x∈p,sp x.block=true)→DataW.TrodAll enc Tryz.prog W' 0 sp true f.params.toList args.toList ds p:=fun sp hsp=>
    trodAll_stays hb _ _ _ _ hp hA hlt hsp
  rw [List.append_nil] at hW
  refine ⟨ds,[],p,[],p,[],hW,?_,?_,?_,World.keptBut_mono (fun x hx=>⟨hx,?_⟩) (hb.frame (·∈p)),fun h=>by cases h⟩
  · rw [hres,hr1]
    exact trodAll_cons_mk (shut_bool Tryz.underlying4 _) trodAll_mk0
  · rw [hargs]
    exact hA' _ hold
  · rw [hvars,hv]
    rfl
  · simp [hx]
end
end
end Go.Proofs.YtpbobilkejblgaaGreat
