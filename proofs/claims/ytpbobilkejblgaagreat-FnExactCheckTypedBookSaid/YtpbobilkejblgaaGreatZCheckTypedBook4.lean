/- Lemmas of the proof of CheckTypedBook, part 4. No condition. -/
import Derived.Test.YtpbobilkejblgaaGreatZCheckTypedBook3
namespace Go.Proofs.YtpbobilkejblgaaGreat
set_option linter.unusedVariables false
set_option linter.unusedSimpArgs false
section
open Go.RowKit
noncomputable instance:DecidableEq DConstructor:=fun a b=>Classical.propDecidable (a=b)
noncomputable instance:DecidableEq DData:=fun a b=>Classical.propDecidable (a=b)
noncomputable instance:DecidableEq DSignature:=fun a b=>Classical.propDecidable (a=b)
def OkCon (x:DConstructor):Prop:=x.name.size≤maxLen∧OkTyS x.fields
def OkConS (xs:List DConstructor):Prop:=xs.length≤maxLen∧∀y∈xs,OkCon y
def OkDat (x:DData):Prop:=x.name.size≤maxLen∧OkConS x.cons
def OkDatS (xs:List DData):Prop:=xs.length≤maxLen∧∀y∈xs,OkDat y
def OkSig (x:DSignature):Prop:=OkDatS x.datas∧OkTyS x.defs
def szConstructor (x:DConstructor):Nat:=x.name.size+szTypeS x.fields
def szConstructorS (xs:List DConstructor):Nat:=xs.length+(xs.map szConstructor).sum
def szData (x:DData):Nat:=x.name.size+szConstructorS x.cons
def szDataS (xs:List DData):Nat:=xs.length+(xs.map szData).sum
def szSignature (x:DSignature):Nat:=szDataS x.datas+szTypeS x.defs
theorem szL_back {l:Int} {n:Nat} (h:szL l n < 0):szL l n = -1:=by
  unfold szL at h ⊢
  split
  · rfl
  · rename_i h3; rw [if_neg h3] at h; omega
theorem szL_le {l:Int} {n:Nat} (h:l≤1048576):szL l n≤1048576:=by unfold szL; split <;> omega
theorem p_szConstructor (x:DConstructor) (left:Int) (ho:OkCon x) (h0:0≤left) (h1:left≤1048576):m_laws_szConstructor x left=some (szL left (szConstructor x)):=by
  unfold m_laws_szConstructor szConstructor
  have hl:=maxLen_le ho.1
  rw [ck_ok (by omega),Option.bind_some]
  by_cases hn:left - (x.name.size:Int) < 0
  · rw [decide_eq_true hn,cond_true,szL_neg (by omega)]
  · rw [decide_eq_false hn,cond_false,(p_szTy _).1 _ _ (Nat.le_refl _) ho.2 (by omega) (by omega),Option.bind_some,← szL_step,szL_pos hn,if_neg hn]
    by_cases h2:szL (left - (x.name.size:Int)) (szTypeS x.fields) < 0
    · rw [decide_eq_true h2,cond_true,szL_back h2]
    · rw [decide_eq_false h2,cond_false]
theorem p_szConstructorS (xs:List DConstructor) (left:Int) (ho:OkConS xs) (h0:0≤left) (h1:left≤1048576):m_laws_szConstructorS xs left=some (szL left (szConstructorS xs)):=by
  unfold m_laws_szConstructorS szConstructorS
  have hl:=maxLen_le ho.1
  rw [ck_ok (by omega),Option.bind_some]
  by_cases hn:left - (xs.length:Int) < 0
  · rw [decide_eq_true hn,cond_true,szL_neg (by omega)]
  · rw [decide_eq_false hn,cond_false]
    have key:=subI (L:=m_laws_szConstructorS_L1 xs m_laws_szConstructorS_A1) (d:=xs) (s:=szConstructor) (ok:=OkCon)
      (fun g k x left hx h0 h1=>by
        have hm:=List.mem_of_getElem? hx
        simp -implicitDefEqProofs only [m_laws_szConstructorS_L1,m_laws_szConstructorS_B1,dlt (lt_of_some hx),cond_true,getI_nat hx,Option.bind_some,p_szConstructor x left (ho.2 x hm) h0 h1])
      (fun g left=>by simp -implicitDefEqProofs only [m_laws_szConstructorS_L1,m_laws_szConstructorS_B1,dge,cond_false,m_laws_szConstructorS_A1])
      xs.length 0 (xs.length+1) (left - xs.length) (by omega) (by omega) (by omega) (by omega)
    refine key.trans ?_
    rw [List.drop_zero]
    congr 1
    rw [← szL_step,szL_pos hn,if_neg hn]
theorem p_szData (x:DData) (left:Int) (ho:OkDat x) (h0:0≤left) (h1:left≤1048576):m_laws_szData x left=some (szL left (szData x)):=by
  unfold m_laws_szData szData
  have hl:=maxLen_le ho.1
  rw [ck_ok (by omega),Option.bind_some]
  by_cases hn:left - (x.name.size:Int) < 0
  · rw [decide_eq_true hn,cond_true,szL_neg (by omega)]
  · rw [decide_eq_false hn,cond_false,p_szConstructorS _ _ ho.2 (by omega) (by omega),Option.bind_some,← szL_step,szL_pos hn,if_neg hn]
    by_cases h2:szL (left - (x.name.size:Int)) (szConstructorS x.cons) < 0
    · rw [decide_eq_true h2,cond_true,szL_back h2]
    · rw [decide_eq_false h2,cond_false]
theorem p_szDataS (xs:List DData) (left:Int) (ho:OkDatS xs) (h0:0≤left) (h1:left≤1048576):m_laws_szDataS xs left=some (szL left (szDataS xs)):=by
  unfold m_laws_szDataS szDataS
  have hl:=maxLen_le ho.1
  rw [ck_ok (by omega),Option.bind_some]
  by_cases hn:left - (xs.length:Int) < 0
  · rw [decide_eq_true hn,cond_true,szL_neg (by omega)]
  · rw [decide_eq_false hn,cond_false]
    have key:=subI (L:=m_laws_szDataS_L1 xs m_laws_szDataS_A1) (d:=xs) (s:=szData) (ok:=OkDat)
      (fun g k x left hx h0 h1=>by
        have hm:=List.mem_of_getElem? hx
        simp -implicitDefEqProofs only [m_laws_szDataS_L1,m_laws_szDataS_B1,dlt (lt_of_some hx),cond_true,getI_nat hx,Option.bind_some,p_szData x left (ho.2 x hm) h0 h1])
      (fun g left=>by simp -implicitDefEqProofs only [m_laws_szDataS_L1,m_laws_szDataS_B1,dge,cond_false,m_laws_szDataS_A1])
      xs.length 0 (xs.length+1) (left - xs.length) (by omega) (by omega) (by omega) (by omega)
    refine key.trans ?_
    rw [List.drop_zero]
    congr 1
    rw [← szL_step,szL_pos hn,if_neg hn]
theorem p_szSignature (x:DSignature) (left:Int) (ho:OkSig x) (h0:0≤left) (h1:left≤1048576):m_laws_szSignature x left=some (szL left (szSignature x)):=by
  unfold m_laws_szSignature szSignature
  rw [p_szDataS _ _ ho.1 h0 h1,Option.bind_some,← szL_step]
  by_cases hn:szL left (szDataS x.datas) < 0
  · rw [decide_eq_true hn,cond_true,if_pos hn]
  · have hle:szL left (szDataS x.datas)≤1048576:=szL_le h1
    rw [decide_eq_false hn,cond_false,if_neg hn,(p_szTy _).1 _ _ (Nat.le_refl _) ho.2 (by omega) hle,Option.bind_some]
    by_cases h2:szL (szL left (szDataS x.datas)) (szTypeS x.defs) < 0
    · rw [decide_eq_true h2,cond_true,szL_back h2]
    · rw [decide_eq_false h2,cond_false]
theorem decConstructor (x y:DConstructor):decide (x=y)=(decide (x.name=y.name) && decide (x.fields=y.fields)):=by
  rw [Bool.eq_iff_iff]
  simp only [decide_eq_true_eq,Bool.and_eq_true]
  obtain ⟨a,b⟩:=x
  obtain ⟨c,d⟩:=y
  simp
theorem p_eqConstructor (x y:DConstructor):m_laws_eqConstructor x y=some (decide (x=y)):=by
  unfold m_laws_eqConstructor
  rw [nameEq,(p_eqTy _).1 _ _ (Nat.le_refl _),Option.bind_some,decConstructor]
  cases decide (x.name=y.name) <;> cases decide (x.fields=y.fields) <;> rfl
theorem p_eqConstructorS (xs ys:List DConstructor):m_laws_eqConstructorS xs ys=some (decide (xs=ys)):=by
  unfold m_laws_eqConstructorS
  rw [bne_nat]
  by_cases hl:xs.length=ys.length
  · rw [decide_eq_true hl,Bool.not_true,cond_false]
    exact rowEq (L:=m_laws_eqConstructorS_L1 xs ys m_laws_eqConstructorS_A1) (q:=m_laws_eqConstructor) hl (fun x hx y=>p_eqConstructor x y)
      (fun g k hx hy=>by simp -implicitDefEqProofs only [m_laws_eqConstructorS_L1,m_laws_eqConstructorS_B1,dlt hx,cond_true,getI_nat (List.getElem?_eq_getElem hx),getI_nat (List.getElem?_eq_getElem hy),Option.bind_some])
      (fun g=>by simp -implicitDefEqProofs only [m_laws_eqConstructorS_L1,m_laws_eqConstructorS_B1,dge,cond_false,m_laws_eqConstructorS_A1])
  · rw [decide_eq_false hl,Bool.not_false,cond_true,decide_len hl]
theorem decData (x y:DData):decide (x=y)=(decide (x.name=y.name) && decide (x.cons=y.cons)):=by
  rw [Bool.eq_iff_iff]
  simp only [decide_eq_true_eq,Bool.and_eq_true]
  obtain ⟨a,b⟩:=x
  obtain ⟨c,d⟩:=y
  simp
theorem p_eqData (x y:DData):m_laws_eqData x y=some (decide (x=y)):=by
  unfold m_laws_eqData
  rw [nameEq,p_eqConstructorS,Option.bind_some,decData]
  cases decide (x.name=y.name) <;> cases decide (x.cons=y.cons) <;> rfl
theorem p_eqDataS (xs ys:List DData):m_laws_eqDataS xs ys=some (decide (xs=ys)):=by
  unfold m_laws_eqDataS
  rw [bne_nat]
  by_cases hl:xs.length=ys.length
  · rw [decide_eq_true hl,Bool.not_true,cond_false]
    exact rowEq (L:=m_laws_eqDataS_L1 xs ys m_laws_eqDataS_A1) (q:=m_laws_eqData) hl (fun x hx y=>p_eqData x y)
      (fun g k hx hy=>by simp -implicitDefEqProofs only [m_laws_eqDataS_L1,m_laws_eqDataS_B1,dlt hx,cond_true,getI_nat (List.getElem?_eq_getElem hx),getI_nat (List.getElem?_eq_getElem hy),Option.bind_some])
      (fun g=>by simp -implicitDefEqProofs only [m_laws_eqDataS_L1,m_laws_eqDataS_B1,dge,cond_false,m_laws_eqDataS_A1])
  · rw [decide_eq_false hl,Bool.not_false,cond_true,decide_len hl]
theorem decSignature (x y:DSignature):decide (x=y)=(decide (x.datas=y.datas) && decide (x.defs=y.defs)):=by
  rw [Bool.eq_iff_iff]
  simp only [decide_eq_true_eq,Bool.and_eq_true]
  obtain ⟨a,b⟩:=x
  obtain ⟨c,d⟩:=y
  simp
theorem p_eqSignature (x y:DSignature):m_laws_eqSignature x y=some (decide (x=y)):=by
  unfold m_laws_eqSignature
  rw [p_eqDataS,Option.bind_some,(p_eqTy _).1 _ _ (Nat.le_refl _),Option.bind_some,decSignature]
  cases decide (x.datas=y.datas) <;> cases decide (x.defs=y.defs) <;> rfl
theorem p_toConstructor (x:DConstructor) (hs:szConstructor x≤1048576):m_laws_toConstructor x=some x:=by
  unfold szConstructor at hs
  unfold m_laws_toConstructor
  rw [(p_toTy _).1 _ (Nat.le_refl _) (by omega),Option.bind_some]
theorem p_toConstructorS (xs:List DConstructor) (hs:szConstructorS xs≤1048576):m_laws_toConstructorS xs=some xs:=by
  unfold szConstructorS at hs
  unfold m_laws_toConstructorS
  rw [mustP_ok (by omega),Option.bind_some]
  exact copyI (L:=m_laws_toConstructorS_L1 xs m_laws_toConstructorS_A1) (K:=some)
    (fun g k acc hk hg=>by
      have hm:=sum_mem (f:=szConstructor) (List.getElem_mem hk)
      simp -implicitDefEqProofs only [m_laws_toConstructorS_L1,m_laws_toConstructorS_B1,dlt hk,cond_true,getI_nat (List.getElem?_eq_getElem hk),Option.bind_some,hg,p_toConstructor xs[k] (by omega)])
    (fun g acc=>by simp -implicitDefEqProofs only [m_laws_toConstructorS_L1,m_laws_toConstructorS_B1,dge,cond_false,m_laws_toConstructorS_A1])
theorem p_toData (x:DData) (hs:szData x≤1048576):m_laws_toData x=some x:=by
  unfold szData at hs
  unfold m_laws_toData
  rw [p_toConstructorS _ (by omega),Option.bind_some]
theorem p_toDataS (xs:List DData) (hs:szDataS xs≤1048576):m_laws_toDataS xs=some xs:=by
  unfold szDataS at hs
  unfold m_laws_toDataS
  rw [mustP_ok (by omega),Option.bind_some]
  exact copyI (L:=m_laws_toDataS_L1 xs m_laws_toDataS_A1) (K:=some)
    (fun g k acc hk hg=>by
      have hm:=sum_mem (f:=szData) (List.getElem_mem hk)
      simp -implicitDefEqProofs only [m_laws_toDataS_L1,m_laws_toDataS_B1,dlt hk,cond_true,getI_nat (List.getElem?_eq_getElem hk),Option.bind_some,hg,p_toData xs[k] (by omega)])
    (fun g acc=>by simp -implicitDefEqProofs only [m_laws_toDataS_L1,m_laws_toDataS_B1,dge,cond_false,m_laws_toDataS_A1])
theorem p_toSignature (x:DSignature) (hs:szSignature x≤1048576):m_laws_toSignature x=some x:=by
  unfold szSignature at hs
  unfold m_laws_toSignature
  rw [p_toDataS _ (by omega),Option.bind_some,(p_toTy _).1 _ (Nat.le_refl _) (by omega),Option.bind_some]
end
section
open Go.RowKit
set_option maxRecDepth 100000
noncomputable def m_laws_szTypedNetS_A1 (i3:Int):Option Int:=
  some i3
noncomputable def m_laws_szTypedNetS_B1 (d0:List DTypedNet) (rec1:Int→Int→Option Int) (K1:Int→Option Int) (i5:Int) (i6:Int):Option Int:=
  (bif (decide (i6 < (d0.length:Int))) then ((getI d0 i6).bind fun x9=>((m_laws_szTypedNet x9 i5).bind fun y20=>(bif (decide (y20 < 0)) then some (-1) else (rec1 y20 (i6+1))))) else (K1 i5))
noncomputable def m_laws_szTypedNetS_L1 (d0:List DTypedNet) (K1:Int→Option Int):Nat→Int→Int→Option Int
  |0,_,_=>none
  |g+1,i5,i6=>m_laws_szTypedNetS_B1 d0 (m_laws_szTypedNetS_L1 d0 K1 g) K1 i5 i6
noncomputable def m_laws_szTypedNetS (d0:List DTypedNet) (d1:Int):Option Int:=
  ((ck (d1 - (d0.length:Int))).bind fun s1=>(bif (decide (s1 < 0)) then some (-1) else (m_laws_szTypedNetS_L1 d0 m_laws_szTypedNetS_A1 (d0.length+1) s1 0)))
set_option maxHeartbeats 2000000 in
theorem c_m_laws_szTypedNetS (d0:List DTypedNet) (d1:Int) (r:Int) (hm:m_laws_szTypedNetS d0 d1=some r) (v0:Value) (w:World) (hv0:Sl typedNetRd 2 w v0 d0) :
    Calls Tryz.prog 15 #[v0,.int .i64 d1] w fun e w'=>e=.returned (.int .i64 r)∧Below w.heap.size w w':=by
  obtain ⟨Aa0,na0,ca0,rfl,ha0,ra0⟩:=hv0
  have ea0:=ha0.len; subst ea0
  have qa0:=len_le ra0
  have T:=Below.refl w.heap.size w
  unfold m_laws_szTypedNetS at hm
  refine enter 27 Tryz.func15 rfl rfl rfl ?_
  intro f hf
  have s0:f 0=.slice Aa0 d0.length ca0:=hf 0 _ rfl
  have s1:f 1=.int .i64 d1:=hf 1 _ rfl
  refine wp_seq<|wp_rs rfl<|RQ.y rfl (Y.assign (v:=.int .i64 0) rfl)<|RQ.nil<|then_n<|wp_seq<|wp_rs rfl<|RQ.y rfl (Y.move (v:=.int .i64 d1) s1)<|RQ.y rfl (Y.move (v:=.slice Aa0 d0.length ca0) s0)<|RQ.y rfl (Y.len (by kernel_rfl) rfl) ?_
  obtain ⟨s1,ks1,hm⟩:=bnd hm
  replace ks1:=ck_some ks1
  refine RQ.y rfl (Y.binI (v:=.int .i64 s1) rfl rfl (by rw [binI_sub ks1.2,ks1.1]))<|RQ.y rfl (Y.assign (v:=.int .i64 s1) rfl)<|RQ.nil<|then_n<|wp_seq<|wp_seq<|wp_rs rfl<|RQ.y rfl (Y.move (v:=.int .i64 s1) rfl)<|RQ.y rfl (Y.binI (v:=.bool (decide (s1 < 0))) rfl rfl rfl)<|RQ.nil<|then_n ?_
  rcases bcases (decide (s1 < 0)) with c2|c2
  ·replace hm:=cF c2 hm
   have pc2:=of_decide_eq_false c2
   refine cond_f rfl (vb rfl c2)<|wp_skip<|then_n<|wp_seq<|wp_seq<|wp_rs rfl<|RQ.y rfl (Y.assign (v:=.int .i64 0) rfl)<|RQ.nil<|then_n<|wp_block ?_
   obtain ⟨K1,hK1,hm⟩ :∃K,K=m_laws_szTypedNetS_A1∧m_laws_szTypedNetS_L1 d0 K (d0.length+1) s1 0=some r:=⟨_,rfl,hm⟩
   refine wp_loopX (fun g f w'=>∃(i5:Int) (i6:Int),f 0=.slice Aa0 d0.length ca0∧f 1=.int .i64 i5∧f 5=.int .i64 i6∧0≤i6∧Below w.heap.size w w'∧m_laws_szTypedNetS_L1 d0 K1 g i5 i6=some r) 0 (fun f w'=>∃(i3:Int),f 1=.int .i64 i3∧Below w.heap.size w w'∧m_laws_szTypedNetS_A1 i3=some r) (d0.length+1) ⟨s1,0,s0,rfl,rfl,(by omega),T,hm⟩ ?_ ?_
   ·rintro f w4 ⟨i3,s1_1x,T,hm⟩
    unfold m_laws_szTypedNetS_A1 at hm
    refine blk_hit (then_n ?_)
    refine wp_seq<|wp_rs rfl<|RQ.y rfl (Y.move (v:=.int .i64 i3) s1_1x)<|RQ.y rfl (Y.assign (v:=.int .i64 i3) rfl)<|RQ.nil<|then_n<|wp_ret ?_
    obtain rfl:=sj hm
    exact (ret1 rfl rfl rfl ⟨rfl,T⟩)
   rintro g f w7 ⟨i5,i6,s0_1,s1_1,s5_1,nn5_1,T,hm⟩
   rcases g with _|g
   ·simp only [m_laws_szTypedNetS_L1] at hm; cases hm
   obtain ⟨rec1,hrec1,hm⟩ :∃z,z=m_laws_szTypedNetS_L1 d0 K1 g∧m_laws_szTypedNetS_B1 d0 z K1 i5 i6=some r:=⟨_,rfl,hm⟩
   unfold m_laws_szTypedNetS_B1 at hm
   refine wp_seq<|wp_seq<|wp_rs rfl<|RQ.y rfl (Y.move (v:=.int .i64 i6) s5_1)<|RQ.y rfl (Y.move (v:=.slice Aa0 d0.length ca0) s0_1)<|RQ.y rfl (Y.len (by kernel_rfl) rfl)<|RQ.y rfl (Y.binI (v:=.bool (decide (i6 < (d0.length:Int)))) rfl rfl rfl)<|RQ.nil<|then_n ?_
   rcases bcases (decide (i6 < (d0.length:Int))) with c8|c8
   ·replace hm:=cF c8 hm
    have pc8:=of_decide_eq_false c8
    refine cond_f rfl (vb rfl c8)<|wp_exit ?_
    exact (then_x (then_x (hit_x ⟨_,rfl,⟨i5,s1_1,T,(by rw [hK1] at hm; exact hm)⟩⟩)))
   replace hm:=cT c8 hm
   have pc8:=of_decide_eq_true c8
   refine cond_t rfl (vb rfl c8)<|wp_skip<|then_n<|wp_seq<|wp_block<|wp_seq<|wp_rb rfl<|RQ.y rfl (Y.move (v:=.slice Aa0 d0.length ca0) s0_1)<|RQ.y rfl (Y.move (v:=.int .i64 i6) s5_1) ?_
   obtain ⟨x9,hx12,hm⟩:=bnd hm
   obtain ⟨k10,hk13,hl14,hx12⟩:=getI_some hx12
   obtain ⟨b16,o17,rfl,hbb16⟩:=ha0.addr (by omega)
   obtain ⟨cs11,hRcs11,hc15⟩:=ha0.el hx12
   have hScs11:=hRcs11
   obtain ⟨A18,n18,c18,A19,n19,c19,rfl,⟨h18,r18⟩,⟨h19,r19⟩⟩:=hRcs11
   have e18:=h18.len; subst e18
   have q18:=len_le r18
   have e19:=h19.len; subst e19
   have q19:=len_le r19
   refine RQ.y rfl (Y.indexAddr (m:=k10) (sz:=2) rfl rfl hk13 hl14 (by kernel_rfl))<|RQ.y rfl (Y.loadN (cs:=[.slice A18 x9.net.agents.length c18,.slice A19 x9.types.length c19]) rfl (by kernel_rfl) (cells2 (beC (cellT T (hc15 0 _ rfl))) (beC (cellT T (hc15 1 _ rfl)))))<|RQ.y rfl (Y.move (v:=.int .i64 i5) s1_1) ?_
   obtain ⟨y20,e21,hm⟩:=bnd hm
   refine RQ.call rfl (am2 rfl rfl) (by kernel_rfl) (v:=.int .i64 y20) (bel (K:=fun _=>True) fun w' hb'=>(c_m_laws_szTypedNet x9 i5 _ e21 _ w' (stArg (R:=typedNetRd) ⟨_,_,_,_,_,_,rfl,⟨SlAt.now agentRd_ok h18 (Nat.le_refl _) (Tt T hb'),r18⟩,⟨SlAt.now (slRd_ok typeRd_ok) h19 (Nat.le_refl _) (Tt T hb'),r19⟩⟩)))<|RQ.y rfl (Y.assign (v:=.int .i64 y20) rfl)<|RQ.nil ?_
   intro w22 hb23
   have szw22:=hb23.size
   have T:=Tt T hb23
   refine then_n<|wp_seq<|wp_rs rfl<|RQ.y rfl (Y.move (v:=.int .i64 y20) rfl)<|RQ.y rfl (Y.binI (v:=.bool (decide (y20 < 0))) rfl rfl rfl)<|RQ.nil<|then_n ?_
   rcases bcases (decide (y20 < 0)) with c24|c24
   ·replace hm:=cF c24 hm
    have pc24:=of_decide_eq_false c24
    refine cond_f rfl (vb rfl c24)<|wp_skip ?_
    refine blk_n (then_n ?_)
    refine wp_rs rfl<|RQ.y rfl (Y.move (v:=.int .i64 i6) s5_1)<|RQ.y rfl (Y.binI rfl rfl (binI_add (m:=i6) (by omega)))<|RQ.y rfl (Y.assign (v:=.int .i64 (i6+1)) rfl)<|RQ.nil ?_
    exact (then_n ⟨g,_,Nat.lt_succ_self _,rfl,⟨y20,(i6+1),s0_1,rfl,rfl,(by omega),T,(by rw [← hrec1]; exact hm)⟩⟩)
   replace hm:=cT c24 hm
   have pc24:=of_decide_eq_true c24
   refine cond_t rfl (vb rfl c24)<|wp_seq<|wp_rs rfl<|RQ.y rfl (Y.assign (v:=.int .i64 (-1)) rfl)<|RQ.nil<|then_n<|wp_ret ?_
   obtain rfl:=sj hm
   exact (blk_r (then_r (then_r (hit_r (blk_r (then_r (ret1 rfl rfl rfl ⟨rfl,T⟩)))))))
  replace hm:=cT c2 hm
  have pc2:=of_decide_eq_true c2
  refine cond_t rfl (vb rfl c2)<|wp_seq<|wp_rs rfl<|RQ.y rfl (Y.assign (v:=.int .i64 (-1)) rfl)<|RQ.nil<|then_n<|wp_ret ?_
  obtain rfl:=sj hm
  exact (then_r (ret1 rfl rfl rfl ⟨rfl,T⟩))
noncomputable def m_laws_toTypedNetS_A1 (xs8:List DTypedNet):Option (List DTypedNet):=
  some xs8
noncomputable def m_laws_toTypedNetS_B1 (d0:List DTypedNet) (rec1:List DTypedNet→Int→Option (List DTypedNet)) (K1:List DTypedNet→Option (List DTypedNet)) (xs10:List DTypedNet) (i11:Int):Option (List DTypedNet):=
  (bif (decide (i11 < (d0.length:Int))) then ((getI d0 i11).bind fun x14=>((m_laws_toTypedNet x14).bind fun y25=>((getI xs10 i11).bind fun x39=>(rec1 (setI xs10 i11 y25) (i11+1))))) else (K1 xs10))
noncomputable def m_laws_toTypedNetS_L1 (d0:List DTypedNet) (K1:List DTypedNet→Option (List DTypedNet)):Nat→List DTypedNet→Int→Option (List DTypedNet)
  |0,_,_=>none
  |g+1,xs10,i11=>m_laws_toTypedNetS_B1 d0 (m_laws_toTypedNetS_L1 d0 K1 g) K1 xs10 i11
noncomputable def m_laws_toTypedNetS (d0:List DTypedNet):Option (List DTypedNet):=
  ((mustP (d0.length≤4294967296)).bind fun _=>(m_laws_toTypedNetS_L1 d0 m_laws_toTypedNetS_A1 (d0.length+1) (List.replicate d0.length ((⟨(⟨[]⟩:DNet),[]⟩:DTypedNet):DTypedNet)) 0))
set_option maxHeartbeats 2000000 in
theorem c_m_laws_toTypedNetS (d0:List DTypedNet) (r:List DTypedNet) (hm:m_laws_toTypedNetS d0=some r) (v0:Value) (w:World) (hv0:Sl typedNetRd 2 w v0 d0) :
    Calls Tryz.prog 17 #[v0] w fun e w'=>(∃(v0:Value) (bs0:List Nat),e=.returned (v0)∧OwN 45 typedNetOw 2 w' w.heap.size v0 r bs0)∧Below w.heap.size w w':=by
  obtain ⟨Aa0,na0,ca0,rfl,ha0,ra0⟩:=hv0
  have ea0:=ha0.len; subst ea0
  have qa0:=len_le ra0
  have T:=Below.refl w.heap.size w
  unfold m_laws_toTypedNetS at hm
  refine enter 23 Tryz.func17 rfl rfl rfl ?_
  intro f hf
  have s0:f 0=.slice Aa0 d0.length ca0:=hf 0 _ rfl
  refine wp_seq<|wp_rs rfl<|RQ.y rfl (Y.assign (v:=.slice none 0 0) rfl)<|RQ.nil<|then_n<|wp_seq<|wp_rl rfl<|RL.y rfl (Y.move (v:=.slice Aa0 d0.length ca0) s0)<|RL.y rfl (Y.len (by kernel_rfl) rfl) ?_
  obtain ⟨_,m1,hm⟩:=bnd hm
  have hk2:=mustP_some m1
  refine RL.makeN (O:=typedNetOw) (x0:=(⟨(⟨[]⟩:DNet),[]⟩:DTypedNet)) (n:=d0.length) app_impl_TypedNet (by decide) (fun w=>⟨none,0,0,none,0,0,[],[],rfl,⟨⟨rfl,.inl ⟨rfl,rfl⟩⟩,Nat.le_refl _,Nat.zero_le _⟩,⟨⟨rfl,.inl ⟨rfl,rfl⟩⟩,Nat.le_refl _,Nat.zero_le _⟩,rfl⟩) rfl rfl rfl hk2 (fun w3 G4 hb5 szw3=>?_)
  replace G4:=OwN.mono G4 T.size
  have T:=Tt T hb5
  refine RL.y rfl (Y.assign (v:=.slice (some ⟨w.heap.size,0,none⟩) d0.length d0.length) rfl)<|RL.nil<|then_n<|wp_seq<|wp_seq<|wp_rs rfl<|RQ.y rfl (Y.assign (v:=.int .i64 0) rfl)<|RQ.nil<|then_n<|wp_block ?_
  obtain ⟨K1,hK1,hm⟩ :∃K,K=m_laws_toTypedNetS_A1∧m_laws_toTypedNetS_L1 d0 K (d0.length+1) (List.replicate d0.length ((⟨(⟨[]⟩:DNet),[]⟩:DTypedNet):DTypedNet)) 0=some r:=⟨_,rfl,hm⟩
  refine wp_loopX (fun g f w'=>∃(xs10:List DTypedNet) (i11:Int) (uxs10:Value) (bsxs10:List Nat),f 0=.slice Aa0 d0.length ca0∧f 3=uxs10∧OwN 45 typedNetOw 2 w' w.heap.size uxs10 xs10 bsxs10∧f 4=.int .i64 i11∧0≤i11∧Below w.heap.size w w'∧m_laws_toTypedNetS_L1 d0 K1 g xs10 i11=some r) 0 (fun f w'=>∃(xs8:List DTypedNet) (uxs8:Value) (bsxs8:List Nat),f 3=uxs8∧OwN 45 typedNetOw 2 w' w.heap.size uxs8 xs8 bsxs8∧Below w.heap.size w w'∧m_laws_toTypedNetS_A1 xs8=some r) (d0.length+1) ⟨(List.replicate d0.length ((⟨(⟨[]⟩:DNet),[]⟩:DTypedNet):DTypedNet)),0,(.slice (some ⟨w.heap.size,0,none⟩) d0.length d0.length),([w.heap.size]),s0,rfl,G4,rfl,(by omega),T,hm⟩ ?_ ?_
  ·rintro f w9 ⟨xs8,uxs8,bsxs8,s3_1x,Guxs8,T,hm⟩
   unfold m_laws_toTypedNetS_A1 at hm
   refine blk_hit (then_n ?_)
   refine wp_seq<|wp_rs rfl<|RQ.y rfl (Y.move (v:=uxs8) s3_1x)<|RQ.y rfl (Y.assign (v:=uxs8) rfl)<|RQ.nil<|then_n<|wp_ret ?_
   obtain rfl:=sj hm
   exact (ret1 rfl rfl rfl ⟨⟨_,_,rfl,Guxs8⟩,T⟩)
  rintro g f w12 ⟨xs10,i11,uxs10,bsxs10,s0_1,s3_1,Guxs10,s4_1,nn4_1,T,hm⟩
  rcases g with _|g
  ·simp only [m_laws_toTypedNetS_L1] at hm; cases hm
  obtain ⟨rec1,hrec1,hm⟩ :∃z,z=m_laws_toTypedNetS_L1 d0 K1 g∧m_laws_toTypedNetS_B1 d0 z K1 xs10 i11=some r:=⟨_,rfl,hm⟩
  unfold m_laws_toTypedNetS_B1 at hm
  refine wp_seq<|wp_seq<|wp_rs rfl<|RQ.y rfl (Y.move (v:=.int .i64 i11) s4_1)<|RQ.y rfl (Y.move (v:=.slice Aa0 d0.length ca0) s0_1)<|RQ.y rfl (Y.len (by kernel_rfl) rfl)<|RQ.y rfl (Y.binI (v:=.bool (decide (i11 < (d0.length:Int)))) rfl rfl rfl)<|RQ.nil<|then_n ?_
  rcases bcases (decide (i11 < (d0.length:Int))) with c13|c13
  ·replace hm:=cF c13 hm
   have pc13:=of_decide_eq_false c13
   refine cond_f rfl (vb rfl c13)<|wp_exit ?_
   exact (then_x (then_x (hit_x ⟨_,rfl,⟨xs10,(uxs10),bsxs10,s3_1,Guxs10,T,(by rw [hK1] at hm; exact hm)⟩⟩)))
  replace hm:=cT c13 hm
  have pc13:=of_decide_eq_true c13
  refine cond_t rfl (vb rfl c13)<|wp_skip<|then_n<|wp_seq<|wp_block<|wp_rl rfl<|RL.y rfl (Y.move (v:=uxs10) s3_1)<|RL.y rfl (Y.move (v:=.int .i64 i11) s4_1)<|RL.y rfl (Y.move (v:=.slice Aa0 d0.length ca0) s0_1)<|RL.y rfl (Y.move (v:=.int .i64 i11) s4_1) ?_
  obtain ⟨x14,hx17,hm⟩:=bnd hm
  obtain ⟨k15,hk18,hl19,hx17⟩:=getI_some hx17
  obtain ⟨b21,o22,rfl,hbb21⟩:=ha0.addr (by omega)
  obtain ⟨cs16,hRcs16,hc20⟩:=ha0.el hx17
  have hScs16:=hRcs16
  obtain ⟨A23,n23,c23,A24,n24,c24,rfl,⟨h23,r23⟩,⟨h24,r24⟩⟩:=hRcs16
  have e23:=h23.len; subst e23
  have q23:=len_le r23
  have e24:=h24.len; subst e24
  have q24:=len_le r24
  refine RL.y rfl (Y.indexAddr (m:=k15) (sz:=2) rfl rfl hk18 hl19 (by kernel_rfl))<|RL.y rfl (Y.loadN (cs:=[.slice A23 x14.net.agents.length c23,.slice A24 x14.types.length c24]) rfl (by kernel_rfl) (cells2 (eqC (cellT T (hc20 0 _ rfl))) (eqC (cellT T (hc20 1 _ rfl))))) ?_
  obtain ⟨y25,e26,hm⟩:=bnd hm
  refine RL.call rfl (am1 rfl) (by kernel_rfl) ((c_m_laws_toTypedNet x14 _ e26 _ _ (stArg (R:=typedNetRd) ⟨_,_,_,_,_,_,rfl,⟨SlAt.now agentRd_ok h23 (Nat.le_refl _) T,r23⟩,⟨SlAt.now (slRd_ok typeRd_ok) h24 (Nat.le_refl _) T,r24⟩⟩)).mono ?_)
  rintro _ w35 ⟨⟨v27,bs30,v31,bs34,rfl,G28,G32,Ro29_o33⟩,hb36⟩
  refine ⟨_,rfl,?_⟩
  have szw35:=hb36.size
  have T0w35:=T.size
  have Zo29_oxs10:Ap bs30 bsxs10:=(Ap.new (OwN.lo_ G28) (OwN.hi Guxs10))
  have Zo33_oxs10:Ap bs34 bsxs10:=(Ap.new (OwN.lo_ G32) (OwN.hi Guxs10))
  have Guxs10:=OwN.below typedNetOw_ok Guxs10 hb36
  have T:=Tt T hb36
  replace G28:=OwN.mono G28 T0w35
  replace G32:=OwN.mono G32 T0w35
  obtain ⟨A37,c38,rfl⟩:=OwN.form Guxs10
  have qbA37:=OwN.bound Guxs10
  obtain ⟨x39,hx41,hm⟩:=bnd hm
  obtain ⟨k40,hk42,hl43,hx41⟩:=getI_some hx41
  obtain ⟨b44,rfl⟩:=OwN.addr0 Guxs10 (by omega)
  refine RL.y rfl (Y.indexAddr (m:=k40) (sz:=2) rfl rfl hk42 hl43 (by kernel_rfl)) ?_
  obtain ⟨A45,c46,rfl⟩:=OwN.form G28
  have qbA45:=OwN.bound G28
  obtain ⟨A47,c48,rfl⟩:=OwN.form G32
  have qbA47:=OwN.bound G32
  obtain ⟨_,_,_,l50,hea49,a49,nd51,sb52,r53⟩:=OwN.own1 agentOw_ok G28
  injection hea49 with e1 e2 e3; subst e1 e2 e3
  obtain ⟨_,_,_,l55,hea54,a54,nd56,sb57,r58⟩:=OwN.own1 (slOw_ok typeOw_ok) G32
  injection hea54 with e1 e2 e3; subst e1 e2 e3
  refine RL.storeNW (k:=k40) (a':=y25) (l:=(l50 ++ l55)) (fp:=(bs30 ++ bs34)) typedNetOw_ok typedNetOw_one rfl rfl rfl Guxs10 hx41 ⟨_,_,_,_,_,_,l50,l55,rfl,⟨a49,r53⟩,⟨a54,r58⟩,rfl⟩ (nodup2 nd51 nd56 sb52 sb57 Ro29_o33) (sub2 sb52 sb57) (Ap.symm (Ap.append Zo29_oxs10 Zo33_oxs10)) (all2 (OwN.both G28 (Nat.le_refl _)) (OwN.both G32 (Nat.le_refl _))) (by kernel_rfl) (fun w59 G60 ho61=>?_)
  have szw59:=ho61.size
  have T:=T.trans (ho61.below (by intro b hb; simp at hb; subst hb; exact OwN.lo_ Guxs10 _ (OwN.row Guxs10 rfl)))
  have G60:OwN 45 typedNetOw 2 w59 w.heap.size (.slice (some ⟨b44,0,none⟩) xs10.length c38) (setI xs10 i11 y25) (bsxs10 ++ (bs30 ++ bs34)):=by rw [setI_eq hk42]; exact G60
  refine RL.nil ?_
  refine blk_n (then_n ?_)
  refine wp_rs rfl<|RQ.y rfl (Y.move (v:=.int .i64 i11) s4_1)<|RQ.y rfl (Y.binI rfl rfl (binI_add (m:=i11) (by omega)))<|RQ.y rfl (Y.assign (v:=.int .i64 (i11+1)) rfl)<|RQ.nil ?_
  exact (then_n ⟨g,_,Nat.lt_succ_self _,rfl,⟨(setI xs10 i11 y25),(i11+1),(.slice (some ⟨b44,0,none⟩) xs10.length c38),(bsxs10 ++ (bs30 ++ bs34)),s0_1,s3_1,G60,rfl,(by omega),T,(by rw [← hrec1]; exact hm)⟩⟩)
noncomputable def m_laws_eqTypedNetS_A1:Option Bool:=
  some true
noncomputable def m_laws_eqTypedNetS_B1 (d0:List DTypedNet) (d1:List DTypedNet) (rec1:Int→Option Bool) (K1:Option Bool) (i3:Int):Option Bool:=
  (bif (decide (i3 < (d0.length:Int))) then ((getI d0 i3).bind fun x6=>((getI d1 i3).bind fun x17=>((m_laws_eqTypedNet x6 x17).bind fun y28=>(bif y28 then (rec1 (i3+1)) else some false)))) else (K1))
noncomputable def m_laws_eqTypedNetS_L1 (d0:List DTypedNet) (d1:List DTypedNet) (K1:Option Bool):Nat→Int→Option Bool
  |0,_=>none
  |g+1,i3=>m_laws_eqTypedNetS_B1 d0 d1 (m_laws_eqTypedNetS_L1 d0 d1 K1 g) K1 i3
noncomputable def m_laws_eqTypedNetS (d0:List DTypedNet) (d1:List DTypedNet):Option Bool:=
  (bif ((d0.length:Int) != (d1.length:Int)) then some false else (m_laws_eqTypedNetS_L1 d0 d1 m_laws_eqTypedNetS_A1 (d0.length+1) 0))
set_option maxHeartbeats 2000000 in
theorem c_m_laws_eqTypedNetS (d0:List DTypedNet) (d1:List DTypedNet) (r:Bool) (hm:m_laws_eqTypedNetS d0 d1=some r) (v0:Value) (v1:Value) (w:World) (hv0:Sl typedNetRd 2 w v0 d0) (hv1:Sl typedNetRd 2 w v1 d1) :
    Calls Tryz.prog 19 #[v0,v1] w fun e w'=>e=.returned (.bool r)∧Below w.heap.size w w':=by
  obtain ⟨Aa0,na0,ca0,rfl,ha0,ra0⟩:=hv0
  have ea0:=ha0.len; subst ea0
  have qa0:=len_le ra0
  obtain ⟨Aa1,na1,ca1,rfl,ha1,ra1⟩:=hv1
  have ea1:=ha1.len; subst ea1
  have qa1:=len_le ra1
  have T:=Below.refl w.heap.size w
  unfold m_laws_eqTypedNetS at hm
  refine enter 27 Tryz.func19 rfl rfl rfl ?_
  intro f hf
  have s0:f 0=.slice Aa0 d0.length ca0:=hf 0 _ rfl
  have s1:f 1=.slice Aa1 d1.length ca1:=hf 1 _ rfl
  refine wp_seq<|wp_rs rfl<|RQ.y rfl (Y.assign (v:=.bool false) rfl)<|RQ.nil<|then_n<|wp_seq<|wp_seq<|wp_rs rfl<|RQ.y rfl (Y.move (v:=.slice Aa0 d0.length ca0) s0)<|RQ.y rfl (Y.len (by kernel_rfl) rfl)<|RQ.y rfl (Y.move (v:=.slice Aa1 d1.length ca1) s1)<|RQ.y rfl (Y.len (by kernel_rfl) rfl)<|RQ.y rfl (Y.binI (v:=.bool ((d0.length:Int) != (d1.length:Int))) rfl rfl rfl)<|RQ.nil<|then_n ?_
  rcases bcases ((d0.length:Int) != (d1.length:Int)) with c1|c1
  ·replace hm:=cF c1 hm
   refine cond_f rfl (vb rfl c1)<|wp_skip<|then_n<|wp_seq<|wp_seq<|wp_rs rfl<|RQ.y rfl (Y.assign (v:=.int .i64 0) rfl)<|RQ.nil<|then_n<|wp_block ?_
   obtain ⟨K1,hK1,hm⟩ :∃K,K=m_laws_eqTypedNetS_A1∧m_laws_eqTypedNetS_L1 d0 d1 K (d0.length+1) 0=some r:=⟨_,rfl,hm⟩
   refine wp_loopX (fun g f w'=>∃(i3:Int),f 0=.slice Aa0 d0.length ca0∧f 1=.slice Aa1 d1.length ca1∧f 5=.int .i64 i3∧0≤i3∧Below w.heap.size w w'∧m_laws_eqTypedNetS_L1 d0 d1 K1 g i3=some r) 0 (fun f w'=>Below w.heap.size w w'∧m_laws_eqTypedNetS_A1  = some r) (d0.length+1) ⟨0,s0,s1,rfl,(by omega),T,hm⟩ ?_ ?_
   ·rintro f w2 ⟨T,hm⟩
    unfold m_laws_eqTypedNetS_A1 at hm
    refine blk_hit (then_n ?_)
    refine wp_seq<|wp_rs rfl<|RQ.y rfl (Y.assign (v:=.bool true) rfl)<|RQ.nil<|then_n<|wp_ret ?_
    obtain rfl:=sj hm
    exact (ret1 rfl rfl rfl ⟨rfl,T⟩)
   rintro g f w4 ⟨i3,s0_1,s1_1,s5_1,nn5_1,T,hm⟩
   rcases g with _|g
   ·simp only [m_laws_eqTypedNetS_L1] at hm; cases hm
   obtain ⟨rec1,hrec1,hm⟩ :∃z,z=m_laws_eqTypedNetS_L1 d0 d1 K1 g∧m_laws_eqTypedNetS_B1 d0 d1 z K1 i3=some r:=⟨_,rfl,hm⟩
   unfold m_laws_eqTypedNetS_B1 at hm
   refine wp_seq<|wp_seq<|wp_rs rfl<|RQ.y rfl (Y.move (v:=.int .i64 i3) s5_1)<|RQ.y rfl (Y.move (v:=.slice Aa0 d0.length ca0) s0_1)<|RQ.y rfl (Y.len (by kernel_rfl) rfl)<|RQ.y rfl (Y.binI (v:=.bool (decide (i3 < (d0.length:Int)))) rfl rfl rfl)<|RQ.nil<|then_n ?_
   rcases bcases (decide (i3 < (d0.length:Int))) with c5|c5
   ·replace hm:=cF c5 hm
    have pc5:=of_decide_eq_false c5
    refine cond_f rfl (vb rfl c5)<|wp_exit ?_
    exact (then_x (then_x (hit_x ⟨_,rfl,⟨T,(by rw [hK1] at hm; exact hm)⟩⟩)))
   replace hm:=cT c5 hm
   have pc5:=of_decide_eq_true c5
   refine cond_t rfl (vb rfl c5)<|wp_skip<|then_n<|wp_seq<|wp_block<|wp_seq<|wp_rbd (by kernel_rfl) (by kernel_rfl)<|RQ.y rfl (Y.move (v:=.slice Aa0 d0.length ca0) s0_1)<|RQ.y rfl (Y.move (v:=.int .i64 i3) s5_1) ?_
   obtain ⟨x6,hx9,hm⟩:=bnd hm
   obtain ⟨k7,hk10,hl11,hx9⟩:=getI_some hx9
   obtain ⟨b13,o14,rfl,hbb13⟩:=ha0.addr (by omega)
   obtain ⟨cs8,hRcs8,hc12⟩:=ha0.el hx9
   have hScs8:=hRcs8
   obtain ⟨A15,n15,c15,A16,n16,c16,rfl,⟨h15,r15⟩,⟨h16,r16⟩⟩:=hRcs8
   have e15:=h15.len; subst e15
   have q15:=len_le r15
   have e16:=h16.len; subst e16
   have q16:=len_le r16
   refine RQ.y rfl (Y.indexAddr (m:=k7) (sz:=2) rfl rfl hk10 hl11 (by kernel_rfl))<|RQ.y rfl (Y.loadN (cs:=[.slice A15 x6.net.agents.length c15,.slice A16 x6.types.length c16]) rfl (by kernel_rfl) (cells2 (beC (cellT T (hc12 0 _ rfl))) (beC (cellT T (hc12 1 _ rfl)))))<|RQ.y rfl (Y.move (v:=.slice Aa1 d1.length ca1) s1_1)<|RQ.y rfl (Y.move (v:=.int .i64 i3) s5_1) ?_
   obtain ⟨x17,hx20,hm⟩:=bnd hm
   obtain ⟨k18,hk21,hl22,hx20⟩:=getI_some hx20
   obtain ⟨b24,o25,rfl,hbb24⟩:=ha1.addr (by omega)
   obtain ⟨cs19,hRcs19,hc23⟩:=ha1.el hx20
   have hScs19:=hRcs19
   obtain ⟨A26,n26,c26,A27,n27,c27,rfl,⟨h26,r26⟩,⟨h27,r27⟩⟩:=hRcs19
   have e26:=h26.len; subst e26
   have q26:=len_le r26
   have e27:=h27.len; subst e27
   have q27:=len_le r27
   refine RQ.y rfl (Y.indexAddr (m:=k18) (sz:=2) rfl rfl hk21 hl22 (by kernel_rfl))<|RQ.y rfl (Y.loadN (cs:=[.slice A26 x17.net.agents.length c26,.slice A27 x17.types.length c27]) rfl (by kernel_rfl) (cells2 (beC (cellT T (hc23 0 _ rfl))) (beC (cellT T (hc23 1 _ rfl))))) ?_
   obtain ⟨y28,e29,hm⟩:=bnd hm
   refine RQ.call rfl (am2 rfl rfl) (by kernel_rfl) (v:=.bool y28) (bel (K:=fun _=>True) fun w' hb'=>(c_m_laws_eqTypedNet x6 x17 _ e29 _ _ w' (stArg (R:=typedNetRd) ⟨_,_,_,_,_,_,rfl,⟨SlAt.now agentRd_ok h15 (Nat.le_refl _) (Tt T hb'),r15⟩,⟨SlAt.now (slRd_ok typeRd_ok) h16 (Nat.le_refl _) (Tt T hb'),r16⟩⟩) (stArg (R:=typedNetRd) ⟨_,_,_,_,_,_,rfl,⟨SlAt.now agentRd_ok h26 (Nat.le_refl _) (Tt T hb'),r26⟩,⟨SlAt.now (slRd_ok typeRd_ok) h27 (Nat.le_refl _) (Tt T hb'),r27⟩⟩)))<|RQ.y rfl (Y.not (b':=(!y28)) rfl rfl)<|RQ.nil ?_
   intro w30 hb31
   have szw30:=hb31.size
   have T:=Tt T hb31
   refine then_n ?_
   rcases bcases y28 with c32|c32
   ·replace hm:=cF c32 hm
    refine cond_t rfl (vbn rfl c32 rfl)<|wp_seq<|wp_rs rfl<|RQ.y rfl (Y.assign (v:=.bool false) rfl)<|RQ.nil<|then_n<|wp_ret ?_
    obtain rfl:=sj hm
    exact (blk_r (then_r (then_r (hit_r (blk_r (then_r (ret1 rfl rfl rfl ⟨rfl,T⟩)))))))
   replace hm:=cT c32 hm
   refine cond_f rfl (vbn rfl c32 rfl)<|wp_skip ?_
   refine blk_n (then_n ?_)
   refine wp_rs rfl<|RQ.y rfl (Y.move (v:=.int .i64 i3) s5_1)<|RQ.y rfl (Y.binI rfl rfl (binI_add (m:=i3) (by omega)))<|RQ.y rfl (Y.assign (v:=.int .i64 (i3+1)) rfl)<|RQ.nil ?_
   exact (then_n ⟨g,_,Nat.lt_succ_self _,rfl,⟨(i3+1),s0_1,s1_1,rfl,(by omega),T,(by rw [← hrec1]; exact hm)⟩⟩)
  replace hm:=cT c1 hm
  refine cond_t rfl (vb rfl c1)<|wp_seq<|wp_rs rfl<|RQ.y rfl (Y.assign (v:=.bool false) rfl)<|RQ.nil<|then_n<|wp_ret ?_
  obtain rfl:=sj hm
  exact (then_r (ret1 rfl rfl rfl ⟨rfl,T⟩))
end
section
open Go.RowKit Go.Maps
def getB (s:ByteArray) (i:Int):Option Int:=if 0≤i then (s[i.toNat]?).map fun b=>(b.toNat:Int) else none
section
variable {P : Program} {C : World → Prop} {f : Nat → Value} {d : Option Tmp} {ty : TypeId} {pos : String} {af : Array Edge} {g : Option (Nat × Bool)} {x y : Operand} {t : TypeId} {a : ByteArray} {i b : Int}
theorem Y.idxStr (hx:ev f x=.string a) (hy:ev f y=.int .i64 i) (ht:stringT P t=true) (hb:getB a i=some b):Y P C f ⟨d,.index t x y,ty,pos,af,g⟩ (.int .u8 b):=fun w _=>by
  have hu:=str_of ht
  unfold getB at hb
  by_cases h0:0≤i
  · rw [if_pos h0] at hb
    obtain ⟨c,hc,rfl⟩:=Option.map_eq_some_iff.1 hb
    simp [execOp,hx,hy,Instr.index,asIntOf,run_underlying hu,h0,hc]
  · rw [if_neg h0] at hb
    cases hb
end
section
variable {α : Type} {R : Rd α} {sz B n c l : Nat} {w : World} {A Av : Option Addr} {xs : List α}
theorem SlAt.takeV (h:SlAt R sz w B A n xs) (r:n≤c∧c≤maxLen) (hl:l≤xs.length) (eA:(if c=0 then A else A.map (·.add (0 * sz)))=Av):SlAt R sz w B Av l (xs.take l)∧l≤c∧c≤maxLen:=by
  have hn:=h.1
  refine ⟨⟨by rw [List.length_take]; omega,fun h0=>?_⟩,by omega,r.2⟩
  obtain ⟨b,off,ea,hb,hc⟩:=h.2 (by omega)
  subst ea
  rw [if_neg (by omega)] at eA
  subst eA
  refine ⟨b,off+0 * sz,by simp only [Option.map_some,Addr.add_eq],hb,fun i x hx=>?_⟩
  have hil:i < l:=by have:=lt_of_some hx; rw [List.length_take] at this; omega
  rw [List.getElem?_take_of_lt hil] at hx
  obtain ⟨cs,h1,h2⟩:=hc _ x hx
  refine ⟨cs,h1,fun j v hj=>?_⟩
  have:=h2 j v hj
  rwa [Nat.zero_mul,Nat.add_zero]
end
section
variable {P : Program} {C : World → Prop} {f : Nat → Value} {d : Option Tmp} {ty : TypeId} {pos : String} {af : Array Edge} {g : Option (Nat × Bool)} {x y : Operand} {t : TypeId} {A Av : Option Addr} {n c : Nat}
theorem Y.sliceH {l sz N:Nat} {k:IntKind} {j:Int} (hx:ev f x=.slice A N c) (hy:ev f y=.int k j) (hj:j=(l:Int)) (hl:l≤N) (hc:N≤c) (ht:elemO P t=some sz) (eA:(if c=0 then A else A.map (·.add (0 * sz)))=Av) :
    Y P C f ⟨d,.slice t x none (some y) none,ty,pos,af,g⟩ (.slice Av l c):=fun w _=>by
  subst hj
  unfold elemO at ht
  split at ht
  · rename_i e hu
    cases hinf:P.info? e with
    |none=>rw [hinf] at ht; cases ht
    |some inf=>
      rw [hinf] at ht
      simp at ht
      subst ht
      have he:P.elem t=e:=by simp [Program.elem,hu]
      have hu':P.underlying t=some (.slice (P.elem t)):=by rw [he]; exact hu
      have:=run_slice_h (P:=P) (w:=w) t A N c hu' k (l:Int) (by omega) (by omega)
      simp only [Nat.zero_mul] at eA
      simp [execOp,hx,hy,run_sliceAt_slice,hu',this,he,sizeOf,typeInfo,hinf,sliced,eA]
  · cases ht
end
/-- Keys that are strings. -/
def keyS (x:ByteArray):Value:=.string x
def litS (x:ByteArray):Lit:=.string x.data.toList
def goodS (x:ByteArray):Prop:=x.size≤maxLen
theorem mapTS {P:Program} {t k e:TypeId} {z:Value} (hk:P.underlying k=some .string) (ht:P.underlying t=some (.map k e)) (hz:(P.info? e).bind (·.zero)=some z):MapT P t k keyS litS goodS z:=
  ⟨string_keyed hk,⟨e,ht,fun w=>by
    cases hi:P.info? e with
    |none=>rw [hi] at hz; cases hz
    |some inf=>
      rw [hi] at hz
      simp only [Option.bind_some] at hz
      simp [zeroValue,typeInfo,hi,hz]⟩,fun x hx=>Go.WideMaps.keyOf_string_mk hk hx,fun x y h=>by
      unfold litS at h
      injection h with h
      exact Go.WideShapes.bytes_inj h⟩
theorem mt_string_bool:MapT Tryz.prog 231 9 keyS litS goodS (.bool false):=mapTS (e:=4) Tryz.underlying9 Tryz.underlying231 (by kernel_rfl)
theorem app_string:AppT Tryz.prog 265 9 (.string ByteArray.empty) 1 16:=⟨by kernel_rfl,by kernel_rfl,rfl,by decide⟩
end
section
open Go.RowKit
set_option maxRecDepth 100000
noncomputable def m_spec_l01Letter (d0:Int):Option Bool:=
  (bif (decide (d0 ≥ 97)) then (bif (decide (d0≤122)) then some true else (bif (decide (d0 ≥ 65)) then some (decide (d0≤90)) else some false)) else (bif (decide (d0 ≥ 65)) then some (decide (d0≤90)) else some false))
set_option maxHeartbeats 2000000 in
theorem c_m_spec_l01Letter (d0:Int) (r:Bool) (hm:m_spec_l01Letter d0=some r)  (w:World)  :
    Calls Tryz.prog 256 #[.int .u8 d0] w fun e w'=>e=.returned (.bool r)∧Below w.heap.size w w':=by
  have T:=Below.refl w.heap.size w
  unfold m_spec_l01Letter at hm
  refine enter 17 Tryz.func256 rfl rfl rfl ?_
  intro f hf
  have s0:f 0=.int .u8 d0:=hf 0 _ rfl
  refine wp_seq<|wp_rs rfl<|RQ.y rfl (Y.assign (v:=.bool false) rfl)<|RQ.nil<|then_n<|wp_seq<|wp_rs rfl<|RQ.y rfl (Y.move (v:=.int .u8 d0) s0)<|RQ.y rfl (Y.binI (v:=.bool (decide (d0 ≥ 97))) rfl rfl rfl)<|RQ.y rfl (Y.move (v:=.bool (decide (d0 ≥ 97))) rfl) ?_
  rcases bcases (decide (d0 ≥ 97)) with c1|c1
  ·replace hm:=cF c1 hm
   have pc1:=of_decide_eq_false c1
   refine RQ.skip (wantN (dj:=5) rfl (vb rfl c1) rfl)<|RQ.skip (wantN (dj:=5) rfl (vb rfl c1) rfl)<|RQ.y rfl (Y.pick (b:=false) (v:=.bool false) (vb rfl c1) rfl)<|RQ.y rfl (Y.move (v:=.bool false) rfl)<|RQ.y rfl (Y.move (v:=.int .u8 d0) s0)<|RQ.y rfl (Y.binI (v:=.bool (decide (d0 ≥ 65))) rfl rfl rfl)<|RQ.y rfl (Y.move (v:=.bool (decide (d0 ≥ 65))) rfl) ?_
   rcases bcases (decide (d0 ≥ 65)) with c2|c2
   ·replace hm:=cF c2 hm
    have pc2:=of_decide_eq_false c2
    refine RQ.skip (wantN (dj:=12) rfl (vb rfl c2) rfl)<|RQ.skip (wantN (dj:=12) rfl (vb rfl c2) rfl)<|RQ.y rfl (Y.pick (b:=false) (v:=.bool false) (vb rfl c2) rfl)<|RQ.y rfl (Y.pick (b:=false) (v:=.bool false) rfl rfl)<|RQ.y rfl (Y.assign (v:=.bool false) rfl)<|RQ.nil<|then_n<|wp_ret ?_
    obtain rfl:=sj hm
    exact (ret1 rfl rfl rfl ⟨rfl,T⟩)
   replace hm:=cT c2 hm
   have pc2:=of_decide_eq_true c2
   refine RQ.y (wantT (dj:=12) rfl (vb rfl c2)) (Y.move (v:=.int .u8 d0) s0)<|RQ.y (wantT (dj:=12) rfl (vb rfl c2)) (Y.binI (v:=.bool (decide (d0≤90))) rfl rfl rfl)<|RQ.y rfl (Y.pick (b:=true) (v:=.bool (decide (d0≤90))) (vb rfl c2) rfl)<|RQ.y rfl (Y.pick (b:=false) (v:=.bool (decide (d0≤90))) rfl rfl)<|RQ.y rfl (Y.assign (v:=.bool (decide (d0≤90))) rfl)<|RQ.nil<|then_n<|wp_ret ?_
   obtain rfl:=sj hm
   exact (ret1 rfl rfl rfl ⟨rfl,T⟩)
  replace hm:=cT c1 hm
  have pc1:=of_decide_eq_true c1
  refine RQ.y (wantT (dj:=5) rfl (vb rfl c1)) (Y.move (v:=.int .u8 d0) s0)<|RQ.y (wantT (dj:=5) rfl (vb rfl c1)) (Y.binI (v:=.bool (decide (d0≤122))) rfl rfl rfl)<|RQ.y rfl (Y.pick (b:=true) (v:=.bool (decide (d0≤122))) (vb rfl c1) rfl)<|RQ.y rfl (Y.move (v:=.bool (decide (d0≤122))) rfl) ?_
  rcases bcases (decide (d0≤122)) with c3|c3
  ·replace hm:=cF c3 hm
   have pc3:=of_decide_eq_false c3
   refine RQ.y (wantT (dj:=9) rfl (vb rfl c3)) (Y.move (v:=.int .u8 d0) s0)<|RQ.y (wantT (dj:=9) rfl (vb rfl c3)) (Y.binI (v:=.bool (decide (d0 ≥ 65))) rfl rfl rfl)<|RQ.y (wantT (dj:=9) rfl (vb rfl c3)) (Y.move (v:=.bool (decide (d0 ≥ 65))) rfl) ?_
   rcases bcases (decide (d0 ≥ 65)) with c4|c4
   ·replace hm:=cF c4 hm
    have pc4:=of_decide_eq_false c4
    refine RQ.skip (wantN (dj:=12) rfl (vb rfl c4) rfl)<|RQ.skip (wantN (dj:=12) rfl (vb rfl c4) rfl)<|RQ.y (wantT (dj:=9) rfl (vb rfl c3)) (Y.pick (b:=false) (v:=.bool false) (vb rfl c4) rfl)<|RQ.y rfl (Y.pick (b:=false) (v:=.bool false) (vb rfl c3) rfl)<|RQ.y rfl (Y.assign (v:=.bool false) rfl)<|RQ.nil<|then_n<|wp_ret ?_
    obtain rfl:=sj hm
    exact (ret1 rfl rfl rfl ⟨rfl,T⟩)
   replace hm:=cT c4 hm
   have pc4:=of_decide_eq_true c4
   refine RQ.y (wantT (dj:=12) rfl (vb rfl c4)) (Y.move (v:=.int .u8 d0) s0)<|RQ.y (wantT (dj:=12) rfl (vb rfl c4)) (Y.binI (v:=.bool (decide (d0≤90))) rfl rfl rfl)<|RQ.y (wantT (dj:=9) rfl (vb rfl c3)) (Y.pick (b:=true) (v:=.bool (decide (d0≤90))) (vb rfl c4) rfl)<|RQ.y rfl (Y.pick (b:=false) (v:=.bool (decide (d0≤90))) (vb rfl c3) rfl)<|RQ.y rfl (Y.assign (v:=.bool (decide (d0≤90))) rfl)<|RQ.nil<|then_n<|wp_ret ?_
   obtain rfl:=sj hm
   exact (ret1 rfl rfl rfl ⟨rfl,T⟩)
  replace hm:=cT c3 hm
  have pc3:=of_decide_eq_true c3
  iterate 3 refine RQ.skip (wantN (dj:=9) rfl (vb rfl c3) rfl) ?_
  refine RQ.skip rfl<|RQ.skip rfl<|RQ.skip (wantN (dj:=9) rfl (vb rfl c3) rfl)<|RQ.y rfl (Y.pick (b:=true) (v:=.bool true) (vb rfl c3) rfl)<|RQ.y rfl (Y.assign (v:=.bool true) rfl)<|RQ.nil<|then_n<|wp_ret ?_
  obtain rfl:=sj hm
  exact (ret1 rfl rfl rfl ⟨rfl,T⟩)
noncomputable def m_spec_l01Digit (d0:Int):Option Bool:=
  (bif (decide (d0 ≥ 48)) then some (decide (d0≤57)) else some false)
set_option maxHeartbeats 2000000 in
theorem c_m_spec_l01Digit (d0:Int) (r:Bool) (hm:m_spec_l01Digit d0=some r)  (w:World)  :
    Calls Tryz.prog 258 #[.int .u8 d0] w fun e w'=>e=.returned (.bool r)∧Below w.heap.size w w':=by
  have T:=Below.refl w.heap.size w
  unfold m_spec_l01Digit at hm
  refine enter 9 Tryz.func258 rfl rfl rfl ?_
  intro f hf
  have s0:f 0=.int .u8 d0:=hf 0 _ rfl
  refine wp_seq<|wp_rs rfl<|RQ.y rfl (Y.assign (v:=.bool false) rfl)<|RQ.nil<|then_n<|wp_seq<|wp_rs rfl<|RQ.y rfl (Y.move (v:=.int .u8 d0) s0)<|RQ.y rfl (Y.binI (v:=.bool (decide (d0 ≥ 48))) rfl rfl rfl)<|RQ.y rfl (Y.move (v:=.bool (decide (d0 ≥ 48))) rfl) ?_
  rcases bcases (decide (d0 ≥ 48)) with c1|c1
  ·replace hm:=cF c1 hm
   have pc1:=of_decide_eq_false c1
   refine RQ.skip (wantN (dj:=5) rfl (vb rfl c1) rfl)<|RQ.skip (wantN (dj:=5) rfl (vb rfl c1) rfl)<|RQ.y rfl (Y.pick (b:=false) (v:=.bool false) (vb rfl c1) rfl)<|RQ.y rfl (Y.assign (v:=.bool false) rfl)<|RQ.nil<|then_n<|wp_ret ?_
   obtain rfl:=sj hm
   exact (ret1 rfl rfl rfl ⟨rfl,T⟩)
  replace hm:=cT c1 hm
  have pc1:=of_decide_eq_true c1
  refine RQ.y (wantT (dj:=5) rfl (vb rfl c1)) (Y.move (v:=.int .u8 d0) s0)<|RQ.y (wantT (dj:=5) rfl (vb rfl c1)) (Y.binI (v:=.bool (decide (d0≤57))) rfl rfl rfl)<|RQ.y rfl (Y.pick (b:=true) (v:=.bool (decide (d0≤57))) (vb rfl c1) rfl)<|RQ.y rfl (Y.assign (v:=.bool (decide (d0≤57))) rfl)<|RQ.nil<|then_n<|wp_ret ?_
  obtain rfl:=sj hm
  exact (ret1 rfl rfl rfl ⟨rfl,T⟩)
noncomputable def m_spec_l01Keywords  : Option (List ByteArray):=
  some ([(ByteArray.mk #[100,97,116,97]),(ByteArray.mk #[100,101,102]),(ByteArray.mk #[108,101,116]),(ByteArray.mk #[105,110]),(ByteArray.mk #[109,97,116,99,104]),(ByteArray.mk #[105,102]),(ByteArray.mk #[116,104,101,110]),(ByteArray.mk #[101,108,115,101])])
set_option maxHeartbeats 2000000 in
theorem c_m_spec_l01Keywords  (r:List ByteArray) (hm:m_spec_l01Keywords  = some r)  (w:World)  :
    Calls Tryz.prog 271 #[] w fun e w'=>(∃(v0:Value),e=.returned (v0)∧OwF 9 encS 1 w' w.heap.size v0 r)∧Below w.heap.size w w':=by
  have T:=Below.refl w.heap.size w
  unfold m_spec_l01Keywords at hm
  refine enter 2 Tryz.func271 rfl rfl rfl ?_
  intro f hf
  refine wp_seq<|wp_rs rfl<|RQ.y rfl (Y.assign (v:=.slice none 0 0) rfl)<|RQ.nil<|then_n<|wp_seq<|wp_rl rfl ?_
  refine RL.bslice (e:=9) (cells:=#[.string (ByteArray.mk #[100,97,116,97]),.string (ByteArray.mk #[100,101,102]),.string (ByteArray.mk #[108,101,116]),.string (ByteArray.mk #[105,110]),.string (ByteArray.mk #[109,97,116,99,104]),.string (ByteArray.mk #[105,102]),.string (ByteArray.mk #[116,104,101,110]),.string (ByteArray.mk #[101,108,115,101])]) rfl (pm8 rfl rfl rfl rfl rfl rfl rfl rfl) (by kernel_rfl) (fun w1 B2 hb3 szw1=>?_)
  have ZB2:w.heap.size≤w.heap.size:=T.size
  have T:=Tt T hb3
  have G5:=OwF.lit (enc:=encS) (sz:=1) (xs:=[(ByteArray.mk #[100,97,116,97]),(ByteArray.mk #[100,101,102]),(ByteArray.mk #[108,101,116]),(ByteArray.mk #[105,110]),(ByteArray.mk #[109,97,116,99,104]),(ByteArray.mk #[105,102]),(ByteArray.mk #[116,104,101,110]),(ByteArray.mk #[101,108,115,101])]) B2 ZB2 rfl rfl rfl rfl
  refine RL.y rfl (Y.assign (v:=.slice (some ⟨w.heap.size,0,none⟩) 8 8) rfl)<|RL.nil<|then_n<|wp_ret ?_
  obtain rfl:=sj hm
  exact (ret1 rfl rfl rfl ⟨⟨_,rfl,G5⟩,T⟩)
noncomputable def m_spec_IsKeyword_A1:Option Bool:=
  some false
noncomputable def m_spec_IsKeyword_B1 (d0:ByteArray) (rec1:Int→Option Bool) (K1:Option Bool) (i2:Int):Option Bool:=
  ((m_spec_l01Keywords ).bind fun y4=>(bif (decide (i2 < (y4.length:Int))) then ((m_spec_l01Keywords ).bind fun y14=>((getI y14 i2).bind fun x23=>(bif (x23.toList==d0.toList) then some true else (rec1 (i2+1))))) else (K1)))
noncomputable def m_spec_IsKeyword_L1 (d0:ByteArray) (K1:Option Bool):Nat→Int→Option Bool
  |0,_=>none
  |g+1,i2=>m_spec_IsKeyword_B1 d0 (m_spec_IsKeyword_L1 d0 K1 g) K1 i2
noncomputable def m_spec_IsKeyword (d0:ByteArray):Option Bool:=
  (m_spec_IsKeyword_L1 d0 m_spec_IsKeyword_A1 (10) 0)
set_option maxHeartbeats 2000000 in
theorem c_m_spec_IsKeyword (d0:ByteArray) (r:Bool) (hm:m_spec_IsKeyword d0=some r)  (w:World)  :
    Calls Tryz.prog 257 #[.string d0] w fun e w'=>e=.returned (.bool r)∧Below w.heap.size w w':=by
  have T:=Below.refl w.heap.size w
  unfold m_spec_IsKeyword at hm
  refine enter 16 Tryz.func257 rfl rfl rfl ?_
  intro f hf
  have s0:f 0=.string d0:=hf 0 _ rfl
  refine wp_seq<|wp_rs rfl<|RQ.y rfl (Y.assign (v:=.bool false) rfl)<|RQ.nil<|then_n<|wp_seq<|wp_seq<|wp_rs rfl<|RQ.y rfl (Y.assign (v:=.int .i64 0) rfl)<|RQ.nil<|then_n<|wp_block ?_
  obtain ⟨K1,hK1,hm⟩ :∃K,K=m_spec_IsKeyword_A1∧m_spec_IsKeyword_L1 d0 K (10) 0=some r:=⟨_,rfl,hm⟩
  refine wp_loopX (fun g f w'=>∃(i2:Int),f 0=.string d0∧f 3=.int .i64 i2∧0≤i2∧Below w.heap.size w w'∧m_spec_IsKeyword_L1 d0 K1 g i2=some r) 0 (fun f w'=>Below w.heap.size w w'∧m_spec_IsKeyword_A1  = some r) (10) ⟨0,s0,rfl,(by omega),T,hm⟩ ?_ ?_
  ·rintro f w1 ⟨T,hm⟩
   unfold m_spec_IsKeyword_A1 at hm
   refine blk_hit (then_n ?_)
   refine wp_seq<|wp_rs rfl<|RQ.y rfl (Y.assign (v:=.bool false) rfl)<|RQ.nil<|then_n<|wp_ret ?_
   obtain rfl:=sj hm
   exact (ret1 rfl rfl rfl ⟨rfl,T⟩)
  rintro g f w3 ⟨i2,s0_1,s3_1,nn3_1,T,hm⟩
  rcases g with _|g
  ·simp only [m_spec_IsKeyword_L1] at hm; cases hm
  obtain ⟨rec1,hrec1,hm⟩ :∃z,z=m_spec_IsKeyword_L1 d0 K1 g∧m_spec_IsKeyword_B1 d0 z K1 i2=some r:=⟨_,rfl,hm⟩
  unfold m_spec_IsKeyword_B1 at hm
  refine wp_seq<|wp_seq<|wp_rl rfl<|RL.y rfl (Y.move (v:=.int .i64 i2) s3_1) ?_
  obtain ⟨y4,e5,hm⟩:=bnd hm
  refine RL.call rfl (am0) (by kernel_rfl) ((c_m_spec_l01Keywords  _ e5  _ ).mono ?_)
  rintro _ w9 ⟨⟨v6,rfl,G7⟩,hb10⟩
  refine ⟨_,rfl,?_⟩
  have szw9:=hb10.size
  have T0w9:=T.size
  have T:=Tt T hb10
  replace G7:=OwF.mono G7 T0w9
  obtain ⟨A11,c12,rfl⟩:=OwF.form G7
  have qbA11:=OwF.bound G7
  refine RL.y rfl (Y.len (by kernel_rfl) rfl)<|RL.y rfl (Y.binI (v:=.bool (decide (i2 < (y4.length:Int)))) rfl rfl rfl)<|RL.nil<|then_n ?_
  rcases bcases (decide (i2 < (y4.length:Int))) with c13|c13
  ·replace hm:=cF c13 hm
   have pc13:=of_decide_eq_false c13
   refine cond_f rfl (vb rfl c13)<|wp_exit ?_
   exact (then_x (then_x (hit_x ⟨_,rfl,⟨T,(by rw [hK1] at hm; exact hm)⟩⟩)))
  replace hm:=cT c13 hm
  have pc13:=of_decide_eq_true c13
  refine cond_t rfl (vb rfl c13)<|wp_skip<|then_n<|wp_seq<|wp_block<|wp_seq<|wp_rl rfl ?_
  obtain ⟨y14,e15,hm⟩:=bnd hm
  refine RL.call rfl (am0) (by kernel_rfl) ((c_m_spec_l01Keywords  _ e15  _ ).mono ?_)
  rintro _ w19 ⟨⟨v16,rfl,G17⟩,hb20⟩
  refine ⟨_,rfl,?_⟩
  have szw19:=hb20.size
  have T0w19:=T.size
  have T:=Tt T hb20
  replace G17:=OwF.mono G17 T0w19
  refine RL.y rfl (Y.move (v:=.int .i64 i2) s3_1) ?_
  obtain ⟨A21,c22,rfl⟩:=OwF.form G17
  have qbA21:=OwF.bound G17
  obtain ⟨x23,hx25,hm⟩:=bnd hm
  obtain ⟨k24,hk26,hl27,hx25⟩:=getI_some hx25
  obtain ⟨b28,rfl⟩:=OwF.addr0 G17 (by omega)
  refine RL.y rfl (Y.indexAddr (m:=k24) (sz:=1) rfl rfl hk26 hl27 (by kernel_rfl))<|RL.y rfl (Y.load (v:=.string x23) rfl (by kernel_rfl) (eqC (OwF.cell fS G17 hx25 (j:=0) rfl)))<|RL.y rfl (Y.move (v:=.string d0) s0_1)<|RL.y rfl (Y.eqStr rfl rfl (by kernel_rfl))<|RL.nil<|then_n ?_
  rcases bcases (x23.toList==d0.toList) with c29|c29
  ·replace hm:=cF c29 hm
   refine cond_f rfl (vb rfl c29)<|wp_skip ?_
   refine blk_n (then_n ?_)
   refine wp_rs rfl<|RQ.y rfl (Y.move (v:=.int .i64 i2) s3_1)<|RQ.y rfl (Y.binI rfl rfl (binI_add (m:=i2) (by omega)))<|RQ.y rfl (Y.assign (v:=.int .i64 (i2+1)) rfl)<|RQ.nil ?_
   exact (then_n ⟨g,_,Nat.lt_succ_self _,rfl,⟨(i2+1),s0_1,rfl,(by omega),T,(by rw [← hrec1]; exact hm)⟩⟩)
  replace hm:=cT c29 hm
  refine cond_t rfl (vb rfl c29)<|wp_seq<|wp_rs rfl<|RQ.y rfl (Y.assign (v:=.bool true) rfl)<|RQ.nil<|then_n<|wp_ret ?_
  obtain rfl:=sj hm
  exact (blk_r (then_r (then_r (hit_r (blk_r (then_r (ret1 rfl rfl rfl ⟨rfl,T⟩)))))))
noncomputable def m_spec_IsName_A1:Option Bool:=
  some true
noncomputable def m_spec_IsName_B1 (d0:ByteArray) (rec1:Int→Option Bool) (K1:Option Bool) (i16:Int):Option Bool:=
  (bif (decide (i16 < (d0.size:Int))) then ((getB d0 i16).bind fun x19=>((m_spec_l01Letter x19).bind fun y21=>(bif y21 then (rec1 (i16+1)) else ((getB d0 i16).bind fun x24=>((m_spec_l01Digit x24).bind fun y26=>(bif y26 then (rec1 (i16+1)) else some false)))))) else (K1))
noncomputable def m_spec_IsName_L1 (d0:ByteArray) (K1:Option Bool):Nat→Int→Option Bool
  |0,_=>none
  |g+1,i16=>m_spec_IsName_B1 d0 (m_spec_IsName_L1 d0 K1 g) K1 i16
noncomputable def m_spec_IsName (d0:ByteArray):Option Bool:=
  (bif (decide ((d0.size:Int) < 1)) then some false else (bif (decide ((d0.size:Int) > 12)) then some false else ((getB d0 0).bind fun x3=>((m_spec_l01Letter x3).bind fun y5=>(bif y5 then ((m_spec_IsKeyword d0).bind fun y10=>(bif y10 then some false else (m_spec_IsName_L1 d0 m_spec_IsName_A1 (d0.size+1) 0))) else some false)))))
set_option maxHeartbeats 2000000 in
theorem c_m_spec_IsName (d0:ByteArray) (r:Bool) (hm:m_spec_IsName d0=some r)  (w:World)  :
    Calls Tryz.prog 231 #[.string d0] w fun e w'=>e=.returned (.bool r)∧Below w.heap.size w w':=by
  have T:=Below.refl w.heap.size w
  unfold m_spec_IsName at hm
  refine enter 40 Tryz.func231 rfl rfl rfl ?_
  intro f hf
  have s0:f 0=.string d0:=hf 0 _ rfl
  refine wp_seq<|wp_rs rfl<|RQ.y rfl (Y.assign (v:=.bool false) rfl)<|RQ.nil<|then_n<|wp_seq<|wp_seq<|wp_rb rfl<|RQ.y rfl (Y.move (v:=.string d0) s0)<|RQ.y rfl (Y.lenS (by kernel_rfl) rfl)<|RQ.y rfl (Y.binI (v:=.bool (decide ((d0.size:Int) < 1))) rfl rfl rfl)<|RQ.y rfl (Y.move (v:=.bool (decide ((d0.size:Int) < 1))) rfl) ?_
  rcases bcases (decide ((d0.size:Int) < 1)) with c1|c1
  ·replace hm:=cF c1 hm
   have pc1:=of_decide_eq_false c1
   refine RQ.y (wantT (dj:=7) rfl (vb rfl c1)) (Y.move (v:=.string d0) s0)<|RQ.y (wantT (dj:=7) rfl (vb rfl c1)) (Y.lenS (by kernel_rfl) rfl)<|RQ.y (wantT (dj:=7) rfl (vb rfl c1)) (Y.binI (v:=.bool (decide ((d0.size:Int) > 12))) rfl rfl rfl)<|RQ.y rfl (Y.pick (b:=false) (v:=.bool (decide ((d0.size:Int) > 12))) (vb rfl c1) rfl)<|RQ.y rfl (Y.move (v:=.bool (decide ((d0.size:Int) > 12))) rfl) ?_
   rcases bcases (decide ((d0.size:Int) > 12)) with c2|c2
   ·replace hm:=cF c2 hm
    have pc2:=of_decide_eq_false c2
    refine RQ.y (wantT (dj:=12) rfl (vb rfl c2)) (Y.move (v:=.string d0) s0) ?_
    obtain ⟨x3,e4,hm⟩:=bnd hm
    refine RQ.y (wantT (dj:=12) rfl (vb rfl c2)) (Y.idxStr (b:=x3) rfl rfl (by kernel_rfl) e4) ?_
    obtain ⟨y5,e6,hm⟩:=bnd hm
    refine RQ.call (wantT (dj:=12) rfl (vb rfl c2)) (am1 rfl) (by kernel_rfl) (v:=.bool y5) (bel (K:=fun _=>True) fun w' hb'=>(c_m_spec_l01Letter x3 _ e6  w' ))<|RQ.y (wantT (dj:=12) rfl (vb rfl c2)) (Y.not (b':=(!y5)) rfl rfl)<|RQ.y rfl (Y.pick (b:=false) (v:=.bool (!y5)) (vb rfl c2) rfl)<|RQ.y rfl (Y.move (v:=.bool (!y5)) rfl) ?_
    rcases bcases y5 with c7|c7
    ·replace hm:=cF c7 hm
     refine RQ.skip (wantN (dj:=18) rfl (vbn rfl c7 rfl) rfl)<|RQ.skip (wantN (dj:=18) rfl (vbn rfl c7 rfl) rfl)<|RQ.y rfl (Y.pick (b:=true) (v:=.bool true) (vbn rfl c7 rfl) rfl)<|RQ.nil ?_
     intro w8 hb9
     have szw8:=hb9.size
     have T:=Tt T hb9
     refine then_n<|cond_t rfl rfl<|wp_seq<|wp_rs rfl<|RQ.y rfl (Y.assign (v:=.bool false) rfl)<|RQ.nil<|then_n<|wp_ret ?_
     obtain rfl:=sj hm
     exact (then_r (ret1 rfl rfl rfl ⟨rfl,T⟩))
    replace hm:=cT c7 hm
    refine RQ.y (wantT (dj:=18) rfl (vbn rfl c7 rfl)) (Y.move (v:=.string d0) s0) ?_
    obtain ⟨y10,e11,hm⟩:=bnd hm
    refine RQ.call (wantT (dj:=18) rfl (vbn rfl c7 rfl)) (am1 rfl) (by kernel_rfl) (v:=.bool y10) (bel (K:=fun _=>True) fun w' hb'=>(c_m_spec_IsKeyword d0 _ e11  w' ))<|RQ.y rfl (Y.pick (b:=false) (v:=.bool y10) (vbn rfl c7 rfl) rfl)<|RQ.nil ?_
    intro w12 hb13
    have szw12:=hb13.size
    have T:=Tt T hb13
    refine then_n ?_
    rcases bcases y10 with c14|c14
    ·replace hm:=cF c14 hm
     refine cond_f rfl (vb rfl c14)<|wp_skip<|then_n<|wp_seq<|wp_seq<|wp_rs rfl<|RQ.y rfl (Y.assign (v:=.int .i64 0) rfl)<|RQ.nil<|then_n<|wp_block ?_
     obtain ⟨K1,hK1,hm⟩ :∃K,K=m_spec_IsName_A1∧m_spec_IsName_L1 d0 K (d0.size+1) 0=some r:=⟨_,rfl,hm⟩
     refine wp_loopX (fun g f w'=>∃(i16:Int),f 0=.string d0∧f 3=.int .i64 i16∧0≤i16∧Below w.heap.size w w'∧m_spec_IsName_L1 d0 K1 g i16=some r) 0 (fun f w'=>Below w.heap.size w w'∧m_spec_IsName_A1  = some r) (d0.size+1) ⟨0,s0,rfl,(by omega),T,hm⟩ ?_ ?_
     ·rintro f w15 ⟨T,hm⟩
      unfold m_spec_IsName_A1 at hm
      refine blk_hit (then_n ?_)
      refine wp_seq<|wp_rs rfl<|RQ.y rfl (Y.assign (v:=.bool true) rfl)<|RQ.nil<|then_n<|wp_ret ?_
      obtain rfl:=sj hm
      exact (ret1 rfl rfl rfl ⟨rfl,T⟩)
     rintro g f w17 ⟨i16,s0_1,s3_1,nn3_1,T,hm⟩
     rcases g with _|g
     ·simp only [m_spec_IsName_L1] at hm; cases hm
     obtain ⟨rec1,hrec1,hm⟩ :∃z,z=m_spec_IsName_L1 d0 K1 g∧m_spec_IsName_B1 d0 z K1 i16=some r:=⟨_,rfl,hm⟩
     unfold m_spec_IsName_B1 at hm
     refine wp_seq<|wp_seq<|wp_rs rfl<|RQ.y rfl (Y.move (v:=.int .i64 i16) s3_1)<|RQ.y rfl (Y.move (v:=.string d0) s0_1)<|RQ.y rfl (Y.lenS (by kernel_rfl) rfl)<|RQ.y rfl (Y.binI (v:=.bool (decide (i16 < (d0.size:Int)))) rfl rfl rfl)<|RQ.nil<|then_n ?_
     rcases bcases (decide (i16 < (d0.size:Int))) with c18|c18
     ·replace hm:=cF c18 hm
      have pc18:=of_decide_eq_false c18
      refine cond_f rfl (vb rfl c18)<|wp_exit ?_
      exact (then_x (then_x (hit_x ⟨_,rfl,⟨T,(by rw [hK1] at hm; exact hm)⟩⟩)))
     replace hm:=cT c18 hm
     have pc18:=of_decide_eq_true c18
     refine cond_t rfl (vb rfl c18)<|wp_skip<|then_n<|wp_seq<|wp_block<|wp_seq<|wp_rb rfl<|RQ.y rfl (Y.move (v:=.string d0) s0_1)<|RQ.y rfl (Y.move (v:=.int .i64 i16) s3_1) ?_
     obtain ⟨x19,e20,hm⟩:=bnd hm
     refine RQ.y rfl (Y.idxStr (b:=x19) rfl rfl (by kernel_rfl) e20) ?_
     obtain ⟨y21,e22,hm⟩:=bnd hm
     refine RQ.call rfl (am1 rfl) (by kernel_rfl) (v:=.bool y21) (bel (K:=fun _=>True) fun w' hb'=>(c_m_spec_l01Letter x19 _ e22  w' ))<|RQ.y rfl (Y.not (b':=(!y21)) rfl rfl)<|RQ.y rfl (Y.move (v:=.bool (!y21)) rfl) ?_
     rcases bcases y21 with c23|c23
     ·replace hm:=cF c23 hm
      refine RQ.y (wantT (dj:=33) rfl (vbn rfl c23 rfl)) (Y.move (v:=.string d0) s0_1)<|RQ.y (wantT (dj:=33) rfl (vbn rfl c23 rfl)) (Y.move (v:=.int .i64 i16) s3_1) ?_
      obtain ⟨x24,e25,hm⟩:=bnd hm
      refine RQ.y (wantT (dj:=33) rfl (vbn rfl c23 rfl)) (Y.idxStr (b:=x24) rfl rfl (by kernel_rfl) e25) ?_
      obtain ⟨y26,e27,hm⟩:=bnd hm
      refine RQ.call (wantT (dj:=33) rfl (vbn rfl c23 rfl)) (am1 rfl) (by kernel_rfl) (v:=.bool y26) (bel (K:=fun _=>True) fun w' hb'=>(c_m_spec_l01Digit x24 _ e27  w' ))<|RQ.y (wantT (dj:=33) rfl (vbn rfl c23 rfl)) (Y.not (b':=(!y26)) rfl rfl)<|RQ.y rfl (Y.pick (b:=true) (v:=.bool (!y26)) (vbn rfl c23 rfl) rfl)<|RQ.nil ?_
      intro w28 hb29
      have szw28:=hb29.size
      have T:=Tt T hb29
      refine then_n ?_
      rcases bcases y26 with c30|c30
      ·replace hm:=cF c30 hm
       refine cond_t rfl (vbn rfl c30 rfl)<|wp_seq<|wp_rs rfl<|RQ.y rfl (Y.assign (v:=.bool false) rfl)<|RQ.nil<|then_n<|wp_ret ?_
       obtain rfl:=sj hm
       exact (blk_r (then_r (then_r (hit_r (blk_r (then_r (ret1 rfl rfl rfl ⟨rfl,T⟩)))))))
      replace hm:=cT c30 hm
      refine cond_f rfl (vbn rfl c30 rfl)<|wp_skip ?_
      refine blk_n (then_n ?_)
      refine wp_rs rfl<|RQ.y rfl (Y.move (v:=.int .i64 i16) s3_1)<|RQ.y rfl (Y.binI rfl rfl (binI_add (m:=i16) (by omega)))<|RQ.y rfl (Y.assign (v:=.int .i64 (i16+1)) rfl)<|RQ.nil ?_
      exact (then_n ⟨g,_,Nat.lt_succ_self _,rfl,⟨(i16+1),s0_1,rfl,(by omega),T,(by rw [← hrec1]; exact hm)⟩⟩)
     replace hm:=cT c23 hm
     iterate 5 refine RQ.skip (wantN (dj:=33) rfl (vbn rfl c23 rfl) rfl) ?_
     refine RQ.y rfl (Y.pick (b:=false) (v:=.bool false) (vbn rfl c23 rfl) rfl)<|RQ.nil ?_
     intro w31 hb32
     have szw31:=hb32.size
     have T:=Tt T hb32
     refine then_n<|cond_f rfl rfl<|wp_skip ?_
     refine blk_n (then_n ?_)
     refine wp_rs rfl<|RQ.y rfl (Y.move (v:=.int .i64 i16) s3_1)<|RQ.y rfl (Y.binI rfl rfl (binI_add (m:=i16) (by omega)))<|RQ.y rfl (Y.assign (v:=.int .i64 (i16+1)) rfl)<|RQ.nil ?_
     exact (then_n ⟨g,_,Nat.lt_succ_self _,rfl,⟨(i16+1),s0_1,rfl,(by omega),T,(by rw [← hrec1]; exact hm)⟩⟩)
    replace hm:=cT c14 hm
    refine cond_t rfl (vb rfl c14)<|wp_seq<|wp_rs rfl<|RQ.y rfl (Y.assign (v:=.bool false) rfl)<|RQ.nil<|then_n<|wp_ret ?_
    obtain rfl:=sj hm
    exact (then_r (ret1 rfl rfl rfl ⟨rfl,T⟩))
   replace hm:=cT c2 hm
   have pc2:=of_decide_eq_true c2
   iterate 4 refine RQ.skip (wantN (dj:=12) rfl (vb rfl c2) rfl) ?_
   refine RQ.y rfl (Y.pick (b:=true) (v:=.bool true) (vb rfl c2) rfl)<|RQ.y rfl (Y.move (v:=.bool true) rfl)<|RQ.skip (wantN (dj:=18) rfl rfl rfl)<|RQ.skip (wantN (dj:=18) rfl rfl rfl)<|RQ.y rfl (Y.pick (b:=true) (v:=.bool true) rfl rfl)<|RQ.nil ?_
   intro w34 hb35
   have szw34:=hb35.size
   have T:=Tt T hb35
   refine then_n<|cond_t rfl rfl<|wp_seq<|wp_rs rfl<|RQ.y rfl (Y.assign (v:=.bool false) rfl)<|RQ.nil<|then_n<|wp_ret ?_
   obtain rfl:=sj hm
   exact (then_r (ret1 rfl rfl rfl ⟨rfl,T⟩))
  replace hm:=cT c1 hm
  have pc1:=of_decide_eq_true c1
  iterate 3 refine RQ.skip (wantN (dj:=7) rfl (vb rfl c1) rfl) ?_
  refine RQ.y rfl (Y.pick (b:=true) (v:=.bool true) (vb rfl c1) rfl)<|RQ.y rfl (Y.move (v:=.bool true) rfl) ?_
  iterate 4 refine RQ.skip (wantN (dj:=12) rfl rfl rfl) ?_
  refine RQ.y rfl (Y.pick (b:=true) (v:=.bool true) rfl rfl)<|RQ.y rfl (Y.move (v:=.bool true) rfl)<|RQ.skip (wantN (dj:=18) rfl rfl rfl)<|RQ.skip (wantN (dj:=18) rfl rfl rfl)<|RQ.y rfl (Y.pick (b:=true) (v:=.bool true) rfl rfl)<|RQ.nil ?_
  intro w36 hb37
  have szw36:=hb37.size
  have T:=Tt T hb37
  refine then_n<|cond_t rfl rfl<|wp_seq<|wp_rs rfl<|RQ.y rfl (Y.assign (v:=.bool false) rfl)<|RQ.nil<|then_n<|wp_ret ?_
  obtain rfl:=sj hm
  exact (then_r (ret1 rfl rfl rfl ⟨rfl,T⟩))
noncomputable def m_spec_IsUpper (d0:ByteArray):Option Bool:=
  ((m_spec_IsName d0).bind fun y1=>(bif y1 then ((getB d0 0).bind fun x6=>some (decide (x6≤90))) else some false))
set_option maxHeartbeats 2000000 in
theorem c_m_spec_IsUpper (d0:ByteArray) (r:Bool) (hm:m_spec_IsUpper d0=some r)  (w:World)  :
    Calls Tryz.prog 196 #[.string d0] w fun e w'=>e=.returned (.bool r)∧Below w.heap.size w w':=by
  have T:=Below.refl w.heap.size w
  unfold m_spec_IsUpper at hm
  refine enter 10 Tryz.func196 rfl rfl rfl ?_
  intro f hf
  have s0:f 0=.string d0:=hf 0 _ rfl
  refine wp_seq<|wp_rs rfl<|RQ.y rfl (Y.assign (v:=.bool false) rfl)<|RQ.nil<|then_n<|wp_seq<|wp_rb rfl<|RQ.y rfl (Y.move (v:=.string d0) s0) ?_
  obtain ⟨y1,e2,hm⟩:=bnd hm
  refine RQ.call rfl (am1 rfl) (by kernel_rfl) (v:=.bool y1) (bel (K:=fun _=>True) fun w' hb'=>(c_m_spec_IsName d0 _ e2  w' ))<|RQ.y rfl (Y.move (v:=.bool y1) rfl) ?_
  rcases bcases y1 with c3|c3
  ·replace hm:=cF c3 hm
   iterate 3 refine RQ.skip (wantN (dj:=5) rfl (vb rfl c3) rfl) ?_
   refine RQ.y rfl (Y.pick (b:=false) (v:=.bool false) (vb rfl c3) rfl)<|RQ.y rfl (Y.assign (v:=.bool false) rfl)<|RQ.nil ?_
   intro w4 hb5
   have szw4:=hb5.size
   have T:=Tt T hb5
   refine then_n<|wp_ret ?_
   obtain rfl:=sj hm
   exact (ret1 rfl rfl rfl ⟨rfl,T⟩)
  replace hm:=cT c3 hm
  refine RQ.y (wantT (dj:=5) rfl (vb rfl c3)) (Y.move (v:=.string d0) s0) ?_
  obtain ⟨x6,e7,hm⟩:=bnd hm
  refine RQ.y (wantT (dj:=5) rfl (vb rfl c3)) (Y.idxStr (b:=x6) rfl rfl (by kernel_rfl) e7)<|RQ.y (wantT (dj:=5) rfl (vb rfl c3)) (Y.binI (v:=.bool (decide (x6≤90))) rfl rfl rfl)<|RQ.y rfl (Y.pick (b:=true) (v:=.bool (decide (x6≤90))) (vb rfl c3) rfl)<|RQ.y rfl (Y.assign (v:=.bool (decide (x6≤90))) rfl)<|RQ.nil ?_
  intro w8 hb9
  have szw8:=hb9.size
  have T:=Tt T hb9
  refine then_n<|wp_ret ?_
  obtain rfl:=sj hm
  exact (ret1 rfl rfl rfl ⟨rfl,T⟩)
noncomputable def m_spec_l02Named_A1:Option Int:=
  some (-1)
noncomputable def m_spec_l02Named_B1 (d0:List DData) (d1:ByteArray) (rec1:Int→Option Int) (K1:Option Int) (i2:Int):Option Int:=
  (bif (decide (i2 < (d0.length:Int))) then ((getI d0 i2).bind fun x5=>(bif (x5.name.toList==d1.toList) then some i2 else (rec1 (i2+1)))) else (K1))
noncomputable def m_spec_l02Named_L1 (d0:List DData) (d1:ByteArray) (K1:Option Int):Nat→Int→Option Int
  |0,_=>none
  |g+1,i2=>m_spec_l02Named_B1 d0 d1 (m_spec_l02Named_L1 d0 d1 K1 g) K1 i2
noncomputable def m_spec_l02Named (d0:List DData) (d1:ByteArray):Option Int:=
  (m_spec_l02Named_L1 d0 d1 m_spec_l02Named_A1 (d0.length+1) 0)
set_option maxHeartbeats 2000000 in
theorem c_m_spec_l02Named (d0:List DData) (d1:ByteArray) (r:Int) (hm:m_spec_l02Named d0 d1=some r) (v0:Value) (w:World) (hv0:Sl dataRd 2 w v0 d0) :
    Calls Tryz.prog 140 #[v0,.string d1] w fun e w'=>e=.returned (.int .i64 r)∧Below w.heap.size w w':=by
  obtain ⟨Aa0,na0,ca0,rfl,ha0,ra0⟩:=hv0
  have ea0:=ha0.len; subst ea0
  have qa0:=len_le ra0
  have T:=Below.refl w.heap.size w
  unfold m_spec_l02Named at hm
  refine enter 20 Tryz.func140 rfl rfl rfl ?_
  intro f hf
  have s0:f 0=.slice Aa0 d0.length ca0:=hf 0 _ rfl
  have s1:f 1=.string d1:=hf 1 _ rfl
  refine wp_seq<|wp_rs rfl<|RQ.y rfl (Y.assign (v:=.int .i64 0) rfl)<|RQ.nil<|then_n<|wp_seq<|wp_seq<|wp_rs rfl<|RQ.y rfl (Y.assign (v:=.int .i64 0) rfl)<|RQ.nil<|then_n<|wp_block ?_
  obtain ⟨K1,hK1,hm⟩ :∃K,K=m_spec_l02Named_A1∧m_spec_l02Named_L1 d0 d1 K (d0.length+1) 0=some r:=⟨_,rfl,hm⟩
  refine wp_loopX (fun g f w'=>∃(i2:Int),f 0=.slice Aa0 d0.length ca0∧f 1=.string d1∧f 5=.int .i64 i2∧0≤i2∧Below w.heap.size w w'∧m_spec_l02Named_L1 d0 d1 K1 g i2=some r) 0 (fun f w'=>Below w.heap.size w w'∧m_spec_l02Named_A1  = some r) (d0.length+1) ⟨0,s0,s1,rfl,(by omega),T,hm⟩ ?_ ?_
  ·rintro f w1 ⟨T,hm⟩
   unfold m_spec_l02Named_A1 at hm
   refine blk_hit (then_n ?_)
   refine wp_seq<|wp_rs rfl<|RQ.y rfl (Y.assign (v:=.int .i64 (-1)) rfl)<|RQ.nil<|then_n<|wp_ret ?_
   obtain rfl:=sj hm
   exact (ret1 rfl rfl rfl ⟨rfl,T⟩)
  rintro g f w3 ⟨i2,s0_1,s1_1,s5_1,nn5_1,T,hm⟩
  rcases g with _|g
  ·simp only [m_spec_l02Named_L1] at hm; cases hm
  obtain ⟨rec1,hrec1,hm⟩ :∃z,z=m_spec_l02Named_L1 d0 d1 K1 g∧m_spec_l02Named_B1 d0 d1 z K1 i2=some r:=⟨_,rfl,hm⟩
  unfold m_spec_l02Named_B1 at hm
  refine wp_seq<|wp_seq<|wp_rs rfl<|RQ.y rfl (Y.move (v:=.int .i64 i2) s5_1)<|RQ.y rfl (Y.move (v:=.slice Aa0 d0.length ca0) s0_1)<|RQ.y rfl (Y.len (by kernel_rfl) rfl)<|RQ.y rfl (Y.binI (v:=.bool (decide (i2 < (d0.length:Int)))) rfl rfl rfl)<|RQ.nil<|then_n ?_
  rcases bcases (decide (i2 < (d0.length:Int))) with c4|c4
  ·replace hm:=cF c4 hm
   have pc4:=of_decide_eq_false c4
   refine cond_f rfl (vb rfl c4)<|wp_exit ?_
   exact (then_x (then_x (hit_x ⟨_,rfl,⟨T,(by rw [hK1] at hm; exact hm)⟩⟩)))
  replace hm:=cT c4 hm
  have pc4:=of_decide_eq_true c4
  refine cond_t rfl (vb rfl c4)<|wp_skip<|then_n<|wp_seq<|wp_block<|wp_seq<|wp_rs rfl<|RQ.y rfl (Y.move (v:=.slice Aa0 d0.length ca0) s0_1)<|RQ.y rfl (Y.move (v:=.int .i64 i2) s5_1) ?_
  obtain ⟨x5,hx8,hm⟩:=bnd hm
  obtain ⟨k6,hk9,hl10,hx8⟩:=getI_some hx8
  obtain ⟨b12,o13,rfl,hbb12⟩:=ha0.addr (by omega)
  obtain ⟨cs7,hRcs7,hc11⟩:=ha0.el hx8
  have hScs7:=hRcs7
  obtain ⟨A14,n14,c14,rfl,⟨h14,r14⟩⟩:=hRcs7
  have e14:=h14.len; subst e14
  have q14:=len_le r14
  refine RQ.y rfl (Y.indexAddr (m:=k6) (sz:=2) rfl rfl hk9 hl10 (by kernel_rfl))<|RQ.y rfl (Y.fieldAddr (off:=0) rfl (by kernel_rfl))<|RQ.y rfl (Y.load (v:=.string x5.name) rfl (by kernel_rfl) (eqC (cellT T (hc11 0 _ rfl))))<|RQ.y rfl (Y.move (v:=.string d1) s1_1)<|RQ.y rfl (Y.eqStr rfl rfl (by kernel_rfl))<|RQ.nil<|then_n ?_
  rcases bcases (x5.name.toList==d1.toList) with c15|c15
  ·replace hm:=cF c15 hm
   refine cond_f rfl (vb rfl c15)<|wp_skip ?_
   refine blk_n (then_n ?_)
   refine wp_rs rfl<|RQ.y rfl (Y.move (v:=.int .i64 i2) s5_1)<|RQ.y rfl (Y.binI rfl rfl (binI_add (m:=i2) (by omega)))<|RQ.y rfl (Y.assign (v:=.int .i64 (i2+1)) rfl)<|RQ.nil ?_
   exact (then_n ⟨g,_,Nat.lt_succ_self _,rfl,⟨(i2+1),s0_1,s1_1,rfl,(by omega),T,(by rw [← hrec1]; exact hm)⟩⟩)
  replace hm:=cT c15 hm
  refine cond_t rfl (vb rfl c15)<|wp_seq<|wp_rs rfl<|RQ.y rfl (Y.move (v:=.int .i64 i2) s5_1)<|RQ.y rfl (Y.assign (v:=.int .i64 i2) rfl)<|RQ.nil<|then_n<|wp_ret ?_
  obtain rfl:=sj hm
  exact (blk_r (then_r (then_r (hit_r (blk_r (then_r (ret1 rfl rfl rfl ⟨rfl,T⟩)))))))
noncomputable def m_spec_l02Nodes_A1 (i13:Int):Option Int:=
  some i13
noncomputable def m_spec_l02Nodes_B1 (d0:DType) (d1:Int) (self:DType→Int→Option Int) (rec1:Int→Int→Option Int) (K1:Int→Option Int) (i15:Int) (i16:Int):Option Int:=
  (bif (decide (i16 < (d0.kids.length:Int))) then ((getI d0.kids i16).bind fun x19=>((ck (d1 - 1)).bind fun s29=>((self x19 s29).bind fun y30=>(bif (decide (y30 < 0)) then some (-1) else ((ck (i15+y30)).bind fun s35=>(rec1 s35 (i16+1))))))) else (K1 i15))
noncomputable def m_spec_l02Nodes_L1 (d0:DType) (d1:Int) (self:DType→Int→Option Int) (K1:Int→Option Int):Nat→Int→Int→Option Int
  |0,_,_=>none
  |g+1,i15,i16=>m_spec_l02Nodes_B1 d0 d1 self (m_spec_l02Nodes_L1 d0 d1 self K1 g) K1 i15 i16
noncomputable def m_spec_l02Nodes_A2 (i38:Int):Option Int:=
  some i38
noncomputable def m_spec_l02Nodes_B2 (d0:DType) (d1:Int) (self:DType→Int→Option Int) (rec2:Int→Int→Option Int) (K2:Int→Option Int) (i40:Int) (i41:Int):Option Int:=
  (bif (decide (i41 < (d0.kids.length:Int))) then ((getI d0.kids i41).bind fun x44=>((ck (d1 - 1)).bind fun s54=>((self x44 s54).bind fun y55=>(bif (decide (y55 < 0)) then some (-1) else ((ck (i40+y55)).bind fun s60=>(rec2 s60 (i41+1))))))) else (K2 i40))
noncomputable def m_spec_l02Nodes_L2 (d0:DType) (d1:Int) (self:DType→Int→Option Int) (K2:Int→Option Int):Nat→Int→Int→Option Int
  |0,_,_=>none
  |g+1,i40,i41=>m_spec_l02Nodes_B2 d0 d1 self (m_spec_l02Nodes_L2 d0 d1 self K2 g) K2 i40 i41
noncomputable def m_spec_l02Nodes_A3 (i64:Int):Option Int:=
  some i64
noncomputable def m_spec_l02Nodes_B3 (d0:DType) (d1:Int) (self:DType→Int→Option Int) (rec3:Int→Int→Option Int) (K3:Int→Option Int) (i66:Int) (i67:Int):Option Int:=
  (bif (decide (i67 < (d0.kids.length:Int))) then ((getI d0.kids i67).bind fun x70=>((ck (d1 - 1)).bind fun s80=>((self x70 s80).bind fun y81=>(bif (decide (y81 < 0)) then some (-1) else ((ck (i66+y81)).bind fun s86=>(rec3 s86 (i67+1))))))) else (K3 i66))
noncomputable def m_spec_l02Nodes_L3 (d0:DType) (d1:Int) (self:DType→Int→Option Int) (K3:Int→Option Int):Nat→Int→Int→Option Int
  |0,_,_=>none
  |g+1,i66,i67=>m_spec_l02Nodes_B3 d0 d1 self (m_spec_l02Nodes_L3 d0 d1 self K3 g) K3 i66 i67
noncomputable def m_spec_l02Nodes_A4 (i89:Int):Option Int:=
  some i89
noncomputable def m_spec_l02Nodes_B4 (d0:DType) (d1:Int) (self:DType→Int→Option Int) (rec4:Int→Int→Option Int) (K4:Int→Option Int) (i91:Int) (i92:Int):Option Int:=
  (bif (decide (i92 < (d0.kids.length:Int))) then ((getI d0.kids i92).bind fun x95=>((ck (d1 - 1)).bind fun s105=>((self x95 s105).bind fun y106=>(bif (decide (y106 < 0)) then some (-1) else ((ck (i91+y106)).bind fun s111=>(rec4 s111 (i92+1))))))) else (K4 i91))
noncomputable def m_spec_l02Nodes_L4 (d0:DType) (d1:Int) (self:DType→Int→Option Int) (K4:Int→Option Int):Nat→Int→Int→Option Int
  |0,_,_=>none
  |g+1,i91,i92=>m_spec_l02Nodes_B4 d0 d1 self (m_spec_l02Nodes_L4 d0 d1 self K4 g) K4 i91 i92
noncomputable def m_spec_l02Nodes_A5 (i123:Int):Option Int:=
  some i123
noncomputable def m_spec_l02Nodes_B5 (d0:DType) (d1:Int) (self:DType→Int→Option Int) (rec5:Int→Int→Option Int) (K5:Int→Option Int) (i125:Int) (i126:Int):Option Int:=
  (bif (decide (i126 < (d0.kids.length:Int))) then ((getI d0.kids i126).bind fun x129=>((ck (d1 - 1)).bind fun s139=>((self x129 s139).bind fun y140=>(bif (decide (y140 < 0)) then some (-1) else ((ck (i125+y140)).bind fun s145=>(rec5 s145 (i126+1))))))) else (K5 i125))
noncomputable def m_spec_l02Nodes_L5 (d0:DType) (d1:Int) (self:DType→Int→Option Int) (K5:Int→Option Int):Nat→Int→Int→Option Int
  |0,_,_=>none
  |g+1,i125,i126=>m_spec_l02Nodes_B5 d0 d1 self (m_spec_l02Nodes_L5 d0 d1 self K5 g) K5 i125 i126
noncomputable def m_spec_l02Nodes_A6 (i148:Int):Option Int:=
  some i148
noncomputable def m_spec_l02Nodes_B6 (d0:DType) (d1:Int) (self:DType→Int→Option Int) (rec6:Int→Int→Option Int) (K6:Int→Option Int) (i150:Int) (i151:Int):Option Int:=
  (bif (decide (i151 < (d0.kids.length:Int))) then ((getI d0.kids i151).bind fun x154=>((ck (d1 - 1)).bind fun s164=>((self x154 s164).bind fun y165=>(bif (decide (y165 < 0)) then some (-1) else ((ck (i150+y165)).bind fun s170=>(rec6 s170 (i151+1))))))) else (K6 i150))
noncomputable def m_spec_l02Nodes_L6 (d0:DType) (d1:Int) (self:DType→Int→Option Int) (K6:Int→Option Int):Nat→Int→Int→Option Int
  |0,_,_=>none
  |g+1,i150,i151=>m_spec_l02Nodes_B6 d0 d1 self (m_spec_l02Nodes_L6 d0 d1 self K6 g) K6 i150 i151
noncomputable def m_spec_l02Nodes_A7 (i174:Int):Option Int:=
  some i174
noncomputable def m_spec_l02Nodes_B7 (d0:DType) (d1:Int) (self:DType→Int→Option Int) (rec7:Int→Int→Option Int) (K7:Int→Option Int) (i176:Int) (i177:Int):Option Int:=
  (bif (decide (i177 < (d0.kids.length:Int))) then ((getI d0.kids i177).bind fun x180=>((ck (d1 - 1)).bind fun s190=>((self x180 s190).bind fun y191=>(bif (decide (y191 < 0)) then some (-1) else ((ck (i176+y191)).bind fun s196=>(rec7 s196 (i177+1))))))) else (K7 i176))
noncomputable def m_spec_l02Nodes_L7 (d0:DType) (d1:Int) (self:DType→Int→Option Int) (K7:Int→Option Int):Nat→Int→Int→Option Int
  |0,_,_=>none
  |g+1,i176,i177=>m_spec_l02Nodes_B7 d0 d1 self (m_spec_l02Nodes_L7 d0 d1 self K7 g) K7 i176 i177
noncomputable def m_spec_l02Nodes_A8 (i199:Int):Option Int:=
  some i199
noncomputable def m_spec_l02Nodes_B8 (d0:DType) (d1:Int) (self:DType→Int→Option Int) (rec8:Int→Int→Option Int) (K8:Int→Option Int) (i201:Int) (i202:Int):Option Int:=
  (bif (decide (i202 < (d0.kids.length:Int))) then ((getI d0.kids i202).bind fun x205=>((ck (d1 - 1)).bind fun s215=>((self x205 s215).bind fun y216=>(bif (decide (y216 < 0)) then some (-1) else ((ck (i201+y216)).bind fun s221=>(rec8 s221 (i202+1))))))) else (K8 i201))
noncomputable def m_spec_l02Nodes_L8 (d0:DType) (d1:Int) (self:DType→Int→Option Int) (K8:Int→Option Int):Nat→Int→Int→Option Int
  |0,_,_=>none
  |g+1,i201,i202=>m_spec_l02Nodes_B8 d0 d1 self (m_spec_l02Nodes_L8 d0 d1 self K8 g) K8 i201 i202
noncomputable def m_spec_l02Nodes_R (self:DType→Int→Option Int) (d0:DType) (d1:Int):Option Int:=
  (bif (decide (d1 < 1)) then some (-1) else (bif (d0.kind==1) then (bif ((d0.kids.length:Int) != 0) then some (-1) else (bif (d0.kind != 2) then (bif (d0.name.toList==(ByteArray.mk #[]).toList) then (m_spec_l02Nodes_L8 d0 d1 self m_spec_l02Nodes_A8 (d0.kids.length+1) 1 0) else some (-1)) else (m_spec_l02Nodes_L7 d0 d1 self m_spec_l02Nodes_A7 (d0.kids.length+1) 1 0))) else (bif (d0.kind==2) then ((m_spec_IsUpper d0.name).bind fun y113=>(bif y113 then (bif (d0.name.toList==(ByteArray.mk #[73,110,116]).toList) then some (-1) else (bif ((d0.kids.length:Int) != 0) then some (-1) else (bif (d0.kind != 2) then (bif (d0.name.toList==(ByteArray.mk #[]).toList) then (m_spec_l02Nodes_L6 d0 d1 self m_spec_l02Nodes_A6 (d0.kids.length+1) 1 0) else some (-1)) else (m_spec_l02Nodes_L5 d0 d1 self m_spec_l02Nodes_A5 (d0.kids.length+1) 1 0)))) else some (-1))) else (bif (d0.kind==3) then (bif ((d0.kids.length:Int) != 2) then some (-1) else (bif (d0.kind != 2) then (bif (d0.name.toList==(ByteArray.mk #[]).toList) then (m_spec_l02Nodes_L4 d0 d1 self m_spec_l02Nodes_A4 (d0.kids.length+1) 1 0) else some (-1)) else (m_spec_l02Nodes_L3 d0 d1 self m_spec_l02Nodes_A3 (d0.kids.length+1) 1 0))) else (bif (d0.kind==4) then (bif ((d0.kids.length:Int) != 1) then some (-1) else (bif (d0.kind != 2) then (bif (d0.name.toList==(ByteArray.mk #[]).toList) then (m_spec_l02Nodes_L2 d0 d1 self m_spec_l02Nodes_A2 (d0.kids.length+1) 1 0) else some (-1)) else (m_spec_l02Nodes_L1 d0 d1 self m_spec_l02Nodes_A1 (d0.kids.length+1) 1 0))) else some (-1))))))
noncomputable def m_spec_l02Nodes:Nat→DType→Int→Option Int
  |0,_,_=>none
  |gas+1,d0,d1=>m_spec_l02Nodes_R (m_spec_l02Nodes gas) d0 d1
set_option maxHeartbeats 2000000 in
theorem c_m_spec_l02Nodes :∀(gas:Nat) (d0:DType) (d1:Int) (r:Int) (hm:m_spec_l02Nodes gas d0 d1=some r) (v0:Value) (w:World) (hv0:St typeRd w v0 d0),
    Calls Tryz.prog 259 #[v0,.int .i64 d1] w fun e w'=>e=.returned (.int .i64 r)∧Below w.heap.size w w':=by
  intro gas
  induction gas with
  |zero=>
   intro d0 d1 r hm v0 w hv0
   cases hm
  |succ gas ih=>
   intro d0 d1 r hm v0 w hv0
   obtain ⟨csa0,rfl,hRR0⟩:=hv0
   obtain ⟨A1,n1,c1,rfl,⟨h1,r1⟩⟩:=(typeRd_out hRR0)
   have e1:=h1.len; subst e1
   have q1:=len_le r1
   have T:=Below.refl w.heap.size w
   obtain ⟨self,hself,hm⟩ :∃s,s=m_spec_l02Nodes gas∧m_spec_l02Nodes_R s d0 d1=some r:=⟨_,rfl,hm⟩
   unfold m_spec_l02Nodes_R at hm
   refine enter 66 Tryz.func259 rfl rfl rfl ?_
   intro f hf
   have s0:f 0=.agg #[.int .i64 d0.kind,.string d0.name,.slice A1 d0.kids.length c1]:=hf 0 _ rfl
   have s1:f 1=.int .i64 d1:=hf 1 _ rfl
   refine wp_seq<|wp_rl rfl ?_
   refine RL.box rfl s0 (fun w2 B3 hb4 szw2=>?_)
   replace B3:Blk w2 w.heap.size 114 #[.int .i64 d0.kind,.string d0.name,.slice A1 d0.kids.length c1]:=B3
   have GB3:w.heap.size≤w.heap.size:=T.size
   have T:=Tt T hb4
   refine RL.y rfl (Y.assign (v:=.int .i64 0) rfl)<|RL.nil<|then_n<|wp_seq<|wp_seq<|wp_rs rfl<|RQ.y rfl (Y.move (v:=.int .i64 d1) s1)<|RQ.y rfl (Y.binI (v:=.bool (decide (d1 < 1))) rfl rfl rfl)<|RQ.nil<|then_n ?_
   rcases bcases (decide (d1 < 1)) with c6|c6
   ·replace hm:=cF c6 hm
    have pc6:=of_decide_eq_false c6
    refine cond_f rfl (vb rfl c6)<|wp_skip<|then_n<|wp_seq<|wp_rs rfl<|RQ.y rfl (Y.assign (v:=.int .i64 0) rfl)<|RQ.nil<|then_n<|wp_seq<|wp_seq<|wp_rs rfl<|RQ.y rfl (Y.fieldAddr (off:=0) rfl (by kernel_rfl))<|RQ.y rfl (Y.load (v:=.int .i64 d0.kind) rfl (by kernel_rfl) (eqC (blkCell B3 (i:=0) rfl)))<|RQ.nil<|then_n<|wp_block<|wp_seq<|wp_rs rfl<|RQ.y rfl (Y.binI (v:=.bool (d0.kind==1)) rfl rfl rfl)<|RQ.y rfl (Y.assign (v:=.bool (d0.kind==1)) rfl)<|RQ.nil<|then_n ?_
    rcases bcases (d0.kind==1) with c7|c7
    ·replace hm:=cF c7 hm
     refine cond_f rfl (vb rfl c7)<|wp_seq<|wp_rs rfl<|RQ.y rfl (Y.binI (v:=.bool (d0.kind==2)) rfl rfl rfl)<|RQ.y rfl (Y.assign (v:=.bool (d0.kind==2)) rfl)<|RQ.nil<|then_n ?_
     rcases bcases (d0.kind==2) with c8|c8
     ·replace hm:=cF c8 hm
      refine cond_f rfl (vb rfl c8)<|wp_seq<|wp_rs rfl<|RQ.y rfl (Y.binI (v:=.bool (d0.kind==3)) rfl rfl rfl)<|RQ.y rfl (Y.assign (v:=.bool (d0.kind==3)) rfl)<|RQ.nil<|then_n ?_
      rcases bcases (d0.kind==3) with c9|c9
      ·replace hm:=cF c9 hm
       refine cond_f rfl (vb rfl c9)<|wp_seq<|wp_rs rfl<|RQ.y rfl (Y.binI (v:=.bool (d0.kind==4)) rfl rfl rfl)<|RQ.y rfl (Y.assign (v:=.bool (d0.kind==4)) rfl)<|RQ.nil<|then_n ?_
       rcases bcases (d0.kind==4) with c10|c10
       ·replace hm:=cF c10 hm
        refine cond_f rfl (vb rfl c10)<|wp_seq<|wp_rs rfl<|RQ.y rfl (Y.assign (v:=.int .i64 (-1)) rfl)<|RQ.nil<|then_n<|wp_ret ?_
        obtain rfl:=sj hm
        exact (blk_r (then_r (ret1 rfl rfl rfl ⟨rfl,T⟩)))
       replace hm:=cT c10 hm
       refine cond_t rfl (vb rfl c10)<|wp_rs rfl<|RQ.y rfl (Y.assign (v:=.int .i64 1) rfl)<|RQ.nil ?_
       refine blk_n (then_n ?_)
       refine wp_seq<|wp_seq<|wp_rs rfl<|RQ.y rfl (Y.fieldAddr (off:=2) rfl (by kernel_rfl))<|RQ.y rfl (Y.load (v:=.slice A1 d0.kids.length c1) rfl (by kernel_rfl) (eqC (blkCell B3 (i:=2) rfl)))<|RQ.y rfl (Y.len (by kernel_rfl) rfl)<|RQ.y rfl (Y.move (v:=.int .i64 1) rfl)<|RQ.y rfl (Y.binI (v:=.bool ((d0.kids.length:Int) != 1)) rfl rfl rfl)<|RQ.y rfl (Y.move (v:=.bool ((d0.kids.length:Int) != 1)) rfl) ?_
       rcases bcases ((d0.kids.length:Int) != 1) with c11|c11
       ·replace hm:=cF c11 hm
        refine RQ.y (wantT (dj:=35) rfl (vb rfl c11)) (Y.fieldAddr (off:=0) rfl (by kernel_rfl))<|RQ.y (wantT (dj:=35) rfl (vb rfl c11)) (Y.load (v:=.int .i64 d0.kind) rfl (by kernel_rfl) (eqC (blkCell B3 (i:=0) rfl)))<|RQ.y (wantT (dj:=35) rfl (vb rfl c11)) (Y.binI (v:=.bool (d0.kind != 2)) rfl rfl rfl)<|RQ.y (wantT (dj:=35) rfl (vb rfl c11)) (Y.move (v:=.bool (d0.kind != 2)) rfl) ?_
        rcases bcases (d0.kind != 2) with c12|c12
        ·replace hm:=cF c12 hm
         iterate 3 refine RQ.skip (wantN (dj:=39) rfl (vb rfl c12) rfl) ?_
         refine RQ.y (wantT (dj:=35) rfl (vb rfl c11)) (Y.pick (b:=false) (v:=.bool false) (vb rfl c12) rfl)<|RQ.y rfl (Y.pick (b:=false) (v:=.bool false) (vb rfl c11) rfl)<|RQ.nil<|then_n<|cond_f rfl rfl<|wp_skip<|then_n<|wp_seq<|wp_rs rfl<|RQ.y rfl (Y.assign (v:=.int .i64 1) rfl)<|RQ.nil<|then_n<|wp_seq<|wp_seq<|wp_rs rfl<|RQ.y rfl (Y.assign (v:=.int .i64 0) rfl)<|RQ.nil<|then_n<|wp_block ?_
         obtain ⟨K1,hK1,hm⟩ :∃K,K=m_spec_l02Nodes_A1∧m_spec_l02Nodes_L1 d0 d1 self K (d0.kids.length+1) 1 0=some r:=⟨_,rfl,hm⟩
         refine wp_loopX (fun g f w'=>∃(i15:Int) (i16:Int),f 1=.int .i64 d1∧f 2=.pointer (some ⟨w.heap.size,0,none⟩)∧f 6=.int .i64 i15∧f 7=.int .i64 i16∧0≤i16∧Blk w' w.heap.size 114 #[.int .i64 d0.kind,.string d0.name,.slice A1 d0.kids.length c1]∧Below w.heap.size w w'∧m_spec_l02Nodes_L1 d0 d1 self K1 g i15 i16=some r) 1 (fun f w'=>∃(i13:Int),f 6=.int .i64 i13∧Blk w' w.heap.size 114 #[.int .i64 d0.kind,.string d0.name,.slice A1 d0.kids.length c1]∧Below w.heap.size w w'∧m_spec_l02Nodes_A1 i13=some r) (d0.kids.length+1) ⟨1,0,s1,rfl,rfl,rfl,(by omega),B3,T,hm⟩ ?_ ?_
         ·rintro f w14 ⟨i13,s6_1x,B3,T,hm⟩
          unfold m_spec_l02Nodes_A1 at hm
          refine blk_hit (then_n ?_)
          refine wp_seq<|wp_rs rfl<|RQ.y rfl (Y.move (v:=.int .i64 i13) s6_1x)<|RQ.y rfl (Y.assign (v:=.int .i64 i13) rfl)<|RQ.nil<|then_n<|wp_ret ?_
          obtain rfl:=sj hm
          exact (ret1 rfl rfl rfl ⟨rfl,T⟩)
         rintro g f w17 ⟨i15,i16,s1_1,s2_1,s6_1,s7_1,nn7_1,B3,T,hm⟩
         rcases g with _|g
         ·simp only [m_spec_l02Nodes_L1] at hm; cases hm
         obtain ⟨rec1,hrec1,hm⟩ :∃z,z=m_spec_l02Nodes_L1 d0 d1 self K1 g∧m_spec_l02Nodes_B1 d0 d1 self z K1 i15 i16=some r:=⟨_,rfl,hm⟩
         unfold m_spec_l02Nodes_B1 at hm
         refine wp_seq<|wp_seq<|wp_rs rfl<|RQ.y rfl (Y.move (v:=.int .i64 i16) s7_1)<|RQ.y rfl (Y.fieldAddr (off:=2) s2_1 (by kernel_rfl))<|RQ.y rfl (Y.load (v:=.slice A1 d0.kids.length c1) rfl (by kernel_rfl) (eqC (blkCell B3 (i:=2) rfl)))<|RQ.y rfl (Y.len (by kernel_rfl) rfl)<|RQ.y rfl (Y.binI (v:=.bool (decide (i16 < (d0.kids.length:Int)))) rfl rfl rfl)<|RQ.nil<|then_n ?_
         rcases bcases (decide (i16 < (d0.kids.length:Int))) with c18|c18
         ·replace hm:=cF c18 hm
          have pc18:=of_decide_eq_false c18
          refine cond_f rfl (vb rfl c18)<|wp_exit ?_
          exact (then_x (then_x (hit_x ⟨_,rfl,⟨i15,s6_1,B3,T,(by rw [hK1] at hm; exact hm)⟩⟩)))
         replace hm:=cT c18 hm
         have pc18:=of_decide_eq_true c18
         refine cond_t rfl (vb rfl c18)<|wp_skip<|then_n<|wp_seq<|wp_block<|wp_seq<|wp_rb rfl<|RQ.y rfl (Y.fieldAddr (off:=2) s2_1 (by kernel_rfl))<|RQ.y rfl (Y.load (v:=.slice A1 d0.kids.length c1) rfl (by kernel_rfl) (beC (blkCell B3 (i:=2) rfl)))<|RQ.y rfl (Y.move (v:=.int .i64 i16) s7_1) ?_
         obtain ⟨x19,hx22,hm⟩:=bnd hm
         obtain ⟨k20,hk23,hl24,hx22⟩:=getI_some hx22
         obtain ⟨b26,o27,rfl,hbb26⟩:=h1.addr (by omega)
         obtain ⟨cs21,hRcs21,hc25⟩:=h1.el hx22
         have hScs21:=hRcs21
         obtain ⟨A28,n28,c28,rfl,⟨h28,r28⟩⟩:=(typeRd_out hRcs21)
         have e28:=h28.len; subst e28
         have q28:=len_le r28
         refine RQ.y rfl (Y.indexAddr (m:=k20) (sz:=3) rfl rfl hk23 hl24 (by kernel_rfl))<|RQ.y rfl (Y.loadN (cs:=[.int .i64 x19.kind,.string x19.name,.slice A28 x19.kids.length c28]) rfl (by kernel_rfl) (cells3 (beC (cellT T (hc25 0 _ rfl))) (beC (cellT T (hc25 1 _ rfl))) (beC (cellT T (hc25 2 _ rfl)))))<|RQ.y rfl (Y.move (v:=.int .i64 d1) s1_1) ?_
         obtain ⟨s29,ks29,hm⟩:=bnd hm
         replace ks29:=ck_some ks29
         refine RQ.y rfl (Y.binI (v:=.int .i64 s29) rfl rfl (by rw [binI_sub ks29.2,ks29.1])) ?_
         obtain ⟨y30,e31,hm⟩:=bnd hm
         refine RQ.call rfl (am2 rfl rfl) (by kernel_rfl) (v:=.int .i64 y30) (bel (K:=fun _=>True) fun w' hb'=>(ih x19 s29 _ (by rw [← hself]; exact e31) _ w' (stArg (R:=typeRd) (typeRd_in ⟨_,_,_,rfl,⟨SlAt.now typeRd_ok h28 (Nat.le_refl _) (Tt T hb'),r28⟩⟩))))<|RQ.y rfl (Y.assign (v:=.int .i64 y30) rfl)<|RQ.nil ?_
         intro w32 hb33
         have szw32:=hb33.size
         have B3:=blkT B3 hb33
         have T:=Tt T hb33
         refine then_n<|wp_seq<|wp_seq<|wp_rs rfl<|RQ.y rfl (Y.move (v:=.int .i64 y30) rfl)<|RQ.y rfl (Y.binI (v:=.bool (decide (y30 < 0))) rfl rfl rfl)<|RQ.nil<|then_n ?_
         rcases bcases (decide (y30 < 0)) with c34|c34
         ·replace hm:=cF c34 hm
          have pc34:=of_decide_eq_false c34
          refine cond_f rfl (vb rfl c34)<|wp_skip<|then_n<|wp_rs rfl<|RQ.y rfl (Y.move (v:=.int .i64 i15) s6_1)<|RQ.y rfl (Y.move (v:=.int .i64 y30) rfl) ?_
          obtain ⟨s35,ks35,hm⟩:=bnd hm
          replace ks35:=ck_some ks35
          refine RQ.y rfl (Y.binI (v:=.int .i64 s35) rfl rfl (by rw [binI_add ks35.2,ks35.1]))<|RQ.y rfl (Y.assign (v:=.int .i64 s35) rfl)<|RQ.nil ?_
          refine blk_n (then_n ?_)
          refine wp_rs rfl<|RQ.y rfl (Y.move (v:=.int .i64 i16) s7_1)<|RQ.y rfl (Y.binI rfl rfl (binI_add (m:=i16) (by omega)))<|RQ.y rfl (Y.assign (v:=.int .i64 (i16+1)) rfl)<|RQ.nil ?_
          exact (then_n ⟨g,_,Nat.lt_succ_self _,rfl,⟨s35,(i16+1),s1_1,s2_1,rfl,rfl,(by omega),B3,T,(by rw [← hrec1]; exact hm)⟩⟩)
         replace hm:=cT c34 hm
         have pc34:=of_decide_eq_true c34
         refine cond_t rfl (vb rfl c34)<|wp_seq<|wp_rs rfl<|RQ.y rfl (Y.assign (v:=.int .i64 (-1)) rfl)<|RQ.nil<|then_n<|wp_ret ?_
         obtain rfl:=sj hm
         exact (then_r (blk_r (then_r (then_r (hit_r (blk_r (then_r (ret1 rfl rfl rfl ⟨rfl,T⟩))))))))
        replace hm:=cT c12 hm
        refine RQ.y (wantT (dj:=39) rfl (vb rfl c12)) (Y.fieldAddr (off:=1) rfl (by kernel_rfl))<|RQ.y (wantT (dj:=39) rfl (vb rfl c12)) (Y.load (v:=.string d0.name) rfl (by kernel_rfl) (eqC (blkCell B3 (i:=1) rfl)))<|RQ.y (wantT (dj:=39) rfl (vb rfl c12)) (Y.neStr rfl rfl (by kernel_rfl))<|RQ.y (wantT (dj:=35) rfl (vb rfl c11)) (Y.pick (b:=true) (v:=.bool (!(d0.name.toList==(ByteArray.mk #[]).toList))) (vb rfl c12) rfl)<|RQ.y rfl (Y.pick (b:=false) (v:=.bool (!(d0.name.toList==(ByteArray.mk #[]).toList))) (vb rfl c11) rfl)<|RQ.nil<|then_n ?_
        rcases bcases (d0.name.toList==(ByteArray.mk #[]).toList) with c37|c37
        ·replace hm:=cF c37 hm
         refine cond_t rfl (vbn rfl c37 rfl)<|wp_seq<|wp_rs rfl<|RQ.y rfl (Y.assign (v:=.int .i64 (-1)) rfl)<|RQ.nil<|then_n<|wp_ret ?_
         obtain rfl:=sj hm
         exact (then_r (ret1 rfl rfl rfl ⟨rfl,T⟩))
        replace hm:=cT c37 hm
        refine cond_f rfl (vbn rfl c37 rfl)<|wp_skip<|then_n<|wp_seq<|wp_rs rfl<|RQ.y rfl (Y.assign (v:=.int .i64 1) rfl)<|RQ.nil<|then_n<|wp_seq<|wp_seq<|wp_rs rfl<|RQ.y rfl (Y.assign (v:=.int .i64 0) rfl)<|RQ.nil<|then_n<|wp_block ?_
        obtain ⟨K2,hK2,hm⟩ :∃K,K=m_spec_l02Nodes_A2∧m_spec_l02Nodes_L2 d0 d1 self K (d0.kids.length+1) 1 0=some r:=⟨_,rfl,hm⟩
        refine wp_loopX (fun g f w'=>∃(i40:Int) (i41:Int),f 1=.int .i64 d1∧f 2=.pointer (some ⟨w.heap.size,0,none⟩)∧f 6=.int .i64 i40∧f 7=.int .i64 i41∧0≤i41∧Blk w' w.heap.size 114 #[.int .i64 d0.kind,.string d0.name,.slice A1 d0.kids.length c1]∧Below w.heap.size w w'∧m_spec_l02Nodes_L2 d0 d1 self K2 g i40 i41=some r) 1 (fun f w'=>∃(i38:Int),f 6=.int .i64 i38∧Blk w' w.heap.size 114 #[.int .i64 d0.kind,.string d0.name,.slice A1 d0.kids.length c1]∧Below w.heap.size w w'∧m_spec_l02Nodes_A2 i38=some r) (d0.kids.length+1) ⟨1,0,s1,rfl,rfl,rfl,(by omega),B3,T,hm⟩ ?_ ?_
        ·rintro f w39 ⟨i38,s6_2x,B3,T,hm⟩
         unfold m_spec_l02Nodes_A2 at hm
         refine blk_hit (then_n ?_)
         refine wp_seq<|wp_rs rfl<|RQ.y rfl (Y.move (v:=.int .i64 i38) s6_2x)<|RQ.y rfl (Y.assign (v:=.int .i64 i38) rfl)<|RQ.nil<|then_n<|wp_ret ?_
         obtain rfl:=sj hm
         exact (ret1 rfl rfl rfl ⟨rfl,T⟩)
        rintro g f w42 ⟨i40,i41,s1_2,s2_2,s6_2,s7_2,nn7_2,B3,T,hm⟩
        rcases g with _|g
        ·simp only [m_spec_l02Nodes_L2] at hm; cases hm
        obtain ⟨rec2,hrec2,hm⟩ :∃z,z=m_spec_l02Nodes_L2 d0 d1 self K2 g∧m_spec_l02Nodes_B2 d0 d1 self z K2 i40 i41=some r:=⟨_,rfl,hm⟩
        unfold m_spec_l02Nodes_B2 at hm
        refine wp_seq<|wp_seq<|wp_rs rfl<|RQ.y rfl (Y.move (v:=.int .i64 i41) s7_2)<|RQ.y rfl (Y.fieldAddr (off:=2) s2_2 (by kernel_rfl))<|RQ.y rfl (Y.load (v:=.slice A1 d0.kids.length c1) rfl (by kernel_rfl) (eqC (blkCell B3 (i:=2) rfl)))<|RQ.y rfl (Y.len (by kernel_rfl) rfl)<|RQ.y rfl (Y.binI (v:=.bool (decide (i41 < (d0.kids.length:Int)))) rfl rfl rfl)<|RQ.nil<|then_n ?_
        rcases bcases (decide (i41 < (d0.kids.length:Int))) with c43|c43
        ·replace hm:=cF c43 hm
         have pc43:=of_decide_eq_false c43
         refine cond_f rfl (vb rfl c43)<|wp_exit ?_
         exact (then_x (then_x (hit_x ⟨_,rfl,⟨i40,s6_2,B3,T,(by rw [hK2] at hm; exact hm)⟩⟩)))
        replace hm:=cT c43 hm
        have pc43:=of_decide_eq_true c43
        refine cond_t rfl (vb rfl c43)<|wp_skip<|then_n<|wp_seq<|wp_block<|wp_seq<|wp_rb rfl<|RQ.y rfl (Y.fieldAddr (off:=2) s2_2 (by kernel_rfl))<|RQ.y rfl (Y.load (v:=.slice A1 d0.kids.length c1) rfl (by kernel_rfl) (beC (blkCell B3 (i:=2) rfl)))<|RQ.y rfl (Y.move (v:=.int .i64 i41) s7_2) ?_
        obtain ⟨x44,hx47,hm⟩:=bnd hm
        obtain ⟨k45,hk48,hl49,hx47⟩:=getI_some hx47
        obtain ⟨b51,o52,rfl,hbb51⟩:=h1.addr (by omega)
        obtain ⟨cs46,hRcs46,hc50⟩:=h1.el hx47
        have hScs46:=hRcs46
        obtain ⟨A53,n53,c53,rfl,⟨h53,r53⟩⟩:=(typeRd_out hRcs46)
        have e53:=h53.len; subst e53
        have q53:=len_le r53
        refine RQ.y rfl (Y.indexAddr (m:=k45) (sz:=3) rfl rfl hk48 hl49 (by kernel_rfl))<|RQ.y rfl (Y.loadN (cs:=[.int .i64 x44.kind,.string x44.name,.slice A53 x44.kids.length c53]) rfl (by kernel_rfl) (cells3 (beC (cellT T (hc50 0 _ rfl))) (beC (cellT T (hc50 1 _ rfl))) (beC (cellT T (hc50 2 _ rfl)))))<|RQ.y rfl (Y.move (v:=.int .i64 d1) s1_2) ?_
        obtain ⟨s54,ks54,hm⟩:=bnd hm
        replace ks54:=ck_some ks54
        refine RQ.y rfl (Y.binI (v:=.int .i64 s54) rfl rfl (by rw [binI_sub ks54.2,ks54.1])) ?_
        obtain ⟨y55,e56,hm⟩:=bnd hm
        refine RQ.call rfl (am2 rfl rfl) (by kernel_rfl) (v:=.int .i64 y55) (bel (K:=fun _=>True) fun w' hb'=>(ih x44 s54 _ (by rw [← hself]; exact e56) _ w' (stArg (R:=typeRd) (typeRd_in ⟨_,_,_,rfl,⟨SlAt.now typeRd_ok h53 (Nat.le_refl _) (Tt T hb'),r53⟩⟩))))<|RQ.y rfl (Y.assign (v:=.int .i64 y55) rfl)<|RQ.nil ?_
        intro w57 hb58
        have szw57:=hb58.size
        have B3:=blkT B3 hb58
        have T:=Tt T hb58
        refine then_n<|wp_seq<|wp_seq<|wp_rs rfl<|RQ.y rfl (Y.move (v:=.int .i64 y55) rfl)<|RQ.y rfl (Y.binI (v:=.bool (decide (y55 < 0))) rfl rfl rfl)<|RQ.nil<|then_n ?_
        rcases bcases (decide (y55 < 0)) with c59|c59
        ·replace hm:=cF c59 hm
         have pc59:=of_decide_eq_false c59
         refine cond_f rfl (vb rfl c59)<|wp_skip<|then_n<|wp_rs rfl<|RQ.y rfl (Y.move (v:=.int .i64 i40) s6_2)<|RQ.y rfl (Y.move (v:=.int .i64 y55) rfl) ?_
         obtain ⟨s60,ks60,hm⟩:=bnd hm
         replace ks60:=ck_some ks60
         refine RQ.y rfl (Y.binI (v:=.int .i64 s60) rfl rfl (by rw [binI_add ks60.2,ks60.1]))<|RQ.y rfl (Y.assign (v:=.int .i64 s60) rfl)<|RQ.nil ?_
         refine blk_n (then_n ?_)
         refine wp_rs rfl<|RQ.y rfl (Y.move (v:=.int .i64 i41) s7_2)<|RQ.y rfl (Y.binI rfl rfl (binI_add (m:=i41) (by omega)))<|RQ.y rfl (Y.assign (v:=.int .i64 (i41+1)) rfl)<|RQ.nil ?_
         exact (then_n ⟨g,_,Nat.lt_succ_self _,rfl,⟨s60,(i41+1),s1_2,s2_2,rfl,rfl,(by omega),B3,T,(by rw [← hrec2]; exact hm)⟩⟩)
        replace hm:=cT c59 hm
        have pc59:=of_decide_eq_true c59
        refine cond_t rfl (vb rfl c59)<|wp_seq<|wp_rs rfl<|RQ.y rfl (Y.assign (v:=.int .i64 (-1)) rfl)<|RQ.nil<|then_n<|wp_ret ?_
        obtain rfl:=sj hm
        exact (then_r (blk_r (then_r (then_r (hit_r (blk_r (then_r (ret1 rfl rfl rfl ⟨rfl,T⟩))))))))
       replace hm:=cT c11 hm
       iterate 4 refine RQ.skip (wantN (dj:=35) rfl (vb rfl c11) rfl) ?_
       iterate 3 refine RQ.skip rfl ?_
       refine RQ.skip (wantN (dj:=35) rfl (vb rfl c11) rfl)<|RQ.y rfl (Y.pick (b:=true) (v:=.bool true) (vb rfl c11) rfl)<|RQ.nil<|then_n<|cond_t rfl rfl<|wp_seq<|wp_rs rfl<|RQ.y rfl (Y.assign (v:=.int .i64 (-1)) rfl)<|RQ.nil<|then_n<|wp_ret ?_
       obtain rfl:=sj hm
       exact (then_r (ret1 rfl rfl rfl ⟨rfl,T⟩))
      replace hm:=cT c9 hm
      refine cond_t rfl (vb rfl c9)<|wp_rs rfl<|RQ.y rfl (Y.assign (v:=.int .i64 2) rfl)<|RQ.nil ?_
      refine blk_n (then_n ?_)
      refine wp_seq<|wp_seq<|wp_rs rfl<|RQ.y rfl (Y.fieldAddr (off:=2) rfl (by kernel_rfl))<|RQ.y rfl (Y.load (v:=.slice A1 d0.kids.length c1) rfl (by kernel_rfl) (eqC (blkCell B3 (i:=2) rfl)))<|RQ.y rfl (Y.len (by kernel_rfl) rfl)<|RQ.y rfl (Y.move (v:=.int .i64 2) rfl)<|RQ.y rfl (Y.binI (v:=.bool ((d0.kids.length:Int) != 2)) rfl rfl rfl)<|RQ.y rfl (Y.move (v:=.bool ((d0.kids.length:Int) != 2)) rfl) ?_
      rcases bcases ((d0.kids.length:Int) != 2) with c62|c62
      ·replace hm:=cF c62 hm
       refine RQ.y (wantT (dj:=35) rfl (vb rfl c62)) (Y.fieldAddr (off:=0) rfl (by kernel_rfl))<|RQ.y (wantT (dj:=35) rfl (vb rfl c62)) (Y.load (v:=.int .i64 d0.kind) rfl (by kernel_rfl) (eqC (blkCell B3 (i:=0) rfl)))<|RQ.y (wantT (dj:=35) rfl (vb rfl c62)) (Y.binI (v:=.bool (d0.kind != 2)) rfl rfl rfl)<|RQ.y (wantT (dj:=35) rfl (vb rfl c62)) (Y.move (v:=.bool (d0.kind != 2)) rfl) ?_
       rcases bcases (d0.kind != 2) with c63|c63
       ·replace hm:=cF c63 hm
        iterate 3 refine RQ.skip (wantN (dj:=39) rfl (vb rfl c63) rfl) ?_
        refine RQ.y (wantT (dj:=35) rfl (vb rfl c62)) (Y.pick (b:=false) (v:=.bool false) (vb rfl c63) rfl)<|RQ.y rfl (Y.pick (b:=false) (v:=.bool false) (vb rfl c62) rfl)<|RQ.nil<|then_n<|cond_f rfl rfl<|wp_skip<|then_n<|wp_seq<|wp_rs rfl<|RQ.y rfl (Y.assign (v:=.int .i64 1) rfl)<|RQ.nil<|then_n<|wp_seq<|wp_seq<|wp_rs rfl<|RQ.y rfl (Y.assign (v:=.int .i64 0) rfl)<|RQ.nil<|then_n<|wp_block ?_
        obtain ⟨K3,hK3,hm⟩ :∃K,K=m_spec_l02Nodes_A3∧m_spec_l02Nodes_L3 d0 d1 self K (d0.kids.length+1) 1 0=some r:=⟨_,rfl,hm⟩
        refine wp_loopX (fun g f w'=>∃(i66:Int) (i67:Int),f 1=.int .i64 d1∧f 2=.pointer (some ⟨w.heap.size,0,none⟩)∧f 6=.int .i64 i66∧f 7=.int .i64 i67∧0≤i67∧Blk w' w.heap.size 114 #[.int .i64 d0.kind,.string d0.name,.slice A1 d0.kids.length c1]∧Below w.heap.size w w'∧m_spec_l02Nodes_L3 d0 d1 self K3 g i66 i67=some r) 1 (fun f w'=>∃(i64:Int),f 6=.int .i64 i64∧Blk w' w.heap.size 114 #[.int .i64 d0.kind,.string d0.name,.slice A1 d0.kids.length c1]∧Below w.heap.size w w'∧m_spec_l02Nodes_A3 i64=some r) (d0.kids.length+1) ⟨1,0,s1,rfl,rfl,rfl,(by omega),B3,T,hm⟩ ?_ ?_
        ·rintro f w65 ⟨i64,s6_3x,B3,T,hm⟩
         unfold m_spec_l02Nodes_A3 at hm
         refine blk_hit (then_n ?_)
         refine wp_seq<|wp_rs rfl<|RQ.y rfl (Y.move (v:=.int .i64 i64) s6_3x)<|RQ.y rfl (Y.assign (v:=.int .i64 i64) rfl)<|RQ.nil<|then_n<|wp_ret ?_
         obtain rfl:=sj hm
         exact (ret1 rfl rfl rfl ⟨rfl,T⟩)
        rintro g f w68 ⟨i66,i67,s1_3,s2_3,s6_3,s7_3,nn7_3,B3,T,hm⟩
        rcases g with _|g
        ·simp only [m_spec_l02Nodes_L3] at hm; cases hm
        obtain ⟨rec3,hrec3,hm⟩ :∃z,z=m_spec_l02Nodes_L3 d0 d1 self K3 g∧m_spec_l02Nodes_B3 d0 d1 self z K3 i66 i67=some r:=⟨_,rfl,hm⟩
        unfold m_spec_l02Nodes_B3 at hm
        refine wp_seq<|wp_seq<|wp_rs rfl<|RQ.y rfl (Y.move (v:=.int .i64 i67) s7_3)<|RQ.y rfl (Y.fieldAddr (off:=2) s2_3 (by kernel_rfl))<|RQ.y rfl (Y.load (v:=.slice A1 d0.kids.length c1) rfl (by kernel_rfl) (eqC (blkCell B3 (i:=2) rfl)))<|RQ.y rfl (Y.len (by kernel_rfl) rfl)<|RQ.y rfl (Y.binI (v:=.bool (decide (i67 < (d0.kids.length:Int)))) rfl rfl rfl)<|RQ.nil<|then_n ?_
        rcases bcases (decide (i67 < (d0.kids.length:Int))) with c69|c69
        ·replace hm:=cF c69 hm
         have pc69:=of_decide_eq_false c69
         refine cond_f rfl (vb rfl c69)<|wp_exit ?_
         exact (then_x (then_x (hit_x ⟨_,rfl,⟨i66,s6_3,B3,T,(by rw [hK3] at hm; exact hm)⟩⟩)))
        replace hm:=cT c69 hm
        have pc69:=of_decide_eq_true c69
        refine cond_t rfl (vb rfl c69)<|wp_skip<|then_n<|wp_seq<|wp_block<|wp_seq<|wp_rb rfl<|RQ.y rfl (Y.fieldAddr (off:=2) s2_3 (by kernel_rfl))<|RQ.y rfl (Y.load (v:=.slice A1 d0.kids.length c1) rfl (by kernel_rfl) (beC (blkCell B3 (i:=2) rfl)))<|RQ.y rfl (Y.move (v:=.int .i64 i67) s7_3) ?_
        obtain ⟨x70,hx73,hm⟩:=bnd hm
        obtain ⟨k71,hk74,hl75,hx73⟩:=getI_some hx73
        obtain ⟨b77,o78,rfl,hbb77⟩:=h1.addr (by omega)
        obtain ⟨cs72,hRcs72,hc76⟩:=h1.el hx73
        have hScs72:=hRcs72
        obtain ⟨A79,n79,c79,rfl,⟨h79,r79⟩⟩:=(typeRd_out hRcs72)
        have e79:=h79.len; subst e79
        have q79:=len_le r79
        refine RQ.y rfl (Y.indexAddr (m:=k71) (sz:=3) rfl rfl hk74 hl75 (by kernel_rfl))<|RQ.y rfl (Y.loadN (cs:=[.int .i64 x70.kind,.string x70.name,.slice A79 x70.kids.length c79]) rfl (by kernel_rfl) (cells3 (beC (cellT T (hc76 0 _ rfl))) (beC (cellT T (hc76 1 _ rfl))) (beC (cellT T (hc76 2 _ rfl)))))<|RQ.y rfl (Y.move (v:=.int .i64 d1) s1_3) ?_
        obtain ⟨s80,ks80,hm⟩:=bnd hm
        replace ks80:=ck_some ks80
        refine RQ.y rfl (Y.binI (v:=.int .i64 s80) rfl rfl (by rw [binI_sub ks80.2,ks80.1])) ?_
        obtain ⟨y81,e82,hm⟩:=bnd hm
        refine RQ.call rfl (am2 rfl rfl) (by kernel_rfl) (v:=.int .i64 y81) (bel (K:=fun _=>True) fun w' hb'=>(ih x70 s80 _ (by rw [← hself]; exact e82) _ w' (stArg (R:=typeRd) (typeRd_in ⟨_,_,_,rfl,⟨SlAt.now typeRd_ok h79 (Nat.le_refl _) (Tt T hb'),r79⟩⟩))))<|RQ.y rfl (Y.assign (v:=.int .i64 y81) rfl)<|RQ.nil ?_
        intro w83 hb84
        have szw83:=hb84.size
        have B3:=blkT B3 hb84
        have T:=Tt T hb84
        refine then_n<|wp_seq<|wp_seq<|wp_rs rfl<|RQ.y rfl (Y.move (v:=.int .i64 y81) rfl)<|RQ.y rfl (Y.binI (v:=.bool (decide (y81 < 0))) rfl rfl rfl)<|RQ.nil<|then_n ?_
        rcases bcases (decide (y81 < 0)) with c85|c85
        ·replace hm:=cF c85 hm
         have pc85:=of_decide_eq_false c85
         refine cond_f rfl (vb rfl c85)<|wp_skip<|then_n<|wp_rs rfl<|RQ.y rfl (Y.move (v:=.int .i64 i66) s6_3)<|RQ.y rfl (Y.move (v:=.int .i64 y81) rfl) ?_
         obtain ⟨s86,ks86,hm⟩:=bnd hm
         replace ks86:=ck_some ks86
         refine RQ.y rfl (Y.binI (v:=.int .i64 s86) rfl rfl (by rw [binI_add ks86.2,ks86.1]))<|RQ.y rfl (Y.assign (v:=.int .i64 s86) rfl)<|RQ.nil ?_
         refine blk_n (then_n ?_)
         refine wp_rs rfl<|RQ.y rfl (Y.move (v:=.int .i64 i67) s7_3)<|RQ.y rfl (Y.binI rfl rfl (binI_add (m:=i67) (by omega)))<|RQ.y rfl (Y.assign (v:=.int .i64 (i67+1)) rfl)<|RQ.nil ?_
         exact (then_n ⟨g,_,Nat.lt_succ_self _,rfl,⟨s86,(i67+1),s1_3,s2_3,rfl,rfl,(by omega),B3,T,(by rw [← hrec3]; exact hm)⟩⟩)
        replace hm:=cT c85 hm
        have pc85:=of_decide_eq_true c85
        refine cond_t rfl (vb rfl c85)<|wp_seq<|wp_rs rfl<|RQ.y rfl (Y.assign (v:=.int .i64 (-1)) rfl)<|RQ.nil<|then_n<|wp_ret ?_
        obtain rfl:=sj hm
        exact (then_r (blk_r (then_r (then_r (hit_r (blk_r (then_r (ret1 rfl rfl rfl ⟨rfl,T⟩))))))))
       replace hm:=cT c63 hm
       refine RQ.y (wantT (dj:=39) rfl (vb rfl c63)) (Y.fieldAddr (off:=1) rfl (by kernel_rfl))<|RQ.y (wantT (dj:=39) rfl (vb rfl c63)) (Y.load (v:=.string d0.name) rfl (by kernel_rfl) (eqC (blkCell B3 (i:=1) rfl)))<|RQ.y (wantT (dj:=39) rfl (vb rfl c63)) (Y.neStr rfl rfl (by kernel_rfl))<|RQ.y (wantT (dj:=35) rfl (vb rfl c62)) (Y.pick (b:=true) (v:=.bool (!(d0.name.toList==(ByteArray.mk #[]).toList))) (vb rfl c63) rfl)<|RQ.y rfl (Y.pick (b:=false) (v:=.bool (!(d0.name.toList==(ByteArray.mk #[]).toList))) (vb rfl c62) rfl)<|RQ.nil<|then_n ?_
       rcases bcases (d0.name.toList==(ByteArray.mk #[]).toList) with c88|c88
       ·replace hm:=cF c88 hm
        refine cond_t rfl (vbn rfl c88 rfl)<|wp_seq<|wp_rs rfl<|RQ.y rfl (Y.assign (v:=.int .i64 (-1)) rfl)<|RQ.nil<|then_n<|wp_ret ?_
        obtain rfl:=sj hm
        exact (then_r (ret1 rfl rfl rfl ⟨rfl,T⟩))
       replace hm:=cT c88 hm
       refine cond_f rfl (vbn rfl c88 rfl)<|wp_skip<|then_n<|wp_seq<|wp_rs rfl<|RQ.y rfl (Y.assign (v:=.int .i64 1) rfl)<|RQ.nil<|then_n<|wp_seq<|wp_seq<|wp_rs rfl<|RQ.y rfl (Y.assign (v:=.int .i64 0) rfl)<|RQ.nil<|then_n<|wp_block ?_
       obtain ⟨K4,hK4,hm⟩ :∃K,K=m_spec_l02Nodes_A4∧m_spec_l02Nodes_L4 d0 d1 self K (d0.kids.length+1) 1 0=some r:=⟨_,rfl,hm⟩
       refine wp_loopX (fun g f w'=>∃(i91:Int) (i92:Int),f 1=.int .i64 d1∧f 2=.pointer (some ⟨w.heap.size,0,none⟩)∧f 6=.int .i64 i91∧f 7=.int .i64 i92∧0≤i92∧Blk w' w.heap.size 114 #[.int .i64 d0.kind,.string d0.name,.slice A1 d0.kids.length c1]∧Below w.heap.size w w'∧m_spec_l02Nodes_L4 d0 d1 self K4 g i91 i92=some r) 1 (fun f w'=>∃(i89:Int),f 6=.int .i64 i89∧Blk w' w.heap.size 114 #[.int .i64 d0.kind,.string d0.name,.slice A1 d0.kids.length c1]∧Below w.heap.size w w'∧m_spec_l02Nodes_A4 i89=some r) (d0.kids.length+1) ⟨1,0,s1,rfl,rfl,rfl,(by omega),B3,T,hm⟩ ?_ ?_
       ·rintro f w90 ⟨i89,s6_4x,B3,T,hm⟩
        unfold m_spec_l02Nodes_A4 at hm
        refine blk_hit (then_n ?_)
        refine wp_seq<|wp_rs rfl<|RQ.y rfl (Y.move (v:=.int .i64 i89) s6_4x)<|RQ.y rfl (Y.assign (v:=.int .i64 i89) rfl)<|RQ.nil<|then_n<|wp_ret ?_
        obtain rfl:=sj hm
        exact (ret1 rfl rfl rfl ⟨rfl,T⟩)
       rintro g f w93 ⟨i91,i92,s1_4,s2_4,s6_4,s7_4,nn7_4,B3,T,hm⟩
       rcases g with _|g
       ·simp only [m_spec_l02Nodes_L4] at hm; cases hm
       obtain ⟨rec4,hrec4,hm⟩ :∃z,z=m_spec_l02Nodes_L4 d0 d1 self K4 g∧m_spec_l02Nodes_B4 d0 d1 self z K4 i91 i92=some r:=⟨_,rfl,hm⟩
       unfold m_spec_l02Nodes_B4 at hm
       refine wp_seq<|wp_seq<|wp_rs rfl<|RQ.y rfl (Y.move (v:=.int .i64 i92) s7_4)<|RQ.y rfl (Y.fieldAddr (off:=2) s2_4 (by kernel_rfl))<|RQ.y rfl (Y.load (v:=.slice A1 d0.kids.length c1) rfl (by kernel_rfl) (eqC (blkCell B3 (i:=2) rfl)))<|RQ.y rfl (Y.len (by kernel_rfl) rfl)<|RQ.y rfl (Y.binI (v:=.bool (decide (i92 < (d0.kids.length:Int)))) rfl rfl rfl)<|RQ.nil<|then_n ?_
       rcases bcases (decide (i92 < (d0.kids.length:Int))) with c94|c94
       ·replace hm:=cF c94 hm
        have pc94:=of_decide_eq_false c94
        refine cond_f rfl (vb rfl c94)<|wp_exit ?_
        exact (then_x (then_x (hit_x ⟨_,rfl,⟨i91,s6_4,B3,T,(by rw [hK4] at hm; exact hm)⟩⟩)))
       replace hm:=cT c94 hm
       have pc94:=of_decide_eq_true c94
       refine cond_t rfl (vb rfl c94)<|wp_skip<|then_n<|wp_seq<|wp_block<|wp_seq<|wp_rb rfl<|RQ.y rfl (Y.fieldAddr (off:=2) s2_4 (by kernel_rfl))<|RQ.y rfl (Y.load (v:=.slice A1 d0.kids.length c1) rfl (by kernel_rfl) (beC (blkCell B3 (i:=2) rfl)))<|RQ.y rfl (Y.move (v:=.int .i64 i92) s7_4) ?_
       obtain ⟨x95,hx98,hm⟩:=bnd hm
       obtain ⟨k96,hk99,hl100,hx98⟩:=getI_some hx98
       obtain ⟨b102,o103,rfl,hbb102⟩:=h1.addr (by omega)
       obtain ⟨cs97,hRcs97,hc101⟩:=h1.el hx98
       have hScs97:=hRcs97
       obtain ⟨A104,n104,c104,rfl,⟨h104,r104⟩⟩:=(typeRd_out hRcs97)
       have e104:=h104.len; subst e104
       have q104:=len_le r104
       refine RQ.y rfl (Y.indexAddr (m:=k96) (sz:=3) rfl rfl hk99 hl100 (by kernel_rfl))<|RQ.y rfl (Y.loadN (cs:=[.int .i64 x95.kind,.string x95.name,.slice A104 x95.kids.length c104]) rfl (by kernel_rfl) (cells3 (beC (cellT T (hc101 0 _ rfl))) (beC (cellT T (hc101 1 _ rfl))) (beC (cellT T (hc101 2 _ rfl)))))<|RQ.y rfl (Y.move (v:=.int .i64 d1) s1_4) ?_
       obtain ⟨s105,ks105,hm⟩:=bnd hm
       replace ks105:=ck_some ks105
       refine RQ.y rfl (Y.binI (v:=.int .i64 s105) rfl rfl (by rw [binI_sub ks105.2,ks105.1])) ?_
       obtain ⟨y106,e107,hm⟩:=bnd hm
       refine RQ.call rfl (am2 rfl rfl) (by kernel_rfl) (v:=.int .i64 y106) (bel (K:=fun _=>True) fun w' hb'=>(ih x95 s105 _ (by rw [← hself]; exact e107) _ w' (stArg (R:=typeRd) (typeRd_in ⟨_,_,_,rfl,⟨SlAt.now typeRd_ok h104 (Nat.le_refl _) (Tt T hb'),r104⟩⟩))))<|RQ.y rfl (Y.assign (v:=.int .i64 y106) rfl)<|RQ.nil ?_
       intro w108 hb109
       have szw108:=hb109.size
       have B3:=blkT B3 hb109
       have T:=Tt T hb109
       refine then_n<|wp_seq<|wp_seq<|wp_rs rfl<|RQ.y rfl (Y.move (v:=.int .i64 y106) rfl)<|RQ.y rfl (Y.binI (v:=.bool (decide (y106 < 0))) rfl rfl rfl)<|RQ.nil<|then_n ?_
       rcases bcases (decide (y106 < 0)) with c110|c110
       ·replace hm:=cF c110 hm
        have pc110:=of_decide_eq_false c110
        refine cond_f rfl (vb rfl c110)<|wp_skip<|then_n<|wp_rs rfl<|RQ.y rfl (Y.move (v:=.int .i64 i91) s6_4)<|RQ.y rfl (Y.move (v:=.int .i64 y106) rfl) ?_
        obtain ⟨s111,ks111,hm⟩:=bnd hm
        replace ks111:=ck_some ks111
        refine RQ.y rfl (Y.binI (v:=.int .i64 s111) rfl rfl (by rw [binI_add ks111.2,ks111.1]))<|RQ.y rfl (Y.assign (v:=.int .i64 s111) rfl)<|RQ.nil ?_
        refine blk_n (then_n ?_)
        refine wp_rs rfl<|RQ.y rfl (Y.move (v:=.int .i64 i92) s7_4)<|RQ.y rfl (Y.binI rfl rfl (binI_add (m:=i92) (by omega)))<|RQ.y rfl (Y.assign (v:=.int .i64 (i92+1)) rfl)<|RQ.nil ?_
        exact (then_n ⟨g,_,Nat.lt_succ_self _,rfl,⟨s111,(i92+1),s1_4,s2_4,rfl,rfl,(by omega),B3,T,(by rw [← hrec4]; exact hm)⟩⟩)
       replace hm:=cT c110 hm
       have pc110:=of_decide_eq_true c110
       refine cond_t rfl (vb rfl c110)<|wp_seq<|wp_rs rfl<|RQ.y rfl (Y.assign (v:=.int .i64 (-1)) rfl)<|RQ.nil<|then_n<|wp_ret ?_
       obtain rfl:=sj hm
       exact (then_r (blk_r (then_r (then_r (hit_r (blk_r (then_r (ret1 rfl rfl rfl ⟨rfl,T⟩))))))))
      replace hm:=cT c62 hm
      iterate 4 refine RQ.skip (wantN (dj:=35) rfl (vb rfl c62) rfl) ?_
      iterate 3 refine RQ.skip rfl ?_
      refine RQ.skip (wantN (dj:=35) rfl (vb rfl c62) rfl)<|RQ.y rfl (Y.pick (b:=true) (v:=.bool true) (vb rfl c62) rfl)<|RQ.nil<|then_n<|cond_t rfl rfl<|wp_seq<|wp_rs rfl<|RQ.y rfl (Y.assign (v:=.int .i64 (-1)) rfl)<|RQ.nil<|then_n<|wp_ret ?_
      obtain rfl:=sj hm
      exact (then_r (ret1 rfl rfl rfl ⟨rfl,T⟩))
     replace hm:=cT c8 hm
     refine cond_t rfl (vb rfl c8)<|wp_seq<|wp_rb rfl<|RQ.y rfl (Y.fieldAddr (off:=1) rfl (by kernel_rfl))<|RQ.y rfl (Y.load (v:=.string d0.name) rfl (by kernel_rfl) (beC (blkCell B3 (i:=1) rfl))) ?_
     obtain ⟨y113,e114,hm⟩:=bnd hm
     refine RQ.call rfl (am1 rfl) (by kernel_rfl) (v:=.bool y113) (bel (K:=fun _=>True) fun w' hb'=>(c_m_spec_IsUpper d0.name _ e114  w' ))<|RQ.y rfl (Y.not (b':=(!y113)) rfl rfl)<|RQ.y rfl (Y.move (v:=.bool (!y113)) rfl) ?_
     rcases bcases y113 with c115|c115
     ·replace hm:=cF c115 hm
      iterate 3 refine RQ.skip (wantN (dj:=21) rfl (vbn rfl c115 rfl) rfl) ?_
      refine RQ.y rfl (Y.pick (b:=true) (v:=.bool true) (vbn rfl c115 rfl) rfl)<|RQ.nil ?_
      intro w116 hb117
      have szw116:=hb117.size
      have B3:=blkT B3 hb117
      have T:=Tt T hb117
      refine then_n<|cond_t rfl rfl<|wp_seq<|wp_rs rfl<|RQ.y rfl (Y.assign (v:=.int .i64 (-1)) rfl)<|RQ.nil<|then_n<|wp_ret ?_
      obtain rfl:=sj hm
      exact (blk_r (then_r (ret1 rfl rfl rfl ⟨rfl,T⟩)))
     replace hm:=cT c115 hm
     refine RQ.y (wantT (dj:=21) rfl (vbn rfl c115 rfl)) (Y.fieldAddr (off:=1) rfl (by kernel_rfl))<|RQ.y (wantT (dj:=21) rfl (vbn rfl c115 rfl)) (Y.load (v:=.string d0.name) rfl (by kernel_rfl) (beC (blkCell B3 (i:=1) rfl)))<|RQ.y (wantT (dj:=21) rfl (vbn rfl c115 rfl)) (Y.eqStr rfl rfl (by kernel_rfl))<|RQ.y rfl (Y.pick (b:=false) (v:=.bool (d0.name.toList==(ByteArray.mk #[73,110,116]).toList)) (vbn rfl c115 rfl) rfl)<|RQ.nil ?_
     intro w118 hb119
     have szw118:=hb119.size
     have B3:=blkT B3 hb119
     have T:=Tt T hb119
     refine then_n ?_
     rcases bcases (d0.name.toList==(ByteArray.mk #[73,110,116]).toList) with c120|c120
     ·replace hm:=cF c120 hm
      refine cond_f rfl (vb rfl c120)<|wp_skip ?_
      refine blk_n (then_n ?_)
      refine wp_seq<|wp_seq<|wp_rs rfl<|RQ.y rfl (Y.fieldAddr (off:=2) rfl (by kernel_rfl))<|RQ.y rfl (Y.load (v:=.slice A1 d0.kids.length c1) rfl (by kernel_rfl) (eqC (blkCell B3 (i:=2) rfl)))<|RQ.y rfl (Y.len (by kernel_rfl) rfl)<|RQ.y rfl (Y.move (v:=.int .i64 0) rfl)<|RQ.y rfl (Y.binI (v:=.bool ((d0.kids.length:Int) != 0)) rfl rfl rfl)<|RQ.y rfl (Y.move (v:=.bool ((d0.kids.length:Int) != 0)) rfl) ?_
      rcases bcases ((d0.kids.length:Int) != 0) with c121|c121
      ·replace hm:=cF c121 hm
       refine RQ.y (wantT (dj:=35) rfl (vb rfl c121)) (Y.fieldAddr (off:=0) rfl (by kernel_rfl))<|RQ.y (wantT (dj:=35) rfl (vb rfl c121)) (Y.load (v:=.int .i64 d0.kind) rfl (by kernel_rfl) (eqC (blkCell B3 (i:=0) rfl)))<|RQ.y (wantT (dj:=35) rfl (vb rfl c121)) (Y.binI (v:=.bool (d0.kind != 2)) rfl rfl rfl)<|RQ.y (wantT (dj:=35) rfl (vb rfl c121)) (Y.move (v:=.bool (d0.kind != 2)) rfl) ?_
       rcases bcases (d0.kind != 2) with c122|c122
       ·replace hm:=cF c122 hm
        iterate 3 refine RQ.skip (wantN (dj:=39) rfl (vb rfl c122) rfl) ?_
        refine RQ.y (wantT (dj:=35) rfl (vb rfl c121)) (Y.pick (b:=false) (v:=.bool false) (vb rfl c122) rfl)<|RQ.y rfl (Y.pick (b:=false) (v:=.bool false) (vb rfl c121) rfl)<|RQ.nil<|then_n<|cond_f rfl rfl<|wp_skip<|then_n<|wp_seq<|wp_rs rfl<|RQ.y rfl (Y.assign (v:=.int .i64 1) rfl)<|RQ.nil<|then_n<|wp_seq<|wp_seq<|wp_rs rfl<|RQ.y rfl (Y.assign (v:=.int .i64 0) rfl)<|RQ.nil<|then_n<|wp_block ?_
        obtain ⟨K5,hK5,hm⟩ :∃K,K=m_spec_l02Nodes_A5∧m_spec_l02Nodes_L5 d0 d1 self K (d0.kids.length+1) 1 0=some r:=⟨_,rfl,hm⟩
        refine wp_loopX (fun g f w'=>∃(i125:Int) (i126:Int),f 1=.int .i64 d1∧f 2=.pointer (some ⟨w.heap.size,0,none⟩)∧f 6=.int .i64 i125∧f 7=.int .i64 i126∧0≤i126∧Blk w' w.heap.size 114 #[.int .i64 d0.kind,.string d0.name,.slice A1 d0.kids.length c1]∧Below w.heap.size w w'∧m_spec_l02Nodes_L5 d0 d1 self K5 g i125 i126=some r) 1 (fun f w'=>∃(i123:Int),f 6=.int .i64 i123∧Blk w' w.heap.size 114 #[.int .i64 d0.kind,.string d0.name,.slice A1 d0.kids.length c1]∧Below w.heap.size w w'∧m_spec_l02Nodes_A5 i123=some r) (d0.kids.length+1) ⟨1,0,s1,rfl,rfl,rfl,(by omega),B3,T,hm⟩ ?_ ?_
        ·rintro f w124 ⟨i123,s6_5x,B3,T,hm⟩
         unfold m_spec_l02Nodes_A5 at hm
         refine blk_hit (then_n ?_)
         refine wp_seq<|wp_rs rfl<|RQ.y rfl (Y.move (v:=.int .i64 i123) s6_5x)<|RQ.y rfl (Y.assign (v:=.int .i64 i123) rfl)<|RQ.nil<|then_n<|wp_ret ?_
         obtain rfl:=sj hm
         exact (ret1 rfl rfl rfl ⟨rfl,T⟩)
        rintro g f w127 ⟨i125,i126,s1_5,s2_5,s6_5,s7_5,nn7_5,B3,T,hm⟩
        rcases g with _|g
        ·simp only [m_spec_l02Nodes_L5] at hm; cases hm
        obtain ⟨rec5,hrec5,hm⟩ :∃z,z=m_spec_l02Nodes_L5 d0 d1 self K5 g∧m_spec_l02Nodes_B5 d0 d1 self z K5 i125 i126=some r:=⟨_,rfl,hm⟩
        unfold m_spec_l02Nodes_B5 at hm
        refine wp_seq<|wp_seq<|wp_rs rfl<|RQ.y rfl (Y.move (v:=.int .i64 i126) s7_5)<|RQ.y rfl (Y.fieldAddr (off:=2) s2_5 (by kernel_rfl))<|RQ.y rfl (Y.load (v:=.slice A1 d0.kids.length c1) rfl (by kernel_rfl) (eqC (blkCell B3 (i:=2) rfl)))<|RQ.y rfl (Y.len (by kernel_rfl) rfl)<|RQ.y rfl (Y.binI (v:=.bool (decide (i126 < (d0.kids.length:Int)))) rfl rfl rfl)<|RQ.nil<|then_n ?_
        rcases bcases (decide (i126 < (d0.kids.length:Int))) with c128|c128
        ·replace hm:=cF c128 hm
         have pc128:=of_decide_eq_false c128
         refine cond_f rfl (vb rfl c128)<|wp_exit ?_
         exact (then_x (then_x (hit_x ⟨_,rfl,⟨i125,s6_5,B3,T,(by rw [hK5] at hm; exact hm)⟩⟩)))
        replace hm:=cT c128 hm
        have pc128:=of_decide_eq_true c128
        refine cond_t rfl (vb rfl c128)<|wp_skip<|then_n<|wp_seq<|wp_block<|wp_seq<|wp_rb rfl<|RQ.y rfl (Y.fieldAddr (off:=2) s2_5 (by kernel_rfl))<|RQ.y rfl (Y.load (v:=.slice A1 d0.kids.length c1) rfl (by kernel_rfl) (beC (blkCell B3 (i:=2) rfl)))<|RQ.y rfl (Y.move (v:=.int .i64 i126) s7_5) ?_
        obtain ⟨x129,hx132,hm⟩:=bnd hm
        obtain ⟨k130,hk133,hl134,hx132⟩:=getI_some hx132
        obtain ⟨b136,o137,rfl,hbb136⟩:=h1.addr (by omega)
        obtain ⟨cs131,hRcs131,hc135⟩:=h1.el hx132
        have hScs131:=hRcs131
        obtain ⟨A138,n138,c138,rfl,⟨h138,r138⟩⟩:=(typeRd_out hRcs131)
        have e138:=h138.len; subst e138
        have q138:=len_le r138
        refine RQ.y rfl (Y.indexAddr (m:=k130) (sz:=3) rfl rfl hk133 hl134 (by kernel_rfl))<|RQ.y rfl (Y.loadN (cs:=[.int .i64 x129.kind,.string x129.name,.slice A138 x129.kids.length c138]) rfl (by kernel_rfl) (cells3 (beC (cellT T (hc135 0 _ rfl))) (beC (cellT T (hc135 1 _ rfl))) (beC (cellT T (hc135 2 _ rfl)))))<|RQ.y rfl (Y.move (v:=.int .i64 d1) s1_5) ?_
        obtain ⟨s139,ks139,hm⟩:=bnd hm
        replace ks139:=ck_some ks139
        refine RQ.y rfl (Y.binI (v:=.int .i64 s139) rfl rfl (by rw [binI_sub ks139.2,ks139.1])) ?_
        obtain ⟨y140,e141,hm⟩:=bnd hm
        refine RQ.call rfl (am2 rfl rfl) (by kernel_rfl) (v:=.int .i64 y140) (bel (K:=fun _=>True) fun w' hb'=>(ih x129 s139 _ (by rw [← hself]; exact e141) _ w' (stArg (R:=typeRd) (typeRd_in ⟨_,_,_,rfl,⟨SlAt.now typeRd_ok h138 (Nat.le_refl _) (Tt T hb'),r138⟩⟩))))<|RQ.y rfl (Y.assign (v:=.int .i64 y140) rfl)<|RQ.nil ?_
        intro w142 hb143
        have szw142:=hb143.size
        have B3:=blkT B3 hb143
        have T:=Tt T hb143
        refine then_n<|wp_seq<|wp_seq<|wp_rs rfl<|RQ.y rfl (Y.move (v:=.int .i64 y140) rfl)<|RQ.y rfl (Y.binI (v:=.bool (decide (y140 < 0))) rfl rfl rfl)<|RQ.nil<|then_n ?_
        rcases bcases (decide (y140 < 0)) with c144|c144
        ·replace hm:=cF c144 hm
         have pc144:=of_decide_eq_false c144
         refine cond_f rfl (vb rfl c144)<|wp_skip<|then_n<|wp_rs rfl<|RQ.y rfl (Y.move (v:=.int .i64 i125) s6_5)<|RQ.y rfl (Y.move (v:=.int .i64 y140) rfl) ?_
         obtain ⟨s145,ks145,hm⟩:=bnd hm
         replace ks145:=ck_some ks145
         refine RQ.y rfl (Y.binI (v:=.int .i64 s145) rfl rfl (by rw [binI_add ks145.2,ks145.1]))<|RQ.y rfl (Y.assign (v:=.int .i64 s145) rfl)<|RQ.nil ?_
         refine blk_n (then_n ?_)
         refine wp_rs rfl<|RQ.y rfl (Y.move (v:=.int .i64 i126) s7_5)<|RQ.y rfl (Y.binI rfl rfl (binI_add (m:=i126) (by omega)))<|RQ.y rfl (Y.assign (v:=.int .i64 (i126+1)) rfl)<|RQ.nil ?_
         exact (then_n ⟨g,_,Nat.lt_succ_self _,rfl,⟨s145,(i126+1),s1_5,s2_5,rfl,rfl,(by omega),B3,T,(by rw [← hrec5]; exact hm)⟩⟩)
        replace hm:=cT c144 hm
        have pc144:=of_decide_eq_true c144
        refine cond_t rfl (vb rfl c144)<|wp_seq<|wp_rs rfl<|RQ.y rfl (Y.assign (v:=.int .i64 (-1)) rfl)<|RQ.nil<|then_n<|wp_ret ?_
        obtain rfl:=sj hm
        exact (then_r (blk_r (then_r (then_r (hit_r (blk_r (then_r (ret1 rfl rfl rfl ⟨rfl,T⟩))))))))
       replace hm:=cT c122 hm
       refine RQ.y (wantT (dj:=39) rfl (vb rfl c122)) (Y.fieldAddr (off:=1) rfl (by kernel_rfl))<|RQ.y (wantT (dj:=39) rfl (vb rfl c122)) (Y.load (v:=.string d0.name) rfl (by kernel_rfl) (eqC (blkCell B3 (i:=1) rfl)))<|RQ.y (wantT (dj:=39) rfl (vb rfl c122)) (Y.neStr rfl rfl (by kernel_rfl))<|RQ.y (wantT (dj:=35) rfl (vb rfl c121)) (Y.pick (b:=true) (v:=.bool (!(d0.name.toList==(ByteArray.mk #[]).toList))) (vb rfl c122) rfl)<|RQ.y rfl (Y.pick (b:=false) (v:=.bool (!(d0.name.toList==(ByteArray.mk #[]).toList))) (vb rfl c121) rfl)<|RQ.nil<|then_n ?_
       rcases bcases (d0.name.toList==(ByteArray.mk #[]).toList) with c147|c147
       ·replace hm:=cF c147 hm
        refine cond_t rfl (vbn rfl c147 rfl)<|wp_seq<|wp_rs rfl<|RQ.y rfl (Y.assign (v:=.int .i64 (-1)) rfl)<|RQ.nil<|then_n<|wp_ret ?_
        obtain rfl:=sj hm
        exact (then_r (ret1 rfl rfl rfl ⟨rfl,T⟩))
       replace hm:=cT c147 hm
       refine cond_f rfl (vbn rfl c147 rfl)<|wp_skip<|then_n<|wp_seq<|wp_rs rfl<|RQ.y rfl (Y.assign (v:=.int .i64 1) rfl)<|RQ.nil<|then_n<|wp_seq<|wp_seq<|wp_rs rfl<|RQ.y rfl (Y.assign (v:=.int .i64 0) rfl)<|RQ.nil<|then_n<|wp_block ?_
       obtain ⟨K6,hK6,hm⟩ :∃K,K=m_spec_l02Nodes_A6∧m_spec_l02Nodes_L6 d0 d1 self K (d0.kids.length+1) 1 0=some r:=⟨_,rfl,hm⟩
       refine wp_loopX (fun g f w'=>∃(i150:Int) (i151:Int),f 1=.int .i64 d1∧f 2=.pointer (some ⟨w.heap.size,0,none⟩)∧f 6=.int .i64 i150∧f 7=.int .i64 i151∧0≤i151∧Blk w' w.heap.size 114 #[.int .i64 d0.kind,.string d0.name,.slice A1 d0.kids.length c1]∧Below w.heap.size w w'∧m_spec_l02Nodes_L6 d0 d1 self K6 g i150 i151=some r) 1 (fun f w'=>∃(i148:Int),f 6=.int .i64 i148∧Blk w' w.heap.size 114 #[.int .i64 d0.kind,.string d0.name,.slice A1 d0.kids.length c1]∧Below w.heap.size w w'∧m_spec_l02Nodes_A6 i148=some r) (d0.kids.length+1) ⟨1,0,s1,rfl,rfl,rfl,(by omega),B3,T,hm⟩ ?_ ?_
       ·rintro f w149 ⟨i148,s6_6x,B3,T,hm⟩
        unfold m_spec_l02Nodes_A6 at hm
        refine blk_hit (then_n ?_)
        refine wp_seq<|wp_rs rfl<|RQ.y rfl (Y.move (v:=.int .i64 i148) s6_6x)<|RQ.y rfl (Y.assign (v:=.int .i64 i148) rfl)<|RQ.nil<|then_n<|wp_ret ?_
        obtain rfl:=sj hm
        exact (ret1 rfl rfl rfl ⟨rfl,T⟩)
       rintro g f w152 ⟨i150,i151,s1_6,s2_6,s6_6,s7_6,nn7_6,B3,T,hm⟩
       rcases g with _|g
       ·simp only [m_spec_l02Nodes_L6] at hm; cases hm
       obtain ⟨rec6,hrec6,hm⟩ :∃z,z=m_spec_l02Nodes_L6 d0 d1 self K6 g∧m_spec_l02Nodes_B6 d0 d1 self z K6 i150 i151=some r:=⟨_,rfl,hm⟩
       unfold m_spec_l02Nodes_B6 at hm
       refine wp_seq<|wp_seq<|wp_rs rfl<|RQ.y rfl (Y.move (v:=.int .i64 i151) s7_6)<|RQ.y rfl (Y.fieldAddr (off:=2) s2_6 (by kernel_rfl))<|RQ.y rfl (Y.load (v:=.slice A1 d0.kids.length c1) rfl (by kernel_rfl) (eqC (blkCell B3 (i:=2) rfl)))<|RQ.y rfl (Y.len (by kernel_rfl) rfl)<|RQ.y rfl (Y.binI (v:=.bool (decide (i151 < (d0.kids.length:Int)))) rfl rfl rfl)<|RQ.nil<|then_n ?_
       rcases bcases (decide (i151 < (d0.kids.length:Int))) with c153|c153
       ·replace hm:=cF c153 hm
        have pc153:=of_decide_eq_false c153
        refine cond_f rfl (vb rfl c153)<|wp_exit ?_
        exact (then_x (then_x (hit_x ⟨_,rfl,⟨i150,s6_6,B3,T,(by rw [hK6] at hm; exact hm)⟩⟩)))
       replace hm:=cT c153 hm
       have pc153:=of_decide_eq_true c153
       refine cond_t rfl (vb rfl c153)<|wp_skip<|then_n<|wp_seq<|wp_block<|wp_seq<|wp_rb rfl<|RQ.y rfl (Y.fieldAddr (off:=2) s2_6 (by kernel_rfl))<|RQ.y rfl (Y.load (v:=.slice A1 d0.kids.length c1) rfl (by kernel_rfl) (beC (blkCell B3 (i:=2) rfl)))<|RQ.y rfl (Y.move (v:=.int .i64 i151) s7_6) ?_
       obtain ⟨x154,hx157,hm⟩:=bnd hm
       obtain ⟨k155,hk158,hl159,hx157⟩:=getI_some hx157
       obtain ⟨b161,o162,rfl,hbb161⟩:=h1.addr (by omega)
       obtain ⟨cs156,hRcs156,hc160⟩:=h1.el hx157
       have hScs156:=hRcs156
       obtain ⟨A163,n163,c163,rfl,⟨h163,r163⟩⟩:=(typeRd_out hRcs156)
       have e163:=h163.len; subst e163
       have q163:=len_le r163
       refine RQ.y rfl (Y.indexAddr (m:=k155) (sz:=3) rfl rfl hk158 hl159 (by kernel_rfl))<|RQ.y rfl (Y.loadN (cs:=[.int .i64 x154.kind,.string x154.name,.slice A163 x154.kids.length c163]) rfl (by kernel_rfl) (cells3 (beC (cellT T (hc160 0 _ rfl))) (beC (cellT T (hc160 1 _ rfl))) (beC (cellT T (hc160 2 _ rfl)))))<|RQ.y rfl (Y.move (v:=.int .i64 d1) s1_6) ?_
       obtain ⟨s164,ks164,hm⟩:=bnd hm
       replace ks164:=ck_some ks164
       refine RQ.y rfl (Y.binI (v:=.int .i64 s164) rfl rfl (by rw [binI_sub ks164.2,ks164.1])) ?_
       obtain ⟨y165,e166,hm⟩:=bnd hm
       refine RQ.call rfl (am2 rfl rfl) (by kernel_rfl) (v:=.int .i64 y165) (bel (K:=fun _=>True) fun w' hb'=>(ih x154 s164 _ (by rw [← hself]; exact e166) _ w' (stArg (R:=typeRd) (typeRd_in ⟨_,_,_,rfl,⟨SlAt.now typeRd_ok h163 (Nat.le_refl _) (Tt T hb'),r163⟩⟩))))<|RQ.y rfl (Y.assign (v:=.int .i64 y165) rfl)<|RQ.nil ?_
       intro w167 hb168
       have szw167:=hb168.size
       have B3:=blkT B3 hb168
       have T:=Tt T hb168
       refine then_n<|wp_seq<|wp_seq<|wp_rs rfl<|RQ.y rfl (Y.move (v:=.int .i64 y165) rfl)<|RQ.y rfl (Y.binI (v:=.bool (decide (y165 < 0))) rfl rfl rfl)<|RQ.nil<|then_n ?_
       rcases bcases (decide (y165 < 0)) with c169|c169
       ·replace hm:=cF c169 hm
        have pc169:=of_decide_eq_false c169
        refine cond_f rfl (vb rfl c169)<|wp_skip<|then_n<|wp_rs rfl<|RQ.y rfl (Y.move (v:=.int .i64 i150) s6_6)<|RQ.y rfl (Y.move (v:=.int .i64 y165) rfl) ?_
        obtain ⟨s170,ks170,hm⟩:=bnd hm
        replace ks170:=ck_some ks170
        refine RQ.y rfl (Y.binI (v:=.int .i64 s170) rfl rfl (by rw [binI_add ks170.2,ks170.1]))<|RQ.y rfl (Y.assign (v:=.int .i64 s170) rfl)<|RQ.nil ?_
        refine blk_n (then_n ?_)
        refine wp_rs rfl<|RQ.y rfl (Y.move (v:=.int .i64 i151) s7_6)<|RQ.y rfl (Y.binI rfl rfl (binI_add (m:=i151) (by omega)))<|RQ.y rfl (Y.assign (v:=.int .i64 (i151+1)) rfl)<|RQ.nil ?_
        exact (then_n ⟨g,_,Nat.lt_succ_self _,rfl,⟨s170,(i151+1),s1_6,s2_6,rfl,rfl,(by omega),B3,T,(by rw [← hrec6]; exact hm)⟩⟩)
       replace hm:=cT c169 hm
       have pc169:=of_decide_eq_true c169
       refine cond_t rfl (vb rfl c169)<|wp_seq<|wp_rs rfl<|RQ.y rfl (Y.assign (v:=.int .i64 (-1)) rfl)<|RQ.nil<|then_n<|wp_ret ?_
       obtain rfl:=sj hm
       exact (then_r (blk_r (then_r (then_r (hit_r (blk_r (then_r (ret1 rfl rfl rfl ⟨rfl,T⟩))))))))
      replace hm:=cT c121 hm
      iterate 4 refine RQ.skip (wantN (dj:=35) rfl (vb rfl c121) rfl) ?_
      iterate 3 refine RQ.skip rfl ?_
      refine RQ.skip (wantN (dj:=35) rfl (vb rfl c121) rfl)<|RQ.y rfl (Y.pick (b:=true) (v:=.bool true) (vb rfl c121) rfl)<|RQ.nil<|then_n<|cond_t rfl rfl<|wp_seq<|wp_rs rfl<|RQ.y rfl (Y.assign (v:=.int .i64 (-1)) rfl)<|RQ.nil<|then_n<|wp_ret ?_
      obtain rfl:=sj hm
      exact (then_r (ret1 rfl rfl rfl ⟨rfl,T⟩))
     replace hm:=cT c120 hm
     refine cond_t rfl (vb rfl c120)<|wp_seq<|wp_rs rfl<|RQ.y rfl (Y.assign (v:=.int .i64 (-1)) rfl)<|RQ.nil<|then_n<|wp_ret ?_
     obtain rfl:=sj hm
     exact (blk_r (then_r (ret1 rfl rfl rfl ⟨rfl,T⟩)))
    replace hm:=cT c7 hm
    refine cond_t rfl (vb rfl c7)<|wp_skip ?_
    refine blk_n (then_n ?_)
    refine wp_seq<|wp_seq<|wp_rs rfl<|RQ.y rfl (Y.fieldAddr (off:=2) rfl (by kernel_rfl))<|RQ.y rfl (Y.load (v:=.slice A1 d0.kids.length c1) rfl (by kernel_rfl) (eqC (blkCell B3 (i:=2) rfl)))<|RQ.y rfl (Y.len (by kernel_rfl) rfl)<|RQ.y rfl (Y.move (v:=.int .i64 0) rfl)<|RQ.y rfl (Y.binI (v:=.bool ((d0.kids.length:Int) != 0)) rfl rfl rfl)<|RQ.y rfl (Y.move (v:=.bool ((d0.kids.length:Int) != 0)) rfl) ?_
    rcases bcases ((d0.kids.length:Int) != 0) with c172|c172
    ·replace hm:=cF c172 hm
     refine RQ.y (wantT (dj:=35) rfl (vb rfl c172)) (Y.fieldAddr (off:=0) rfl (by kernel_rfl))<|RQ.y (wantT (dj:=35) rfl (vb rfl c172)) (Y.load (v:=.int .i64 d0.kind) rfl (by kernel_rfl) (eqC (blkCell B3 (i:=0) rfl)))<|RQ.y (wantT (dj:=35) rfl (vb rfl c172)) (Y.binI (v:=.bool (d0.kind != 2)) rfl rfl rfl)<|RQ.y (wantT (dj:=35) rfl (vb rfl c172)) (Y.move (v:=.bool (d0.kind != 2)) rfl) ?_
     rcases bcases (d0.kind != 2) with c173|c173
     ·replace hm:=cF c173 hm
      iterate 3 refine RQ.skip (wantN (dj:=39) rfl (vb rfl c173) rfl) ?_
      refine RQ.y (wantT (dj:=35) rfl (vb rfl c172)) (Y.pick (b:=false) (v:=.bool false) (vb rfl c173) rfl)<|RQ.y rfl (Y.pick (b:=false) (v:=.bool false) (vb rfl c172) rfl)<|RQ.nil<|then_n<|cond_f rfl rfl<|wp_skip<|then_n<|wp_seq<|wp_rs rfl<|RQ.y rfl (Y.assign (v:=.int .i64 1) rfl)<|RQ.nil<|then_n<|wp_seq<|wp_seq<|wp_rs rfl<|RQ.y rfl (Y.assign (v:=.int .i64 0) rfl)<|RQ.nil<|then_n<|wp_block ?_
      obtain ⟨K7,hK7,hm⟩ :∃K,K=m_spec_l02Nodes_A7∧m_spec_l02Nodes_L7 d0 d1 self K (d0.kids.length+1) 1 0=some r:=⟨_,rfl,hm⟩
      refine wp_loopX (fun g f w'=>∃(i176:Int) (i177:Int),f 1=.int .i64 d1∧f 2=.pointer (some ⟨w.heap.size,0,none⟩)∧f 6=.int .i64 i176∧f 7=.int .i64 i177∧0≤i177∧Blk w' w.heap.size 114 #[.int .i64 d0.kind,.string d0.name,.slice A1 d0.kids.length c1]∧Below w.heap.size w w'∧m_spec_l02Nodes_L7 d0 d1 self K7 g i176 i177=some r) 1 (fun f w'=>∃(i174:Int),f 6=.int .i64 i174∧Blk w' w.heap.size 114 #[.int .i64 d0.kind,.string d0.name,.slice A1 d0.kids.length c1]∧Below w.heap.size w w'∧m_spec_l02Nodes_A7 i174=some r) (d0.kids.length+1) ⟨1,0,s1,rfl,rfl,rfl,(by omega),B3,T,hm⟩ ?_ ?_
      ·rintro f w175 ⟨i174,s6_7x,B3,T,hm⟩
       unfold m_spec_l02Nodes_A7 at hm
       refine blk_hit (then_n ?_)
       refine wp_seq<|wp_rs rfl<|RQ.y rfl (Y.move (v:=.int .i64 i174) s6_7x)<|RQ.y rfl (Y.assign (v:=.int .i64 i174) rfl)<|RQ.nil<|then_n<|wp_ret ?_
       obtain rfl:=sj hm
       exact (ret1 rfl rfl rfl ⟨rfl,T⟩)
      rintro g f w178 ⟨i176,i177,s1_7,s2_7,s6_7,s7_7,nn7_7,B3,T,hm⟩
      rcases g with _|g
      ·simp only [m_spec_l02Nodes_L7] at hm; cases hm
      obtain ⟨rec7,hrec7,hm⟩ :∃z,z=m_spec_l02Nodes_L7 d0 d1 self K7 g∧m_spec_l02Nodes_B7 d0 d1 self z K7 i176 i177=some r:=⟨_,rfl,hm⟩
      unfold m_spec_l02Nodes_B7 at hm
      refine wp_seq<|wp_seq<|wp_rs rfl<|RQ.y rfl (Y.move (v:=.int .i64 i177) s7_7)<|RQ.y rfl (Y.fieldAddr (off:=2) s2_7 (by kernel_rfl))<|RQ.y rfl (Y.load (v:=.slice A1 d0.kids.length c1) rfl (by kernel_rfl) (eqC (blkCell B3 (i:=2) rfl)))<|RQ.y rfl (Y.len (by kernel_rfl) rfl)<|RQ.y rfl (Y.binI (v:=.bool (decide (i177 < (d0.kids.length:Int)))) rfl rfl rfl)<|RQ.nil<|then_n ?_
      rcases bcases (decide (i177 < (d0.kids.length:Int))) with c179|c179
      ·replace hm:=cF c179 hm
       have pc179:=of_decide_eq_false c179
       refine cond_f rfl (vb rfl c179)<|wp_exit ?_
       exact (then_x (then_x (hit_x ⟨_,rfl,⟨i176,s6_7,B3,T,(by rw [hK7] at hm; exact hm)⟩⟩)))
      replace hm:=cT c179 hm
      have pc179:=of_decide_eq_true c179
      refine cond_t rfl (vb rfl c179)<|wp_skip<|then_n<|wp_seq<|wp_block<|wp_seq<|wp_rb rfl<|RQ.y rfl (Y.fieldAddr (off:=2) s2_7 (by kernel_rfl))<|RQ.y rfl (Y.load (v:=.slice A1 d0.kids.length c1) rfl (by kernel_rfl) (beC (blkCell B3 (i:=2) rfl)))<|RQ.y rfl (Y.move (v:=.int .i64 i177) s7_7) ?_
      obtain ⟨x180,hx183,hm⟩:=bnd hm
      obtain ⟨k181,hk184,hl185,hx183⟩:=getI_some hx183
      obtain ⟨b187,o188,rfl,hbb187⟩:=h1.addr (by omega)
      obtain ⟨cs182,hRcs182,hc186⟩:=h1.el hx183
      have hScs182:=hRcs182
      obtain ⟨A189,n189,c189,rfl,⟨h189,r189⟩⟩:=(typeRd_out hRcs182)
      have e189:=h189.len; subst e189
      have q189:=len_le r189
      refine RQ.y rfl (Y.indexAddr (m:=k181) (sz:=3) rfl rfl hk184 hl185 (by kernel_rfl))<|RQ.y rfl (Y.loadN (cs:=[.int .i64 x180.kind,.string x180.name,.slice A189 x180.kids.length c189]) rfl (by kernel_rfl) (cells3 (beC (cellT T (hc186 0 _ rfl))) (beC (cellT T (hc186 1 _ rfl))) (beC (cellT T (hc186 2 _ rfl)))))<|RQ.y rfl (Y.move (v:=.int .i64 d1) s1_7) ?_
      obtain ⟨s190,ks190,hm⟩:=bnd hm
      replace ks190:=ck_some ks190
      refine RQ.y rfl (Y.binI (v:=.int .i64 s190) rfl rfl (by rw [binI_sub ks190.2,ks190.1])) ?_
      obtain ⟨y191,e192,hm⟩:=bnd hm
      refine RQ.call rfl (am2 rfl rfl) (by kernel_rfl) (v:=.int .i64 y191) (bel (K:=fun _=>True) fun w' hb'=>(ih x180 s190 _ (by rw [← hself]; exact e192) _ w' (stArg (R:=typeRd) (typeRd_in ⟨_,_,_,rfl,⟨SlAt.now typeRd_ok h189 (Nat.le_refl _) (Tt T hb'),r189⟩⟩))))<|RQ.y rfl (Y.assign (v:=.int .i64 y191) rfl)<|RQ.nil ?_
      intro w193 hb194
      have szw193:=hb194.size
      have B3:=blkT B3 hb194
      have T:=Tt T hb194
      refine then_n<|wp_seq<|wp_seq<|wp_rs rfl<|RQ.y rfl (Y.move (v:=.int .i64 y191) rfl)<|RQ.y rfl (Y.binI (v:=.bool (decide (y191 < 0))) rfl rfl rfl)<|RQ.nil<|then_n ?_
      rcases bcases (decide (y191 < 0)) with c195|c195
      ·replace hm:=cF c195 hm
       have pc195:=of_decide_eq_false c195
       refine cond_f rfl (vb rfl c195)<|wp_skip<|then_n<|wp_rs rfl<|RQ.y rfl (Y.move (v:=.int .i64 i176) s6_7)<|RQ.y rfl (Y.move (v:=.int .i64 y191) rfl) ?_
       obtain ⟨s196,ks196,hm⟩:=bnd hm
       replace ks196:=ck_some ks196
       refine RQ.y rfl (Y.binI (v:=.int .i64 s196) rfl rfl (by rw [binI_add ks196.2,ks196.1]))<|RQ.y rfl (Y.assign (v:=.int .i64 s196) rfl)<|RQ.nil ?_
       refine blk_n (then_n ?_)
       refine wp_rs rfl<|RQ.y rfl (Y.move (v:=.int .i64 i177) s7_7)<|RQ.y rfl (Y.binI rfl rfl (binI_add (m:=i177) (by omega)))<|RQ.y rfl (Y.assign (v:=.int .i64 (i177+1)) rfl)<|RQ.nil ?_
       exact (then_n ⟨g,_,Nat.lt_succ_self _,rfl,⟨s196,(i177+1),s1_7,s2_7,rfl,rfl,(by omega),B3,T,(by rw [← hrec7]; exact hm)⟩⟩)
      replace hm:=cT c195 hm
      have pc195:=of_decide_eq_true c195
      refine cond_t rfl (vb rfl c195)<|wp_seq<|wp_rs rfl<|RQ.y rfl (Y.assign (v:=.int .i64 (-1)) rfl)<|RQ.nil<|then_n<|wp_ret ?_
      obtain rfl:=sj hm
      exact (then_r (blk_r (then_r (then_r (hit_r (blk_r (then_r (ret1 rfl rfl rfl ⟨rfl,T⟩))))))))
     replace hm:=cT c173 hm
     refine RQ.y (wantT (dj:=39) rfl (vb rfl c173)) (Y.fieldAddr (off:=1) rfl (by kernel_rfl))<|RQ.y (wantT (dj:=39) rfl (vb rfl c173)) (Y.load (v:=.string d0.name) rfl (by kernel_rfl) (eqC (blkCell B3 (i:=1) rfl)))<|RQ.y (wantT (dj:=39) rfl (vb rfl c173)) (Y.neStr rfl rfl (by kernel_rfl))<|RQ.y (wantT (dj:=35) rfl (vb rfl c172)) (Y.pick (b:=true) (v:=.bool (!(d0.name.toList==(ByteArray.mk #[]).toList))) (vb rfl c173) rfl)<|RQ.y rfl (Y.pick (b:=false) (v:=.bool (!(d0.name.toList==(ByteArray.mk #[]).toList))) (vb rfl c172) rfl)<|RQ.nil<|then_n ?_
     rcases bcases (d0.name.toList==(ByteArray.mk #[]).toList) with c198|c198
     ·replace hm:=cF c198 hm
      refine cond_t rfl (vbn rfl c198 rfl)<|wp_seq<|wp_rs rfl<|RQ.y rfl (Y.assign (v:=.int .i64 (-1)) rfl)<|RQ.nil<|then_n<|wp_ret ?_
      obtain rfl:=sj hm
      exact (then_r (ret1 rfl rfl rfl ⟨rfl,T⟩))
     replace hm:=cT c198 hm
     refine cond_f rfl (vbn rfl c198 rfl)<|wp_skip<|then_n<|wp_seq<|wp_rs rfl<|RQ.y rfl (Y.assign (v:=.int .i64 1) rfl)<|RQ.nil<|then_n<|wp_seq<|wp_seq<|wp_rs rfl<|RQ.y rfl (Y.assign (v:=.int .i64 0) rfl)<|RQ.nil<|then_n<|wp_block ?_
     obtain ⟨K8,hK8,hm⟩ :∃K,K=m_spec_l02Nodes_A8∧m_spec_l02Nodes_L8 d0 d1 self K (d0.kids.length+1) 1 0=some r:=⟨_,rfl,hm⟩
     refine wp_loopX (fun g f w'=>∃(i201:Int) (i202:Int),f 1=.int .i64 d1∧f 2=.pointer (some ⟨w.heap.size,0,none⟩)∧f 6=.int .i64 i201∧f 7=.int .i64 i202∧0≤i202∧Blk w' w.heap.size 114 #[.int .i64 d0.kind,.string d0.name,.slice A1 d0.kids.length c1]∧Below w.heap.size w w'∧m_spec_l02Nodes_L8 d0 d1 self K8 g i201 i202=some r) 1 (fun f w'=>∃(i199:Int),f 6=.int .i64 i199∧Blk w' w.heap.size 114 #[.int .i64 d0.kind,.string d0.name,.slice A1 d0.kids.length c1]∧Below w.heap.size w w'∧m_spec_l02Nodes_A8 i199=some r) (d0.kids.length+1) ⟨1,0,s1,rfl,rfl,rfl,(by omega),B3,T,hm⟩ ?_ ?_
     ·rintro f w200 ⟨i199,s6_8x,B3,T,hm⟩
      unfold m_spec_l02Nodes_A8 at hm
      refine blk_hit (then_n ?_)
      refine wp_seq<|wp_rs rfl<|RQ.y rfl (Y.move (v:=.int .i64 i199) s6_8x)<|RQ.y rfl (Y.assign (v:=.int .i64 i199) rfl)<|RQ.nil<|then_n<|wp_ret ?_
      obtain rfl:=sj hm
      exact (ret1 rfl rfl rfl ⟨rfl,T⟩)
     rintro g f w203 ⟨i201,i202,s1_8,s2_8,s6_8,s7_8,nn7_8,B3,T,hm⟩
     rcases g with _|g
     ·simp only [m_spec_l02Nodes_L8] at hm; cases hm
     obtain ⟨rec8,hrec8,hm⟩ :∃z,z=m_spec_l02Nodes_L8 d0 d1 self K8 g∧m_spec_l02Nodes_B8 d0 d1 self z K8 i201 i202=some r:=⟨_,rfl,hm⟩
     unfold m_spec_l02Nodes_B8 at hm
     refine wp_seq<|wp_seq<|wp_rs rfl<|RQ.y rfl (Y.move (v:=.int .i64 i202) s7_8)<|RQ.y rfl (Y.fieldAddr (off:=2) s2_8 (by kernel_rfl))<|RQ.y rfl (Y.load (v:=.slice A1 d0.kids.length c1) rfl (by kernel_rfl) (eqC (blkCell B3 (i:=2) rfl)))<|RQ.y rfl (Y.len (by kernel_rfl) rfl)<|RQ.y rfl (Y.binI (v:=.bool (decide (i202 < (d0.kids.length:Int)))) rfl rfl rfl)<|RQ.nil<|then_n ?_
     rcases bcases (decide (i202 < (d0.kids.length:Int))) with c204|c204
     ·replace hm:=cF c204 hm
      have pc204:=of_decide_eq_false c204
      refine cond_f rfl (vb rfl c204)<|wp_exit ?_
      exact (then_x (then_x (hit_x ⟨_,rfl,⟨i201,s6_8,B3,T,(by rw [hK8] at hm; exact hm)⟩⟩)))
     replace hm:=cT c204 hm
     have pc204:=of_decide_eq_true c204
     refine cond_t rfl (vb rfl c204)<|wp_skip<|then_n<|wp_seq<|wp_block<|wp_seq<|wp_rb rfl<|RQ.y rfl (Y.fieldAddr (off:=2) s2_8 (by kernel_rfl))<|RQ.y rfl (Y.load (v:=.slice A1 d0.kids.length c1) rfl (by kernel_rfl) (beC (blkCell B3 (i:=2) rfl)))<|RQ.y rfl (Y.move (v:=.int .i64 i202) s7_8) ?_
     obtain ⟨x205,hx208,hm⟩:=bnd hm
     obtain ⟨k206,hk209,hl210,hx208⟩:=getI_some hx208
     obtain ⟨b212,o213,rfl,hbb212⟩:=h1.addr (by omega)
     obtain ⟨cs207,hRcs207,hc211⟩:=h1.el hx208
     have hScs207:=hRcs207
     obtain ⟨A214,n214,c214,rfl,⟨h214,r214⟩⟩:=(typeRd_out hRcs207)
     have e214:=h214.len; subst e214
     have q214:=len_le r214
     refine RQ.y rfl (Y.indexAddr (m:=k206) (sz:=3) rfl rfl hk209 hl210 (by kernel_rfl))<|RQ.y rfl (Y.loadN (cs:=[.int .i64 x205.kind,.string x205.name,.slice A214 x205.kids.length c214]) rfl (by kernel_rfl) (cells3 (beC (cellT T (hc211 0 _ rfl))) (beC (cellT T (hc211 1 _ rfl))) (beC (cellT T (hc211 2 _ rfl)))))<|RQ.y rfl (Y.move (v:=.int .i64 d1) s1_8) ?_
     obtain ⟨s215,ks215,hm⟩:=bnd hm
     replace ks215:=ck_some ks215
     refine RQ.y rfl (Y.binI (v:=.int .i64 s215) rfl rfl (by rw [binI_sub ks215.2,ks215.1])) ?_
     obtain ⟨y216,e217,hm⟩:=bnd hm
     refine RQ.call rfl (am2 rfl rfl) (by kernel_rfl) (v:=.int .i64 y216) (bel (K:=fun _=>True) fun w' hb'=>(ih x205 s215 _ (by rw [← hself]; exact e217) _ w' (stArg (R:=typeRd) (typeRd_in ⟨_,_,_,rfl,⟨SlAt.now typeRd_ok h214 (Nat.le_refl _) (Tt T hb'),r214⟩⟩))))<|RQ.y rfl (Y.assign (v:=.int .i64 y216) rfl)<|RQ.nil ?_
     intro w218 hb219
     have szw218:=hb219.size
     have B3:=blkT B3 hb219
     have T:=Tt T hb219
     refine then_n<|wp_seq<|wp_seq<|wp_rs rfl<|RQ.y rfl (Y.move (v:=.int .i64 y216) rfl)<|RQ.y rfl (Y.binI (v:=.bool (decide (y216 < 0))) rfl rfl rfl)<|RQ.nil<|then_n ?_
     rcases bcases (decide (y216 < 0)) with c220|c220
     ·replace hm:=cF c220 hm
      have pc220:=of_decide_eq_false c220
      refine cond_f rfl (vb rfl c220)<|wp_skip<|then_n<|wp_rs rfl<|RQ.y rfl (Y.move (v:=.int .i64 i201) s6_8)<|RQ.y rfl (Y.move (v:=.int .i64 y216) rfl) ?_
      obtain ⟨s221,ks221,hm⟩:=bnd hm
      replace ks221:=ck_some ks221
      refine RQ.y rfl (Y.binI (v:=.int .i64 s221) rfl rfl (by rw [binI_add ks221.2,ks221.1]))<|RQ.y rfl (Y.assign (v:=.int .i64 s221) rfl)<|RQ.nil ?_
      refine blk_n (then_n ?_)
      refine wp_rs rfl<|RQ.y rfl (Y.move (v:=.int .i64 i202) s7_8)<|RQ.y rfl (Y.binI rfl rfl (binI_add (m:=i202) (by omega)))<|RQ.y rfl (Y.assign (v:=.int .i64 (i202+1)) rfl)<|RQ.nil ?_
      exact (then_n ⟨g,_,Nat.lt_succ_self _,rfl,⟨s221,(i202+1),s1_8,s2_8,rfl,rfl,(by omega),B3,T,(by rw [← hrec8]; exact hm)⟩⟩)
     replace hm:=cT c220 hm
     have pc220:=of_decide_eq_true c220
     refine cond_t rfl (vb rfl c220)<|wp_seq<|wp_rs rfl<|RQ.y rfl (Y.assign (v:=.int .i64 (-1)) rfl)<|RQ.nil<|then_n<|wp_ret ?_
     obtain rfl:=sj hm
     exact (then_r (blk_r (then_r (then_r (hit_r (blk_r (then_r (ret1 rfl rfl rfl ⟨rfl,T⟩))))))))
    replace hm:=cT c172 hm
    iterate 4 refine RQ.skip (wantN (dj:=35) rfl (vb rfl c172) rfl) ?_
    iterate 3 refine RQ.skip rfl ?_
    refine RQ.skip (wantN (dj:=35) rfl (vb rfl c172) rfl)<|RQ.y rfl (Y.pick (b:=true) (v:=.bool true) (vb rfl c172) rfl)<|RQ.nil<|then_n<|cond_t rfl rfl<|wp_seq<|wp_rs rfl<|RQ.y rfl (Y.assign (v:=.int .i64 (-1)) rfl)<|RQ.nil<|then_n<|wp_ret ?_
    obtain rfl:=sj hm
    exact (then_r (ret1 rfl rfl rfl ⟨rfl,T⟩))
   replace hm:=cT c6 hm
   have pc6:=of_decide_eq_true c6
   refine cond_t rfl (vb rfl c6)<|wp_seq<|wp_rs rfl<|RQ.y rfl (Y.assign (v:=.int .i64 (-1)) rfl)<|RQ.nil<|then_n<|wp_ret ?_
   obtain rfl:=sj hm
   exact (then_r (ret1 rfl rfl rfl ⟨rfl,T⟩))
noncomputable def m_spec_ValidType (d0:DType):Option Bool:=
  ((m_spec_l02Nodes (SizeOf.sizeOf d0) d0 6).bind fun y6=>some (inR y6 1 16))
set_option maxHeartbeats 2000000 in
theorem c_m_spec_ValidType (d0:DType) (r:Bool) (hm:m_spec_ValidType d0=some r) (v0:Value) (w:World) (hv0:St typeRd w v0 d0) :
    Calls Tryz.prog 232 #[v0] w fun e w'=>e=.returned (.bool r)∧Below w.heap.size w w':=by
  obtain ⟨csa0,rfl,hRR0⟩:=hv0
  obtain ⟨A1,n1,c1,rfl,⟨h1,r1⟩⟩:=(typeRd_out hRR0)
  have e1:=h1.len; subst e1
  have q1:=len_le r1
  have T:=Below.refl w.heap.size w
  unfold m_spec_ValidType at hm
  refine enter 6 Tryz.func232 rfl rfl rfl ?_
  intro f hf
  have s0:f 0=.agg #[.int .i64 d0.kind,.string d0.name,.slice A1 d0.kids.length c1]:=hf 0 _ rfl
  refine wp_seq<|wp_rl rfl ?_
  refine RL.box rfl s0 (fun w2 B3 hb4 szw2=>?_)
  replace B3:Blk w2 w.heap.size 114 #[.int .i64 d0.kind,.string d0.name,.slice A1 d0.kids.length c1]:=B3
  have GB3:w.heap.size≤w.heap.size:=T.size
  have T:=Tt T hb4
  refine RL.y rfl (Y.assign (v:=.bool false) rfl)<|RL.nil<|then_n<|wp_seq<|wp_rb rfl<|RQ.y rfl (Y.loadN (cs:=[.int .i64 d0.kind,.string d0.name,.slice A1 d0.kids.length c1]) rfl (by kernel_rfl) (cells3 (beC (blkCell B3 (i:=0) rfl)) (beC (blkCell B3 (i:=1) rfl)) (beC (blkCell B3 (i:=2) rfl)))) ?_
  obtain ⟨y6,e7,hm⟩:=bnd hm
  refine RQ.call rfl (am2 rfl rfl) (by kernel_rfl) (v:=.int .i64 y6) (bel (K:=fun _=>True) fun w' hb'=>(c_m_spec_l02Nodes (SizeOf.sizeOf d0) d0 6 _ e7 _ w' (stArg (R:=typeRd) (typeRd_in ⟨_,_,_,rfl,⟨SlAt.now typeRd_ok h1 (Nat.le_refl _) (Tt T hb'),r1⟩⟩))))<|RQ.call rfl (am3 rfl rfl rfl) (by kernel_rfl) (v:=.bool (inR y6 1 16)) (bel (K:=fun _=>True) fun w' hb'=>(callB (spec_l00In y6 1 16 w')))<|RQ.y rfl (Y.assign (v:=.bool (inR y6 1 16)) rfl)<|RQ.nil ?_
  intro w8 hb9
  have szw8:=hb9.size
  have T:=Tt T hb9
  refine then_n<|wp_ret ?_
  obtain rfl:=sj hm
  exact (ret1 rfl rfl rfl ⟨rfl,T⟩)
noncomputable def m_spec_l02Known_A1:Option Bool:=
  some true
noncomputable def m_spec_l02Known_B1 (d0:List DData) (d1:DType) (self:(List DData)→DType→Option Bool) (rec1:Int→Option Bool) (K1:Option Bool) (i8:Int):Option Bool:=
  (bif (decide (i8 < (d1.kids.length:Int))) then ((getI d1.kids i8).bind fun x11=>((self d0 x11).bind fun y21=>(bif y21 then (rec1 (i8+1)) else some false))) else (K1))
noncomputable def m_spec_l02Known_L1 (d0:List DData) (d1:DType) (self:(List DData)→DType→Option Bool) (K1:Option Bool):Nat→Int→Option Bool
  |0,_=>none
  |g+1,i8=>m_spec_l02Known_B1 d0 d1 self (m_spec_l02Known_L1 d0 d1 self K1 g) K1 i8
noncomputable def m_spec_l02Known_R (self:(List DData)→DType→Option Bool) (d0:List DData) (d1:DType):Option Bool:=
  (bif (d1.kind==2) then ((m_spec_l02Named d0 d1.name).bind fun y27=>some (decide (y27 ≥ 0))) else (m_spec_l02Known_L1 d0 d1 self m_spec_l02Known_A1 (d1.kids.length+1) 0))
noncomputable def m_spec_l02Known:Nat→(List DData)→DType→Option Bool
  |0,_,_=>none
  |gas+1,d0,d1=>m_spec_l02Known_R (m_spec_l02Known gas) d0 d1
set_option maxHeartbeats 2000000 in
theorem c_m_spec_l02Known :∀(gas:Nat) (d0:List DData) (d1:DType) (r:Bool) (hm:m_spec_l02Known gas d0 d1=some r) (v0:Value) (v1:Value) (w:World) (hv0:Sl dataRd 2 w v0 d0) (hv1:St typeRd w v1 d1),
    Calls Tryz.prog 233 #[v0,v1] w fun e w'=>e=.returned (.bool r)∧Below w.heap.size w w':=by
  intro gas
  induction gas with
  |zero=>
   intro d0 d1 r hm v0 v1 w hv0 hv1
   cases hm
  |succ gas ih=>
   intro d0 d1 r hm v0 v1 w hv0 hv1
   obtain ⟨Aa0,na0,ca0,rfl,ha0,ra0⟩:=hv0
   have ea0:=ha0.len; subst ea0
   have qa0:=len_le ra0
   obtain ⟨csa1,rfl,hRR1⟩:=hv1
   obtain ⟨A1,n1,c1,rfl,⟨h1,r1⟩⟩:=(typeRd_out hRR1)
   have e1:=h1.len; subst e1
   have q1:=len_le r1
   have T:=Below.refl w.heap.size w
   obtain ⟨self,hself,hm⟩ :∃s,s=m_spec_l02Known gas∧m_spec_l02Known_R s d0 d1=some r:=⟨_,rfl,hm⟩
   unfold m_spec_l02Known_R at hm
   refine enter 29 Tryz.func233 rfl rfl rfl ?_
   intro f hf
   have s0:f 0=.slice Aa0 d0.length ca0:=hf 0 _ rfl
   have s1:f 1=.agg #[.int .i64 d1.kind,.string d1.name,.slice A1 d1.kids.length c1]:=hf 1 _ rfl
   refine wp_seq<|wp_rl rfl ?_
   refine RL.box rfl s1 (fun w2 B3 hb4 szw2=>?_)
   replace B3:Blk w2 w.heap.size 114 #[.int .i64 d1.kind,.string d1.name,.slice A1 d1.kids.length c1]:=B3
   have GB3:w.heap.size≤w.heap.size:=T.size
   have T:=Tt T hb4
   refine RL.y rfl (Y.assign (v:=.bool false) rfl)<|RL.nil<|then_n<|wp_seq<|wp_seq<|wp_rs rfl<|RQ.y rfl (Y.fieldAddr (off:=0) rfl (by kernel_rfl))<|RQ.y rfl (Y.load (v:=.int .i64 d1.kind) rfl (by kernel_rfl) (eqC (blkCell B3 (i:=0) rfl)))<|RQ.y rfl (Y.binI (v:=.bool (d1.kind==2)) rfl rfl rfl)<|RQ.nil<|then_n ?_
   rcases bcases (d1.kind==2) with c6|c6
   ·replace hm:=cF c6 hm
    refine cond_f rfl (vb rfl c6)<|wp_skip<|then_n<|wp_seq<|wp_seq<|wp_rs rfl<|RQ.y rfl (Y.assign (v:=.int .i64 0) rfl)<|RQ.nil<|then_n<|wp_block ?_
    obtain ⟨K1,hK1,hm⟩ :∃K,K=m_spec_l02Known_A1∧m_spec_l02Known_L1 d0 d1 self K (d1.kids.length+1) 0=some r:=⟨_,rfl,hm⟩
    refine wp_loopX (fun g f w'=>∃(i8:Int),f 0=.slice Aa0 d0.length ca0∧f 3=.pointer (some ⟨w.heap.size,0,none⟩)∧f 5=.int .i64 i8∧0≤i8∧Blk w' w.heap.size 114 #[.int .i64 d1.kind,.string d1.name,.slice A1 d1.kids.length c1]∧Below w.heap.size w w'∧m_spec_l02Known_L1 d0 d1 self K1 g i8=some r) 0 (fun f w'=>Blk w' w.heap.size 114 #[.int .i64 d1.kind,.string d1.name,.slice A1 d1.kids.length c1]∧Below w.heap.size w w'∧m_spec_l02Known_A1  = some r) (d1.kids.length+1) ⟨0,s0,rfl,rfl,(by omega),B3,T,hm⟩ ?_ ?_
    ·rintro f w7 ⟨B3,T,hm⟩
     unfold m_spec_l02Known_A1 at hm
     refine blk_hit (then_n ?_)
     refine wp_seq<|wp_rs rfl<|RQ.y rfl (Y.assign (v:=.bool true) rfl)<|RQ.nil<|then_n<|wp_ret ?_
     obtain rfl:=sj hm
     exact (ret1 rfl rfl rfl ⟨rfl,T⟩)
    rintro g f w9 ⟨i8,s0_1,s3_1,s5_1,nn5_1,B3,T,hm⟩
    rcases g with _|g
    ·simp only [m_spec_l02Known_L1] at hm; cases hm
    obtain ⟨rec1,hrec1,hm⟩ :∃z,z=m_spec_l02Known_L1 d0 d1 self K1 g∧m_spec_l02Known_B1 d0 d1 self z K1 i8=some r:=⟨_,rfl,hm⟩
    unfold m_spec_l02Known_B1 at hm
    refine wp_seq<|wp_seq<|wp_rs rfl<|RQ.y rfl (Y.move (v:=.int .i64 i8) s5_1)<|RQ.y rfl (Y.fieldAddr (off:=2) s3_1 (by kernel_rfl))<|RQ.y rfl (Y.load (v:=.slice A1 d1.kids.length c1) rfl (by kernel_rfl) (eqC (blkCell B3 (i:=2) rfl)))<|RQ.y rfl (Y.len (by kernel_rfl) rfl)<|RQ.y rfl (Y.binI (v:=.bool (decide (i8 < (d1.kids.length:Int)))) rfl rfl rfl)<|RQ.nil<|then_n ?_
    rcases bcases (decide (i8 < (d1.kids.length:Int))) with c10|c10
    ·replace hm:=cF c10 hm
     have pc10:=of_decide_eq_false c10
     refine cond_f rfl (vb rfl c10)<|wp_exit ?_
     exact (then_x (then_x (hit_x ⟨_,rfl,⟨B3,T,(by rw [hK1] at hm; exact hm)⟩⟩)))
    replace hm:=cT c10 hm
    have pc10:=of_decide_eq_true c10
    refine cond_t rfl (vb rfl c10)<|wp_skip<|then_n<|wp_seq<|wp_block<|wp_seq<|wp_rb rfl<|RQ.y rfl (Y.move (v:=.slice Aa0 d0.length ca0) s0_1)<|RQ.y rfl (Y.fieldAddr (off:=2) s3_1 (by kernel_rfl))<|RQ.y rfl (Y.load (v:=.slice A1 d1.kids.length c1) rfl (by kernel_rfl) (beC (blkCell B3 (i:=2) rfl)))<|RQ.y rfl (Y.move (v:=.int .i64 i8) s5_1) ?_
    obtain ⟨x11,hx14,hm⟩:=bnd hm
    obtain ⟨k12,hk15,hl16,hx14⟩:=getI_some hx14
    obtain ⟨b18,o19,rfl,hbb18⟩:=h1.addr (by omega)
    obtain ⟨cs13,hRcs13,hc17⟩:=h1.el hx14
    have hScs13:=hRcs13
    obtain ⟨A20,n20,c20,rfl,⟨h20,r20⟩⟩:=(typeRd_out hRcs13)
    have e20:=h20.len; subst e20
    have q20:=len_le r20
    refine RQ.y rfl (Y.indexAddr (m:=k12) (sz:=3) rfl rfl hk15 hl16 (by kernel_rfl))<|RQ.y rfl (Y.loadN (cs:=[.int .i64 x11.kind,.string x11.name,.slice A20 x11.kids.length c20]) rfl (by kernel_rfl) (cells3 (beC (cellT T (hc17 0 _ rfl))) (beC (cellT T (hc17 1 _ rfl))) (beC (cellT T (hc17 2 _ rfl))))) ?_
    obtain ⟨y21,e22,hm⟩:=bnd hm
    refine RQ.call rfl (am2 rfl rfl) (by kernel_rfl) (v:=.bool y21) (bel (K:=fun _=>True) fun w' hb'=>(ih d0 x11 _ (by rw [← hself]; exact e22) _ _ w' (slArg dataRd_ok ha0 ra0 (Tt T hb')) (stArg (R:=typeRd) (typeRd_in ⟨_,_,_,rfl,⟨SlAt.now typeRd_ok h20 (Nat.le_refl _) (Tt T hb'),r20⟩⟩))))<|RQ.y rfl (Y.not (b':=(!y21)) rfl rfl)<|RQ.nil ?_
    intro w23 hb24
    have szw23:=hb24.size
    have B3:=blkT B3 hb24
    have T:=Tt T hb24
    refine then_n ?_
    rcases bcases y21 with c25|c25
    ·replace hm:=cF c25 hm
     refine cond_t rfl (vbn rfl c25 rfl)<|wp_seq<|wp_rs rfl<|RQ.y rfl (Y.assign (v:=.bool false) rfl)<|RQ.nil<|then_n<|wp_ret ?_
     obtain rfl:=sj hm
     exact (blk_r (then_r (then_r (hit_r (blk_r (then_r (ret1 rfl rfl rfl ⟨rfl,T⟩)))))))
    replace hm:=cT c25 hm
    refine cond_f rfl (vbn rfl c25 rfl)<|wp_skip ?_
    refine blk_n (then_n ?_)
    refine wp_rs rfl<|RQ.y rfl (Y.move (v:=.int .i64 i8) s5_1)<|RQ.y rfl (Y.binI rfl rfl (binI_add (m:=i8) (by omega)))<|RQ.y rfl (Y.assign (v:=.int .i64 (i8+1)) rfl)<|RQ.nil ?_
    exact (then_n ⟨g,_,Nat.lt_succ_self _,rfl,⟨(i8+1),s0_1,s3_1,rfl,(by omega),B3,T,(by rw [← hrec1]; exact hm)⟩⟩)
   replace hm:=cT c6 hm
   refine cond_t rfl (vb rfl c6)<|wp_seq<|wp_rb rfl<|RQ.y rfl (Y.move (v:=.slice Aa0 d0.length ca0) s0)<|RQ.y rfl (Y.fieldAddr (off:=1) rfl (by kernel_rfl))<|RQ.y rfl (Y.load (v:=.string d1.name) rfl (by kernel_rfl) (beC (blkCell B3 (i:=1) rfl))) ?_
   obtain ⟨y27,e28,hm⟩:=bnd hm
   refine RQ.call rfl (am2 rfl rfl) (by kernel_rfl) (v:=.int .i64 y27) (bel (K:=fun _=>True) fun w' hb'=>(c_m_spec_l02Named d0 d1.name _ e28 _ w' (slArg dataRd_ok ha0 ra0 (Tt T hb'))))<|RQ.y rfl (Y.binI (v:=.bool (decide (y27 ≥ 0))) rfl rfl rfl)<|RQ.y rfl (Y.assign (v:=.bool (decide (y27 ≥ 0))) rfl)<|RQ.nil ?_
   intro w29 hb30
   have szw29:=hb30.size
   have T:=Tt T hb30
   refine then_n<|wp_ret ?_
   obtain rfl:=sj hm
   exact (then_r (ret1 rfl rfl rfl ⟨rfl,T⟩))
noncomputable def m_spec_l02Cons_A1:Option Bool:=
  some true
noncomputable def m_spec_l02Cons_B1 (d0:List DData) (d1:DConstructor) (rec1:Int→Option Bool) (K1:Option Bool) (i15:Int):Option Bool:=
  (bif (decide (i15 < (d1.fields.length:Int))) then ((getI d1.fields i15).bind fun x18=>((m_spec_ValidType x18).bind fun y28=>(bif y28 then ((getI d1.fields i15).bind fun x33=>((m_spec_l02Known (SizeOf.sizeOf x33) d0 x33).bind fun y41=>(bif y41 then (rec1 (i15+1)) else some false))) else some false))) else (K1))
noncomputable def m_spec_l02Cons_L1 (d0:List DData) (d1:DConstructor) (K1:Option Bool):Nat→Int→Option Bool
  |0,_=>none
  |g+1,i15=>m_spec_l02Cons_B1 d0 d1 (m_spec_l02Cons_L1 d0 d1 K1 g) K1 i15
noncomputable def m_spec_l02Cons (d0:List DData) (d1:DConstructor):Option Bool:=
  ((m_spec_IsUpper d1.name).bind fun y6=>(bif y6 then (bif (decide ((d1.fields.length:Int) > 3)) then some false else (m_spec_l02Cons_L1 d0 d1 m_spec_l02Cons_A1 (d1.fields.length+1) 0)) else some false))
set_option maxHeartbeats 2000000 in
theorem c_m_spec_l02Cons (d0:List DData) (d1:DConstructor) (r:Bool) (hm:m_spec_l02Cons d0 d1=some r) (v0:Value) (v1:Value) (w:World) (hv0:Sl dataRd 2 w v0 d0) (hv1:St constructorRd w v1 d1) :
    Calls Tryz.prog 197 #[v0,v1] w fun e w'=>e=.returned (.bool r)∧Below w.heap.size w w':=by
  obtain ⟨Aa0,na0,ca0,rfl,ha0,ra0⟩:=hv0
  have ea0:=ha0.len; subst ea0
  have qa0:=len_le ra0
  obtain ⟨csa1,rfl,⟨A1,n1,c1,rfl,⟨h1,r1⟩⟩⟩:=hv1
  have e1:=h1.len; subst e1
  have q1:=len_le r1
  have T:=Below.refl w.heap.size w
  unfold m_spec_l02Cons at hm
  refine enter 40 Tryz.func197 rfl rfl rfl ?_
  intro f hf
  have s0:f 0=.slice Aa0 d0.length ca0:=hf 0 _ rfl
  have s1:f 1=.agg #[.string d1.name,.slice A1 d1.fields.length c1]:=hf 1 _ rfl
  refine wp_seq<|wp_rl rfl ?_
  refine RL.box rfl s1 (fun w2 B3 hb4 szw2=>?_)
  replace B3:Blk w2 w.heap.size 173 #[.string d1.name,.slice A1 d1.fields.length c1]:=B3
  have GB3:w.heap.size≤w.heap.size:=T.size
  have T:=Tt T hb4
  refine RL.y rfl (Y.assign (v:=.bool false) rfl)<|RL.nil<|then_n<|wp_seq<|wp_seq<|wp_rb rfl<|RQ.y rfl (Y.fieldAddr (off:=0) rfl (by kernel_rfl))<|RQ.y rfl (Y.load (v:=.string d1.name) rfl (by kernel_rfl) (beC (blkCell B3 (i:=0) rfl))) ?_
  obtain ⟨y6,e7,hm⟩:=bnd hm
  refine RQ.call rfl (am1 rfl) (by kernel_rfl) (v:=.bool y6) (bel (K:=fun _=>True) fun w' hb'=>(c_m_spec_IsUpper d1.name _ e7  w' ))<|RQ.y rfl (Y.not (b':=(!y6)) rfl rfl)<|RQ.y rfl (Y.move (v:=.bool (!y6)) rfl) ?_
  rcases bcases y6 with c8|c8
  ·replace hm:=cF c8 hm
   iterate 4 refine RQ.skip (wantN (dj:=10) rfl (vbn rfl c8 rfl) rfl) ?_
   refine RQ.y rfl (Y.pick (b:=true) (v:=.bool true) (vbn rfl c8 rfl) rfl)<|RQ.nil ?_
   intro w9 hb10
   have szw9:=hb10.size
   have B3:=blkT B3 hb10
   have T:=Tt T hb10
   refine then_n<|cond_t rfl rfl<|wp_seq<|wp_rs rfl<|RQ.y rfl (Y.assign (v:=.bool false) rfl)<|RQ.nil<|then_n<|wp_ret ?_
   obtain rfl:=sj hm
   exact (then_r (ret1 rfl rfl rfl ⟨rfl,T⟩))
  replace hm:=cT c8 hm
  refine RQ.y (wantT (dj:=10) rfl (vbn rfl c8 rfl)) (Y.fieldAddr (off:=1) rfl (by kernel_rfl))<|RQ.y (wantT (dj:=10) rfl (vbn rfl c8 rfl)) (Y.load (v:=.slice A1 d1.fields.length c1) rfl (by kernel_rfl) (beC (blkCell B3 (i:=1) rfl)))<|RQ.y (wantT (dj:=10) rfl (vbn rfl c8 rfl)) (Y.len (by kernel_rfl) rfl)<|RQ.y (wantT (dj:=10) rfl (vbn rfl c8 rfl)) (Y.binI (v:=.bool (decide ((d1.fields.length:Int) > 3))) rfl rfl rfl)<|RQ.y rfl (Y.pick (b:=false) (v:=.bool (decide ((d1.fields.length:Int) > 3))) (vbn rfl c8 rfl) rfl)<|RQ.nil ?_
  intro w11 hb12
  have szw11:=hb12.size
  have B3:=blkT B3 hb12
  have T:=Tt T hb12
  refine then_n ?_
  rcases bcases (decide ((d1.fields.length:Int) > 3)) with c13|c13
  ·replace hm:=cF c13 hm
   have pc13:=of_decide_eq_false c13
   refine cond_f rfl (vb rfl c13)<|wp_skip<|then_n<|wp_seq<|wp_seq<|wp_rs rfl<|RQ.y rfl (Y.assign (v:=.int .i64 0) rfl)<|RQ.nil<|then_n<|wp_block ?_
   obtain ⟨K1,hK1,hm⟩ :∃K,K=m_spec_l02Cons_A1∧m_spec_l02Cons_L1 d0 d1 K (d1.fields.length+1) 0=some r:=⟨_,rfl,hm⟩
   refine wp_loopX (fun g f w'=>∃(i15:Int),f 0=.slice Aa0 d0.length ca0∧f 3=.pointer (some ⟨w.heap.size,0,none⟩)∧f 5=.int .i64 i15∧0≤i15∧Blk w' w.heap.size 173 #[.string d1.name,.slice A1 d1.fields.length c1]∧Below w.heap.size w w'∧m_spec_l02Cons_L1 d0 d1 K1 g i15=some r) 0 (fun f w'=>Blk w' w.heap.size 173 #[.string d1.name,.slice A1 d1.fields.length c1]∧Below w.heap.size w w'∧m_spec_l02Cons_A1  = some r) (d1.fields.length+1) ⟨0,s0,rfl,rfl,(by omega),B3,T,hm⟩ ?_ ?_
   ·rintro f w14 ⟨B3,T,hm⟩
    unfold m_spec_l02Cons_A1 at hm
    refine blk_hit (then_n ?_)
    refine wp_seq<|wp_rs rfl<|RQ.y rfl (Y.assign (v:=.bool true) rfl)<|RQ.nil<|then_n<|wp_ret ?_
    obtain rfl:=sj hm
    exact (ret1 rfl rfl rfl ⟨rfl,T⟩)
   rintro g f w16 ⟨i15,s0_1,s3_1,s5_1,nn5_1,B3,T,hm⟩
   rcases g with _|g
   ·simp only [m_spec_l02Cons_L1] at hm; cases hm
   obtain ⟨rec1,hrec1,hm⟩ :∃z,z=m_spec_l02Cons_L1 d0 d1 K1 g∧m_spec_l02Cons_B1 d0 d1 z K1 i15=some r:=⟨_,rfl,hm⟩
   unfold m_spec_l02Cons_B1 at hm
   refine wp_seq<|wp_seq<|wp_rs rfl<|RQ.y rfl (Y.move (v:=.int .i64 i15) s5_1)<|RQ.y rfl (Y.fieldAddr (off:=1) s3_1 (by kernel_rfl))<|RQ.y rfl (Y.load (v:=.slice A1 d1.fields.length c1) rfl (by kernel_rfl) (eqC (blkCell B3 (i:=1) rfl)))<|RQ.y rfl (Y.len (by kernel_rfl) rfl)<|RQ.y rfl (Y.binI (v:=.bool (decide (i15 < (d1.fields.length:Int)))) rfl rfl rfl)<|RQ.nil<|then_n ?_
   rcases bcases (decide (i15 < (d1.fields.length:Int))) with c17|c17
   ·replace hm:=cF c17 hm
    have pc17:=of_decide_eq_false c17
    refine cond_f rfl (vb rfl c17)<|wp_exit ?_
    exact (then_x (then_x (hit_x ⟨_,rfl,⟨B3,T,(by rw [hK1] at hm; exact hm)⟩⟩)))
   replace hm:=cT c17 hm
   have pc17:=of_decide_eq_true c17
   refine cond_t rfl (vb rfl c17)<|wp_skip<|then_n<|wp_seq<|wp_block<|wp_seq<|wp_rb rfl<|RQ.y rfl (Y.fieldAddr (off:=1) s3_1 (by kernel_rfl))<|RQ.y rfl (Y.load (v:=.slice A1 d1.fields.length c1) rfl (by kernel_rfl) (beC (blkCell B3 (i:=1) rfl)))<|RQ.y rfl (Y.move (v:=.int .i64 i15) s5_1) ?_
   obtain ⟨x18,hx21,hm⟩:=bnd hm
   obtain ⟨k19,hk22,hl23,hx21⟩:=getI_some hx21
   obtain ⟨b25,o26,rfl,hbb25⟩:=h1.addr (by omega)
   obtain ⟨cs20,hRcs20,hc24⟩:=h1.el hx21
   have hScs20:=hRcs20
   obtain ⟨A27,n27,c27,rfl,⟨h27,r27⟩⟩:=(typeRd_out hRcs20)
   have e27:=h27.len; subst e27
   have q27:=len_le r27
   refine RQ.y rfl (Y.indexAddr (m:=k19) (sz:=3) rfl rfl hk22 hl23 (by kernel_rfl))<|RQ.y rfl (Y.loadN (cs:=[.int .i64 x18.kind,.string x18.name,.slice A27 x18.kids.length c27]) rfl (by kernel_rfl) (cells3 (beC (cellT T (hc24 0 _ rfl))) (beC (cellT T (hc24 1 _ rfl))) (beC (cellT T (hc24 2 _ rfl))))) ?_
   obtain ⟨y28,e29,hm⟩:=bnd hm
   refine RQ.call rfl (am1 rfl) (by kernel_rfl) (v:=.bool y28) (bel (K:=fun _=>True) fun w' hb'=>(c_m_spec_ValidType x18 _ e29 _ w' (stArg (R:=typeRd) (typeRd_in ⟨_,_,_,rfl,⟨SlAt.now typeRd_ok h27 (Nat.le_refl _) (Tt T hb'),r27⟩⟩))))<|RQ.y rfl (Y.not (b':=(!y28)) rfl rfl)<|RQ.y rfl (Y.move (v:=.bool (!y28)) rfl) ?_
   rcases bcases y28 with c30|c30
   ·replace hm:=cF c30 hm
    iterate 8 refine RQ.skip (wantN (dj:=30) rfl (vbn rfl c30 rfl) rfl) ?_
    refine RQ.y rfl (Y.pick (b:=true) (v:=.bool true) (vbn rfl c30 rfl) rfl)<|RQ.nil ?_
    intro w31 hb32
    have szw31:=hb32.size
    have B3:=blkT B3 hb32
    have T:=Tt T hb32
    refine then_n<|cond_t rfl rfl<|wp_seq<|wp_rs rfl<|RQ.y rfl (Y.assign (v:=.bool false) rfl)<|RQ.nil<|then_n<|wp_ret ?_
    obtain rfl:=sj hm
    exact (blk_r (then_r (then_r (hit_r (blk_r (then_r (ret1 rfl rfl rfl ⟨rfl,T⟩)))))))
   replace hm:=cT c30 hm
   refine RQ.y (wantT (dj:=30) rfl (vbn rfl c30 rfl)) (Y.move (v:=.slice Aa0 d0.length ca0) s0_1)<|RQ.y (wantT (dj:=30) rfl (vbn rfl c30 rfl)) (Y.fieldAddr (off:=1) s3_1 (by kernel_rfl))<|RQ.y (wantT (dj:=30) rfl (vbn rfl c30 rfl)) (Y.load (v:=.slice (some ⟨b25,o26,none⟩) d1.fields.length c1) rfl (by kernel_rfl) (beC (blkCell B3 (i:=1) rfl)))<|RQ.y (wantT (dj:=30) rfl (vbn rfl c30 rfl)) (Y.move (v:=.int .i64 i15) s5_1) ?_
   obtain ⟨x33,hx36,hm⟩:=bnd hm
   obtain ⟨k34,hk37,hl38,hx36⟩:=getI_some hx36
   obtain ⟨cs35,hRcs35,hc39⟩:=h1.el hx36
   have hScs35:=hRcs35
   obtain ⟨A40,n40,c40,rfl,⟨h40,r40⟩⟩:=(typeRd_out hRcs35)
   have e40:=h40.len; subst e40
   have q40:=len_le r40
   refine RQ.y (wantT (dj:=30) rfl (vbn rfl c30 rfl)) (Y.indexAddr (m:=k34) (sz:=3) rfl rfl hk37 hl38 (by kernel_rfl))<|RQ.y (wantT (dj:=30) rfl (vbn rfl c30 rfl)) (Y.loadN (cs:=[.int .i64 x33.kind,.string x33.name,.slice A40 x33.kids.length c40]) rfl (by kernel_rfl) (cells3 (beC (cellT T (hc39 0 _ rfl))) (beC (cellT T (hc39 1 _ rfl))) (beC (cellT T (hc39 2 _ rfl))))) ?_
   obtain ⟨y41,e42,hm⟩:=bnd hm
   refine RQ.call (wantT (dj:=30) rfl (vbn rfl c30 rfl)) (am2 rfl rfl) (by kernel_rfl) (v:=.bool y41) (bel (K:=fun _=>True) fun w' hb'=>(c_m_spec_l02Known (SizeOf.sizeOf x33) d0 x33 _ e42 _ _ w' (slArg dataRd_ok ha0 ra0 (Tt T hb')) (stArg (R:=typeRd) (typeRd_in ⟨_,_,_,rfl,⟨SlAt.now typeRd_ok h40 (Nat.le_refl _) (Tt T hb'),r40⟩⟩))))<|RQ.y (wantT (dj:=30) rfl (vbn rfl c30 rfl)) (Y.not (b':=(!y41)) rfl rfl)<|RQ.y rfl (Y.pick (b:=false) (v:=.bool (!y41)) (vbn rfl c30 rfl) rfl)<|RQ.nil ?_
   intro w43 hb44
   have szw43:=hb44.size
   have B3:=blkT B3 hb44
   have T:=Tt T hb44
   refine then_n ?_
   rcases bcases y41 with c45|c45
   ·replace hm:=cF c45 hm
    refine cond_t rfl (vbn rfl c45 rfl)<|wp_seq<|wp_rs rfl<|RQ.y rfl (Y.assign (v:=.bool false) rfl)<|RQ.nil<|then_n<|wp_ret ?_
    obtain rfl:=sj hm
    exact (blk_r (then_r (then_r (hit_r (blk_r (then_r (ret1 rfl rfl rfl ⟨rfl,T⟩)))))))
   replace hm:=cT c45 hm
   refine cond_f rfl (vbn rfl c45 rfl)<|wp_skip ?_
   refine blk_n (then_n ?_)
   refine wp_rs rfl<|RQ.y rfl (Y.move (v:=.int .i64 i15) s5_1)<|RQ.y rfl (Y.binI rfl rfl (binI_add (m:=i15) (by omega)))<|RQ.y rfl (Y.assign (v:=.int .i64 (i15+1)) rfl)<|RQ.nil ?_
   exact (then_n ⟨g,_,Nat.lt_succ_self _,rfl,⟨(i15+1),s0_1,s3_1,rfl,(by omega),B3,T,(by rw [← hrec1]; exact hm)⟩⟩)
  replace hm:=cT c13 hm
  have pc13:=of_decide_eq_true c13
  refine cond_t rfl (vb rfl c13)<|wp_seq<|wp_rs rfl<|RQ.y rfl (Y.assign (v:=.bool false) rfl)<|RQ.nil<|then_n<|wp_ret ?_
  obtain rfl:=sj hm
  exact (then_r (ret1 rfl rfl rfl ⟨rfl,T⟩))
noncomputable def m_spec_l02Ok_A1:Option Bool:=
  some true
noncomputable def m_spec_l02Ok_A2 (rec1:List ByteArray→Int→Option Bool) (i10:Int) (xs43:List ByteArray):Option Bool:=
  ((ck (i10+1)).bind fun s45=>(rec1 xs43 s45))
noncomputable def m_spec_l02Ok_A3 (x13:DData) (rec2:List ByteArray→Int→Option Bool) (xs46:List ByteArray) (i47:Int):Option Bool:=
  ((getI x13.cons i47).bind fun x66=>((mustP (xs46.length+([x66.name]).length≤4294967296)).bind fun _=>((ck (i47+1)).bind fun s89=>(rec2 (xs46 ++ [x66.name]) s89))))
noncomputable def m_spec_l02Ok_B3 (x13:DData) (xs46:List ByteArray) (i47:Int) (rec3:Int→Option Bool) (K3:Option Bool) (i90:Int):Option Bool:=
  (bif (decide (i90 < (xs46.length:Int))) then ((getI xs46 i90).bind fun x95=>((getI x13.cons i47).bind fun x101=>(bif (x95.toList==x101.name.toList) then some false else (rec3 (i90+1))))) else (K3))
noncomputable def m_spec_l02Ok_L3 (x13:DData) (xs46:List ByteArray) (i47:Int) (K3:Option Bool):Nat→Int→Option Bool
  |0,_=>none
  |g+1,i90=>m_spec_l02Ok_B3 x13 xs46 i47 (m_spec_l02Ok_L3 x13 xs46 i47 K3 g) K3 i90
noncomputable def m_spec_l02Ok_B2 (d0:List DData) (x13:DData) (rec2:List ByteArray→Int→Option Bool) (K2:List ByteArray→Option Bool) (xs46:List ByteArray) (i47:Int):Option Bool:=
  (bif (decide (i47 < (x13.cons.length:Int))) then ((getI x13.cons i47).bind fun x50=>((m_spec_l02Cons d0 x50).bind fun y60=>(bif y60 then (m_spec_l02Ok_L3 x13 xs46 i47 (m_spec_l02Ok_A3 x13 rec2 xs46 i47) (xs46.length+1) 0) else some false))) else (K2 xs46))
noncomputable def m_spec_l02Ok_L2 (d0:List DData) (x13:DData) (K2:List ByteArray→Option Bool):Nat→List ByteArray→Int→Option Bool
  |0,_,_=>none
  |g+1,xs46,i47=>m_spec_l02Ok_B2 d0 x13 (m_spec_l02Ok_L2 d0 x13 K2 g) K2 xs46 i47
noncomputable def m_spec_l02Ok_B1 (d0:List DData) (rec1:List ByteArray→Int→Option Bool) (K1:Option Bool) (xs9:List ByteArray) (i10:Int):Option Bool:=
  (bif (decide (i10 < (d0.length:Int))) then ((getI d0 i10).bind fun x13=>((m_spec_IsUpper x13.name).bind fun y30=>(bif y30 then (bif (x13.name.toList==(ByteArray.mk #[73,110,116]).toList) then some false else ((m_spec_l02Named d0 x13.name).bind fun y36=>(bif (y36 != i10) then some false else (bif (decide ((x13.cons.length:Int) < 1)) then some false else (bif (decide ((x13.cons.length:Int) > 4)) then some false else (m_spec_l02Ok_L2 d0 x13 (m_spec_l02Ok_A2 rec1 i10) (x13.cons.length+1) xs9 0)))))) else some false))) else (K1))
noncomputable def m_spec_l02Ok_L1 (d0:List DData) (K1:Option Bool):Nat→List ByteArray→Int→Option Bool
  |0,_,_=>none
  |g+1,xs9,i10=>m_spec_l02Ok_B1 d0 (m_spec_l02Ok_L1 d0 K1 g) K1 xs9 i10
noncomputable def m_spec_l02Ok (d0:List DData):Option Bool:=
  (bif (decide ((d0.length:Int) > 4)) then some false else (m_spec_l02Ok_L1 d0 m_spec_l02Ok_A1 (d0.length+1) ([] : List ByteArray) 0))
set_option maxHeartbeats 2000000 in
theorem c_m_spec_l02Ok (d0:List DData) (r:Bool) (hm:m_spec_l02Ok d0=some r) (v0:Value) (w:World) (hv0:Sl dataRd 2 w v0 d0) :
    Calls Tryz.prog 138 #[v0] w fun e w'=>e=.returned (.bool r)∧Below w.heap.size w w':=by
  obtain ⟨Aa0,na0,ca0,rfl,ha0,ra0⟩:=hv0
  have ea0:=ha0.len; subst ea0
  have qa0:=len_le ra0
  have T:=Below.refl w.heap.size w
  unfold m_spec_l02Ok at hm
  refine enter 92 Tryz.func138 rfl rfl rfl ?_
  intro f hf
  have s0:f 0=.slice Aa0 d0.length ca0:=hf 0 _ rfl
  refine wp_seq<|wp_rs rfl<|RQ.y rfl (Y.assign (v:=.bool false) rfl)<|RQ.nil<|then_n<|wp_seq<|wp_seq<|wp_rs rfl<|RQ.y rfl (Y.move (v:=.slice Aa0 d0.length ca0) s0)<|RQ.y rfl (Y.len (by kernel_rfl) rfl)<|RQ.y rfl (Y.binI (v:=.bool (decide ((d0.length:Int) > 4))) rfl rfl rfl)<|RQ.nil<|then_n ?_
  rcases bcases (decide ((d0.length:Int) > 4)) with c1|c1
  ·replace hm:=cF c1 hm
   have pc1:=of_decide_eq_false c1
   refine cond_f rfl (vb rfl c1)<|wp_skip<|then_n<|wp_seq<|wp_rl rfl ?_
   refine RL.bslice (e:=9) (cells:=#[]) rfl pm0 (by kernel_rfl) (fun w2 B3 hb4 szw2=>?_)
   have ZB3:w.heap.size≤w.heap.size:=T.size
   have T:=Tt T hb4
   have G6:=OwF.lit (enc:=encS) (sz:=1) (xs:=([] : List ByteArray)) B3 ZB3 rfl rfl rfl rfl
   refine RL.y rfl (Y.assign (v:=.slice (some ⟨w.heap.size,0,none⟩) 0 0) rfl)<|RL.nil<|then_n<|wp_seq<|wp_seq<|wp_rs rfl<|RQ.y rfl (Y.assign (v:=.int .i64 0) rfl)<|RQ.nil<|then_n<|wp_block ?_
   obtain ⟨K1,hK1,hm⟩ :∃K,K=m_spec_l02Ok_A1∧m_spec_l02Ok_L1 d0 K (d0.length+1) ([] : List ByteArray) 0=some r:=⟨_,rfl,hm⟩
   refine wp_loopX (fun g f w'=>∃(xs9:List ByteArray) (i10:Int) (uxs9:Value),f 0=.slice Aa0 d0.length ca0∧f 3=uxs9∧OwF 9 encS 1 w' w.heap.size uxs9 xs9∧f 4=.int .i64 i10∧0≤i10∧Below w.heap.size w w'∧m_spec_l02Ok_L1 d0 K1 g xs9 i10=some r) 0 (fun f w'=>Below w.heap.size w w'∧m_spec_l02Ok_A1  = some r) (d0.length+1) ⟨([] : List ByteArray),0,(.slice (some ⟨w.heap.size,0,none⟩) 0 0),s0,rfl,G6,rfl,(by omega),T,hm⟩ ?_ ?_
   ·rintro f w8 ⟨T,hm⟩
    unfold m_spec_l02Ok_A1 at hm
    refine blk_hit (then_n ?_)
    refine wp_seq<|wp_rs rfl<|RQ.y rfl (Y.assign (v:=.bool true) rfl)<|RQ.nil<|then_n<|wp_ret ?_
    obtain rfl:=sj hm
    exact (ret1 rfl rfl rfl ⟨rfl,T⟩)
   rintro g f w11 ⟨xs9,i10,uxs9,s0_1,s3_1,Guxs9,s4_1,nn4_1,T,hm⟩
   rcases g with _|g
   ·simp only [m_spec_l02Ok_L1] at hm; cases hm
   obtain ⟨rec1,hrec1,hm⟩ :∃z,z=m_spec_l02Ok_L1 d0 K1 g∧m_spec_l02Ok_B1 d0 z K1 xs9 i10=some r:=⟨_,rfl,hm⟩
   unfold m_spec_l02Ok_B1 at hm
   refine wp_seq<|wp_seq<|wp_rs rfl<|RQ.y rfl (Y.move (v:=.int .i64 i10) s4_1)<|RQ.y rfl (Y.move (v:=.slice Aa0 d0.length ca0) s0_1)<|RQ.y rfl (Y.len (by kernel_rfl) rfl)<|RQ.y rfl (Y.binI (v:=.bool (decide (i10 < (d0.length:Int)))) rfl rfl rfl)<|RQ.nil<|then_n ?_
   rcases bcases (decide (i10 < (d0.length:Int))) with c12|c12
   ·replace hm:=cF c12 hm
    have pc12:=of_decide_eq_false c12
    refine cond_f rfl (vb rfl c12)<|wp_exit ?_
    exact (then_x (then_x (hit_x ⟨_,rfl,⟨T,(by rw [hK1] at hm; exact hm)⟩⟩)))
   replace hm:=cT c12 hm
   have pc12:=of_decide_eq_true c12
   refine cond_t rfl (vb rfl c12)<|wp_skip<|then_n<|wp_seq<|wp_block<|wp_seq<|wp_rl rfl<|RL.y rfl (Y.move (v:=.slice Aa0 d0.length ca0) s0_1)<|RL.y rfl (Y.move (v:=.int .i64 i10) s4_1) ?_
   obtain ⟨x13,hx16,hm⟩:=bnd hm
   obtain ⟨k14,hk17,hl18,hx16⟩:=getI_some hx16
   obtain ⟨b20,o21,rfl,hbb20⟩:=ha0.addr (by omega)
   obtain ⟨cs15,hRcs15,hc19⟩:=ha0.el hx16
   have hScs15:=hRcs15
   obtain ⟨A22,n22,c22,rfl,⟨h22,r22⟩⟩:=hRcs15
   have e22:=h22.len; subst e22
   have q22:=len_le r22
   refine RL.y rfl (Y.indexAddr (m:=k14) (sz:=2) rfl rfl hk17 hl18 (by kernel_rfl))<|RL.y rfl (Y.loadN (cs:=[.string x13.name,.slice A22 x13.cons.length c22]) rfl (by kernel_rfl) (cells2 (eqC (cellT T (hc19 0 _ rfl))) (eqC (cellT T (hc19 1 _ rfl))))) ?_
   refine RL.alloc (z:=.agg #[.string ByteArray.empty,.slice none 0 0]) rfl (by kernel_rfl) (fun w23 B24 hb25 szw23=>?_)
   replace B24:Blk w23 w11.heap.size 167 #[.string ByteArray.empty,.slice none 0 0]:=B24
   have GB24:w.heap.size≤w11.heap.size:=T.size
   have Noxs9_ob26:=OwF.far Guxs9 (Nat.le_refl _)
   have Guxs9:=OwF.below Guxs9 hb25
   have T:=Tt T hb25
   refine RL.store (v:=.agg #[.string x13.name,.slice A22 x13.cons.length c22]) (cs':=#[.string x13.name,.slice A22 x13.cons.length c22]) rfl rfl rfl B24 (by kernel_rfl) (by rfl) (by rfl) (by rfl) (fun w27 B28 ho29=>?_)
   have szw27:=ho29.size
   have Guxs9:=OwF.only Guxs9 ho29 Noxs9_ob26
   have T:=T.trans (ho29.below (by first|(simp; done)|(simp; omega)))
   refine RL.nil<|then_n<|wp_seq<|wp_seq<|wp_rb rfl<|RQ.y rfl (Y.fieldAddr (off:=0) rfl (by kernel_rfl))<|RQ.y rfl (Y.load (v:=.string x13.name) rfl (by kernel_rfl) (beC (blkCell B28 (i:=0) rfl))) ?_
   obtain ⟨y30,e31,hm⟩:=bnd hm
   refine RQ.call rfl (am1 rfl) (by kernel_rfl) (v:=.bool y30) (bel (K:=fun _=>True) fun w' hb'=>(c_m_spec_IsUpper x13.name _ e31  w' ))<|RQ.y rfl (Y.not (b':=(!y30)) rfl rfl)<|RQ.y rfl (Y.move (v:=.bool (!y30)) rfl) ?_
   rcases bcases y30 with c32|c32
   ·replace hm:=cF c32 hm
    iterate 3 refine RQ.skip (wantN (dj:=26) rfl (vbn rfl c32 rfl) rfl) ?_
    refine RQ.y rfl (Y.pick (b:=true) (v:=.bool true) (vbn rfl c32 rfl) rfl)<|RQ.y rfl (Y.move (v:=.bool true) rfl) ?_
    iterate 6 refine RQ.skip (wantN (dj:=31) rfl rfl rfl) ?_
    refine RQ.y rfl (Y.pick (b:=true) (v:=.bool true) rfl rfl)<|RQ.y rfl (Y.move (v:=.bool true) rfl) ?_
    iterate 4 refine RQ.skip (wantN (dj:=39) rfl rfl rfl) ?_
    refine RQ.y rfl (Y.pick (b:=true) (v:=.bool true) rfl rfl)<|RQ.y rfl (Y.move (v:=.bool true) rfl) ?_
    iterate 4 refine RQ.skip (wantN (dj:=45) rfl rfl rfl) ?_
    refine RQ.y rfl (Y.pick (b:=true) (v:=.bool true) rfl rfl)<|RQ.nil ?_
    intro w33 hb34
    have szw33:=hb34.size
    have B28:=blkT B28 hb34
    have Guxs9:=OwF.below Guxs9 hb34
    have T:=Tt T hb34
    refine then_n<|cond_t rfl rfl<|wp_seq<|wp_rs rfl<|RQ.y rfl (Y.assign (v:=.bool false) rfl)<|RQ.nil<|then_n<|wp_ret ?_
    obtain rfl:=sj hm
    exact (then_r (blk_r (then_r (then_r (hit_r (blk_r (then_r (ret1 rfl rfl rfl ⟨rfl,T⟩))))))))
   replace hm:=cT c32 hm
   refine RQ.y (wantT (dj:=26) rfl (vbn rfl c32 rfl)) (Y.fieldAddr (off:=0) rfl (by kernel_rfl))<|RQ.y (wantT (dj:=26) rfl (vbn rfl c32 rfl)) (Y.load (v:=.string x13.name) rfl (by kernel_rfl) (beC (blkCell B28 (i:=0) rfl)))<|RQ.y (wantT (dj:=26) rfl (vbn rfl c32 rfl)) (Y.eqStr rfl rfl (by kernel_rfl))<|RQ.y rfl (Y.pick (b:=false) (v:=.bool (x13.name.toList==(ByteArray.mk #[73,110,116]).toList)) (vbn rfl c32 rfl) rfl)<|RQ.y rfl (Y.move (v:=.bool (x13.name.toList==(ByteArray.mk #[73,110,116]).toList)) rfl) ?_
   rcases bcases (x13.name.toList==(ByteArray.mk #[73,110,116]).toList) with c35|c35
   ·replace hm:=cF c35 hm
    refine RQ.y (wantT (dj:=31) rfl (vb rfl c35)) (Y.move (v:=.slice (some ⟨b20,o21,none⟩) d0.length ca0) s0_1)<|RQ.y (wantT (dj:=31) rfl (vb rfl c35)) (Y.fieldAddr (off:=0) rfl (by kernel_rfl))<|RQ.y (wantT (dj:=31) rfl (vb rfl c35)) (Y.load (v:=.string x13.name) rfl (by kernel_rfl) (beC (blkCell B28 (i:=0) rfl))) ?_
    obtain ⟨y36,e37,hm⟩:=bnd hm
    refine RQ.call (wantT (dj:=31) rfl (vb rfl c35)) (am2 rfl rfl) (by kernel_rfl) (v:=.int .i64 y36) (bel (K:=fun _=>True) fun w' hb'=>(c_m_spec_l02Named d0 x13.name _ e37 _ w' (slArg dataRd_ok ha0 ra0 (Tt T hb'))))<|RQ.y (wantT (dj:=31) rfl (vb rfl c35)) (Y.move (v:=.int .i64 i10) s4_1)<|RQ.y (wantT (dj:=31) rfl (vb rfl c35)) (Y.binI (v:=.bool (y36 != i10)) rfl rfl rfl)<|RQ.y rfl (Y.pick (b:=false) (v:=.bool (y36 != i10)) (vb rfl c35) rfl)<|RQ.y rfl (Y.move (v:=.bool (y36 != i10)) rfl) ?_
    rcases bcases (y36 != i10) with c38|c38
    ·replace hm:=cF c38 hm
     refine RQ.y (wantT (dj:=39) rfl (vb rfl c38)) (Y.fieldAddr (off:=1) rfl (by kernel_rfl))<|RQ.y (wantT (dj:=39) rfl (vb rfl c38)) (Y.load (v:=.slice A22 x13.cons.length c22) rfl (by kernel_rfl) (beC (blkCell B28 (i:=1) rfl)))<|RQ.y (wantT (dj:=39) rfl (vb rfl c38)) (Y.len (by kernel_rfl) rfl)<|RQ.y (wantT (dj:=39) rfl (vb rfl c38)) (Y.binI (v:=.bool (decide ((x13.cons.length:Int) < 1))) rfl rfl rfl)<|RQ.y rfl (Y.pick (b:=false) (v:=.bool (decide ((x13.cons.length:Int) < 1))) (vb rfl c38) rfl)<|RQ.y rfl (Y.move (v:=.bool (decide ((x13.cons.length:Int) < 1))) rfl) ?_
     rcases bcases (decide ((x13.cons.length:Int) < 1)) with c39|c39
     ·replace hm:=cF c39 hm
      have pc39:=of_decide_eq_false c39
      refine RQ.y (wantT (dj:=45) rfl (vb rfl c39)) (Y.fieldAddr (off:=1) rfl (by kernel_rfl))<|RQ.y (wantT (dj:=45) rfl (vb rfl c39)) (Y.load (v:=.slice A22 x13.cons.length c22) rfl (by kernel_rfl) (beC (blkCell B28 (i:=1) rfl)))<|RQ.y (wantT (dj:=45) rfl (vb rfl c39)) (Y.len (by kernel_rfl) rfl)<|RQ.y (wantT (dj:=45) rfl (vb rfl c39)) (Y.binI (v:=.bool (decide ((x13.cons.length:Int) > 4))) rfl rfl rfl)<|RQ.y rfl (Y.pick (b:=false) (v:=.bool (decide ((x13.cons.length:Int) > 4))) (vb rfl c39) rfl)<|RQ.nil ?_
      intro w40 hb41
      have szw40:=hb41.size
      have B28:=blkT B28 hb41
      have Guxs9:=OwF.below Guxs9 hb41
      have T:=Tt T hb41
      refine then_n ?_
      rcases bcases (decide ((x13.cons.length:Int) > 4)) with c42|c42
      ·replace hm:=cF c42 hm
       have pc42:=of_decide_eq_false c42
       refine cond_f rfl (vb rfl c42)<|wp_skip<|then_n<|wp_seq<|wp_rs rfl<|RQ.y rfl (Y.assign (v:=.int .i64 0) rfl)<|RQ.nil<|then_n<|wp_block ?_
       obtain ⟨K2,hK2,hm⟩ :∃K,K=(m_spec_l02Ok_A2 rec1 i10)∧m_spec_l02Ok_L2 d0 x13 K (x13.cons.length+1) xs9 0=some r:=⟨_,rfl,hm⟩
       refine wp_loopX (fun g f w'=>∃(xs46:List ByteArray) (i47:Int) (uxs46:Value),f 0=.slice (some ⟨b20,o21,none⟩) d0.length ca0∧f 4=.int .i64 i10∧f 5=.pointer (some ⟨w11.heap.size,0,none⟩)∧f 3=uxs46∧OwF 9 encS 1 w' w.heap.size uxs46 xs46∧f 6=.int .i64 i47∧0≤i47∧Value.ownBlock uxs46 ≠ some w11.heap.size∧Blk w' w11.heap.size 167 #[.string x13.name,.slice A22 x13.cons.length c22]∧Below w.heap.size w w'∧m_spec_l02Ok_L2 d0 x13 K2 g xs46 i47=some r) 2 (fun f w'=>∃(xs43:List ByteArray) (uxs43:Value),f 0=.slice (some ⟨b20,o21,none⟩) d0.length ca0∧f 4=.int .i64 i10∧f 3=uxs43∧OwF 9 encS 1 w' w.heap.size uxs43 xs43∧Value.ownBlock uxs43 ≠ some w11.heap.size∧Blk w' w11.heap.size 167 #[.string x13.name,.slice A22 x13.cons.length c22]∧Below w.heap.size w w'∧m_spec_l02Ok_A2 rec1 i10 xs43=some r) (x13.cons.length+1) ⟨xs9,0,(uxs9),s0_1,s4_1,rfl,s3_1,Guxs9,rfl,(by omega),(ap_ne (ne_ap Noxs9_ob26)),B28,T,hm⟩ ?_ ?_
       ·rintro f w44 ⟨xs43,uxs43,s0_2x,s4_2x,s3_2x,Guxs43,Noxs43_ob26,B28,T,hm⟩
        unfold m_spec_l02Ok_A2 at hm
        refine blk_hit (blk_n (then_n ?_))
        refine wp_rs rfl<|RQ.y rfl (Y.move (v:=.int .i64 i10) s4_2x) ?_
        obtain ⟨s45,ks45,hm⟩:=bnd hm
        replace ks45:=ck_some ks45
        refine RQ.y rfl (Y.binI (v:=.int .i64 s45) rfl rfl (by rw [binI_add ks45.2,ks45.1]))<|RQ.y rfl (Y.assign (v:=.int .i64 s45) rfl)<|RQ.nil ?_
        exact (then_n ⟨g,_,Nat.lt_succ_self _,rfl,⟨xs43,s45,(uxs43),s0_2x,s3_2x,Guxs43,rfl,(by omega),T,(by rw [← hrec1]; exact hm)⟩⟩)
       rintro g f w48 ⟨xs46,i47,uxs46,s0_2,s4_2,s5_2,s3_2,Guxs46,s6_2,nn6_2,Noxs46_ob26,B28,T,hm⟩
       rcases g with _|g
       ·simp only [m_spec_l02Ok_L2] at hm; cases hm
       obtain ⟨rec2,hrec2,hm⟩ :∃z,z=m_spec_l02Ok_L2 d0 x13 K2 g∧m_spec_l02Ok_B2 d0 x13 z K2 xs46 i47=some r:=⟨_,rfl,hm⟩
       unfold m_spec_l02Ok_B2 at hm
       refine wp_seq<|wp_seq<|wp_rs rfl<|RQ.y rfl (Y.move (v:=.int .i64 i47) s6_2)<|RQ.y rfl (Y.fieldAddr (off:=1) s5_2 (by kernel_rfl))<|RQ.y rfl (Y.load (v:=.slice A22 x13.cons.length c22) rfl (by kernel_rfl) (eqC (blkCell B28 (i:=1) rfl)))<|RQ.y rfl (Y.len (by kernel_rfl) rfl)<|RQ.y rfl (Y.binI (v:=.bool (decide (i47 < (x13.cons.length:Int)))) rfl rfl rfl)<|RQ.nil<|then_n ?_
       rcases bcases (decide (i47 < (x13.cons.length:Int))) with c49|c49
       ·replace hm:=cF c49 hm
        have pc49:=of_decide_eq_false c49
        refine cond_f rfl (vb rfl c49)<|wp_exit ?_
        exact (then_x (then_x (hit_x ⟨_,rfl,⟨xs46,(uxs46),s0_2,s4_2,s3_2,Guxs46,(ap_ne (ne_ap Noxs46_ob26)),B28,T,(by rw [hK2] at hm; exact hm)⟩⟩)))
       replace hm:=cT c49 hm
       have pc49:=of_decide_eq_true c49
       refine cond_t rfl (vb rfl c49)<|wp_skip<|then_n<|wp_seq<|wp_block<|wp_seq<|wp_seq<|wp_rb rfl<|RQ.y rfl (Y.move (v:=.slice (some ⟨b20,o21,none⟩) d0.length ca0) s0_2)<|RQ.y rfl (Y.fieldAddr (off:=1) s5_2 (by kernel_rfl))<|RQ.y rfl (Y.load (v:=.slice A22 x13.cons.length c22) rfl (by kernel_rfl) (beC (blkCell B28 (i:=1) rfl)))<|RQ.y rfl (Y.move (v:=.int .i64 i47) s6_2) ?_
       obtain ⟨x50,hx53,hm⟩:=bnd hm
       obtain ⟨k51,hk54,hl55,hx53⟩:=getI_some hx53
       obtain ⟨b57,o58,rfl,hbb57⟩:=h22.addr (by omega)
       obtain ⟨cs52,hRcs52,hc56⟩:=h22.el hx53
       have hScs52:=hRcs52
       obtain ⟨A59,n59,c59,rfl,⟨h59,r59⟩⟩:=hRcs52
       have e59:=h59.len; subst e59
       have q59:=len_le r59
       refine RQ.y rfl (Y.indexAddr (m:=k51) (sz:=2) rfl rfl hk54 hl55 (by kernel_rfl))<|RQ.y rfl (Y.loadN (cs:=[.string x50.name,.slice A59 x50.fields.length c59]) rfl (by kernel_rfl) (cells2 (beC (cellT T (hc56 0 _ rfl))) (beC (cellT T (hc56 1 _ rfl))))) ?_
       obtain ⟨y60,e61,hm⟩:=bnd hm
       refine RQ.call rfl (am2 rfl rfl) (by kernel_rfl) (v:=.bool y60) (bel (K:=fun _=>True) fun w' hb'=>(c_m_spec_l02Cons d0 x50 _ e61 _ _ w' (slArg dataRd_ok ha0 ra0 (Tt T hb')) (stArg (R:=constructorRd) ⟨_,_,_,rfl,⟨SlAt.now typeRd_ok h59 (Nat.le_refl _) (Tt T hb'),r59⟩⟩)))<|RQ.y rfl (Y.not (b':=(!y60)) rfl rfl)<|RQ.nil ?_
       intro w62 hb63
       have szw62:=hb63.size
       have B28:=blkT B28 hb63
       have Guxs46:=OwF.below Guxs46 hb63
       have T:=Tt T hb63
       refine then_n ?_
       rcases bcases y60 with c64|c64
       ·replace hm:=cF c64 hm
        refine cond_t rfl (vbn rfl c64 rfl)<|wp_seq<|wp_rs rfl<|RQ.y rfl (Y.assign (v:=.bool false) rfl)<|RQ.nil<|then_n<|wp_ret ?_
        obtain rfl:=sj hm
        exact (then_r (blk_r (then_r (then_r (hit_r (blk_r (blk_r (then_r (then_r (hit_r (blk_r (then_r (ret1 rfl rfl rfl ⟨rfl,T⟩)))))))))))))
       replace hm:=cT c64 hm
       refine cond_f rfl (vbn rfl c64 rfl)<|wp_skip<|then_n<|wp_seq<|wp_seq<|wp_rs rfl<|RQ.y rfl (Y.assign (v:=.int .i64 0) rfl)<|RQ.nil<|then_n<|wp_block ?_
       obtain ⟨K3,hK3,hm⟩ :∃K,K=(m_spec_l02Ok_A3 x13 rec2 xs46 i47)∧m_spec_l02Ok_L3 x13 xs46 i47 K (xs46.length+1) 0=some r:=⟨_,rfl,hm⟩
       refine wp_loopX (fun g f w'=>∃(i90:Int),f 0=.slice (some ⟨b20,o21,none⟩) d0.length ca0∧f 3=uxs46∧f 4=.int .i64 i10∧f 5=.pointer (some ⟨w11.heap.size,0,none⟩)∧f 6=.int .i64 i47∧f 7=.int .i64 i90∧0≤i90∧Blk w' w11.heap.size 167 #[.string x13.name,.slice (some ⟨b57,o58,none⟩) x13.cons.length c22]∧OwF 9 encS 1 w' w.heap.size uxs46 xs46∧Below w.heap.size w w'∧m_spec_l02Ok_L3 x13 xs46 i47 K3 g i90=some r) 4 (fun f w'=>f 0=.slice (some ⟨b20,o21,none⟩) d0.length ca0∧f 3=uxs46∧f 4=.int .i64 i10∧f 5=.pointer (some ⟨w11.heap.size,0,none⟩)∧f 6=.int .i64 i47∧Blk w' w11.heap.size 167 #[.string x13.name,.slice (some ⟨b57,o58,none⟩) x13.cons.length c22]∧OwF 9 encS 1 w' w.heap.size uxs46 xs46∧Below w.heap.size w w'∧m_spec_l02Ok_A3 x13 rec2 xs46 i47  = some r) (xs46.length+1) ⟨0,s0_2,s3_2,s4_2,s5_2,s6_2,rfl,(by omega),B28,Guxs46,T,hm⟩ ?_ ?_
       ·rintro f w65 ⟨s0_3x,s3_3x,s4_3x,s5_3x,s6_3x,B28,Guxs46,T,hm⟩
        unfold m_spec_l02Ok_A3 at hm
        refine blk_hit (then_n ?_)
        refine wp_rl rfl<|RL.y rfl (Y.move (v:=uxs46) s3_3x)<|RL.y rfl (Y.fieldAddr (off:=1) s5_3x (by kernel_rfl))<|RL.y rfl (Y.load (v:=.slice (some ⟨b57,o58,none⟩) x13.cons.length c22) rfl (by kernel_rfl) (eqC (blkCell B28 (i:=1) rfl)))<|RL.y rfl (Y.move (v:=.int .i64 i47) s6_3x) ?_
        obtain ⟨x66,hx69,hm⟩:=bnd hm
        obtain ⟨k67,hk70,hl71,hx69⟩:=getI_some hx69
        obtain ⟨cs68,hRcs68,hc72⟩:=h22.el hx69
        have hScs68:=hRcs68
        obtain ⟨A73,n73,c73,rfl,⟨h73,r73⟩⟩:=hRcs68
        have e73:=h73.len; subst e73
        have q73:=len_le r73
        refine RL.y rfl (Y.indexAddr (m:=k67) (sz:=2) rfl rfl hk70 hl71 (by kernel_rfl))<|RL.y rfl (Y.fieldAddr (off:=0) rfl (by kernel_rfl))<|RL.y rfl (Y.load (v:=.string x66.name) rfl (by kernel_rfl) (eqC (cellT T (hc72 0 _ rfl)))) ?_
        refine RL.bslice (e:=9) (cells:=#[.string x66.name]) rfl (pm1 rfl) (by kernel_rfl) (fun w74 B75 hb76 szw74=>?_)
        have ZB75:w.heap.size≤w65.heap.size:=T.size
        have No77_ob26:=litNe (n:=1) (c:=1) B28.lt
        have Do77_oxs46:=Dj.new (v:=.slice (some ⟨w65.heap.size,0,none⟩) 1 1) litGe (OwF.hi Guxs46)
        have B28:=blkT B28 hb76
        have Guxs46:=OwF.below Guxs46 hb76
        have T:=Tt T hb76
        have G78:=OwF.lit (enc:=encS) (sz:=1) (xs:=[x66.name]) B75 ZB75 rfl rfl rfl rfl
        obtain ⟨_,m80,hm⟩:=bnd hm
        have hk81:=mustP_some m80
        refine RL.append fS app_string rfl rfl rfl Guxs46 (OwF.arg fS G78) T.size hk81 (fun v82 w83 G84 hgr85 hbl86 hnb87=>?_)
        have szw83:=hbl86.size
        have No88_ob26:=ne_app hnb87 Noxs46_ob26 B28.lt
        have B28:=Blk.kept B28 hgr85 Noxs46_ob26
        have T:=T.trans hbl86
        refine RL.y rfl (Y.assign (v:=v82) rfl)<|RL.nil ?_
        refine blk_n (then_n ?_)
        refine wp_rs rfl<|RQ.y rfl (Y.move (v:=.int .i64 i47) s6_3x) ?_
        obtain ⟨s89,ks89,hm⟩:=bnd hm
        replace ks89:=ck_some ks89
        refine RQ.y rfl (Y.binI (v:=.int .i64 s89) rfl rfl (by rw [binI_add ks89.2,ks89.1]))<|RQ.y rfl (Y.assign (v:=.int .i64 s89) rfl)<|RQ.nil ?_
        exact (then_n ⟨g,_,Nat.lt_succ_self _,rfl,⟨(xs46 ++ [x66.name]),s89,(v82),s0_3x,s4_3x,s5_3x,rfl,G84,rfl,(by omega),(ap_ne (ne_ap No88_ob26)),B28,T,(by rw [← hrec2]; exact hm)⟩⟩)
       rintro g f w91 ⟨i90,s0_3,s3_3,s4_3,s5_3,s6_3,s7_3,nn7_3,B28,Guxs46,T,hm⟩
       rcases g with _|g
       ·simp only [m_spec_l02Ok_L3] at hm; cases hm
       obtain ⟨rec3,hrec3,hm⟩ :∃z,z=m_spec_l02Ok_L3 x13 xs46 i47 K3 g∧m_spec_l02Ok_B3 x13 xs46 i47 z K3 i90=some r:=⟨_,rfl,hm⟩
       unfold m_spec_l02Ok_B3 at hm
       refine wp_seq<|wp_seq<|wp_rs rfl<|RQ.y rfl (Y.move (v:=.int .i64 i90) s7_3)<|RQ.y rfl (Y.move (v:=uxs46) s3_3) ?_
       obtain ⟨A92,c93,rfl⟩:=OwF.form Guxs46
       have qbA92:=OwF.bound Guxs46
       refine RQ.y rfl (Y.len (by kernel_rfl) rfl)<|RQ.y rfl (Y.binI (v:=.bool (decide (i90 < (xs46.length:Int)))) rfl rfl rfl)<|RQ.nil<|then_n ?_
       rcases bcases (decide (i90 < (xs46.length:Int))) with c94|c94
       ·replace hm:=cF c94 hm
        have pc94:=of_decide_eq_false c94
        refine cond_f rfl (vb rfl c94)<|wp_exit ?_
        exact (then_x (then_x (hit_x ⟨_,rfl,⟨s0_3,s3_3,s4_3,s5_3,s6_3,B28,Guxs46,T,(by rw [hK3] at hm; exact hm)⟩⟩)))
       replace hm:=cT c94 hm
       have pc94:=of_decide_eq_true c94
       refine cond_t rfl (vb rfl c94)<|wp_skip<|then_n<|wp_seq<|wp_block<|wp_seq<|wp_rbd (by kernel_rfl) (by kernel_rfl)<|RQ.y rfl (Y.move (v:=.slice A92 xs46.length c93) s3_3)<|RQ.y rfl (Y.move (v:=.int .i64 i90) s7_3) ?_
       obtain ⟨x95,hx97,hm⟩:=bnd hm
       obtain ⟨k96,hk98,hl99,hx97⟩:=getI_some hx97
       obtain ⟨b100,rfl⟩:=OwF.addr0 Guxs46 (by omega)
       refine RQ.y rfl (Y.indexAddr (m:=k96) (sz:=1) rfl rfl hk98 hl99 (by kernel_rfl))<|RQ.y rfl (Y.load (v:=.string x95) rfl (by kernel_rfl) (beC (OwF.cell fS Guxs46 hx97 (j:=0) rfl)))<|RQ.y rfl (Y.fieldAddr (off:=1) s5_3 (by kernel_rfl))<|RQ.y rfl (Y.load (v:=.slice (some ⟨b57,o58,none⟩) x13.cons.length c22) rfl (by kernel_rfl) (beC (blkCell B28 (i:=1) rfl)))<|RQ.y rfl (Y.move (v:=.int .i64 i47) s6_3) ?_
       obtain ⟨x101,hx104,hm⟩:=bnd hm
       obtain ⟨k102,hk105,hl106,hx104⟩:=getI_some hx104
       obtain ⟨cs103,hRcs103,hc107⟩:=h22.el hx104
       have hScs103:=hRcs103
       obtain ⟨A108,n108,c108,rfl,⟨h108,r108⟩⟩:=hRcs103
       have e108:=h108.len; subst e108
       have q108:=len_le r108
       refine RQ.y rfl (Y.indexAddr (m:=k102) (sz:=2) rfl rfl hk105 hl106 (by kernel_rfl))<|RQ.y rfl (Y.fieldAddr (off:=0) rfl (by kernel_rfl))<|RQ.y rfl (Y.load (v:=.string x101.name) rfl (by kernel_rfl) (beC (cellT T (hc107 0 _ rfl))))<|RQ.y rfl (Y.eqStr rfl rfl (by kernel_rfl))<|RQ.nil ?_
       intro w109 hb110
       have szw109:=hb110.size
       have B28:=blkT B28 hb110
       have Guxs46:=OwF.below Guxs46 hb110
       have T:=Tt T hb110
       refine then_n ?_
       rcases bcases (x95.toList==x101.name.toList) with c111|c111
       ·replace hm:=cF c111 hm
        refine cond_f rfl (vb rfl c111)<|wp_skip ?_
        refine blk_n (then_n ?_)
        refine wp_rs rfl<|RQ.y rfl (Y.move (v:=.int .i64 i90) s7_3)<|RQ.y rfl (Y.binI rfl rfl (binI_add (m:=i90) (by omega)))<|RQ.y rfl (Y.assign (v:=.int .i64 (i90+1)) rfl)<|RQ.nil ?_
        exact (then_n ⟨g,_,Nat.lt_succ_self _,rfl,⟨(i90+1),s0_3,s3_3,s4_3,s5_3,s6_3,rfl,(by omega),B28,Guxs46,T,(by rw [← hrec3]; exact hm)⟩⟩)
       replace hm:=cT c111 hm
       refine cond_t rfl (vb rfl c111)<|wp_seq<|wp_rs rfl<|RQ.y rfl (Y.assign (v:=.bool false) rfl)<|RQ.nil<|then_n<|wp_ret ?_
       obtain rfl:=sj hm
       exact (blk_r (then_r (then_r (hit_r (blk_r (then_r (blk_r (then_r (then_r (hit_r (blk_r (blk_r (then_r (then_r (hit_r (blk_r (then_r (ret1 rfl rfl rfl ⟨rfl,T⟩))))))))))))))))))
      replace hm:=cT c42 hm
      have pc42:=of_decide_eq_true c42
      refine cond_t rfl (vb rfl c42)<|wp_seq<|wp_rs rfl<|RQ.y rfl (Y.assign (v:=.bool false) rfl)<|RQ.nil<|then_n<|wp_ret ?_
      obtain rfl:=sj hm
      exact (then_r (blk_r (then_r (then_r (hit_r (blk_r (then_r (ret1 rfl rfl rfl ⟨rfl,T⟩))))))))
     replace hm:=cT c39 hm
     have pc39:=of_decide_eq_true c39
     iterate 4 refine RQ.skip (wantN (dj:=45) rfl (vb rfl c39) rfl) ?_
     refine RQ.y rfl (Y.pick (b:=true) (v:=.bool true) (vb rfl c39) rfl)<|RQ.nil ?_
     intro w114 hb115
     have szw114:=hb115.size
     have B28:=blkT B28 hb115
     have Guxs9:=OwF.below Guxs9 hb115
     have T:=Tt T hb115
     refine then_n<|cond_t rfl rfl<|wp_seq<|wp_rs rfl<|RQ.y rfl (Y.assign (v:=.bool false) rfl)<|RQ.nil<|then_n<|wp_ret ?_
     obtain rfl:=sj hm
     exact (then_r (blk_r (then_r (then_r (hit_r (blk_r (then_r (ret1 rfl rfl rfl ⟨rfl,T⟩))))))))
    replace hm:=cT c38 hm
    iterate 4 refine RQ.skip (wantN (dj:=39) rfl (vb rfl c38) rfl) ?_
    refine RQ.y rfl (Y.pick (b:=true) (v:=.bool true) (vb rfl c38) rfl)<|RQ.y rfl (Y.move (v:=.bool true) rfl) ?_
    iterate 4 refine RQ.skip (wantN (dj:=45) rfl rfl rfl) ?_
    refine RQ.y rfl (Y.pick (b:=true) (v:=.bool true) rfl rfl)<|RQ.nil ?_
    intro w116 hb117
    have szw116:=hb117.size
    have B28:=blkT B28 hb117
    have Guxs9:=OwF.below Guxs9 hb117
    have T:=Tt T hb117
    refine then_n<|cond_t rfl rfl<|wp_seq<|wp_rs rfl<|RQ.y rfl (Y.assign (v:=.bool false) rfl)<|RQ.nil<|then_n<|wp_ret ?_
    obtain rfl:=sj hm
    exact (then_r (blk_r (then_r (then_r (hit_r (blk_r (then_r (ret1 rfl rfl rfl ⟨rfl,T⟩))))))))
   replace hm:=cT c35 hm
   iterate 6 refine RQ.skip (wantN (dj:=31) rfl (vb rfl c35) rfl) ?_
   refine RQ.y rfl (Y.pick (b:=true) (v:=.bool true) (vb rfl c35) rfl)<|RQ.y rfl (Y.move (v:=.bool true) rfl) ?_
   iterate 4 refine RQ.skip (wantN (dj:=39) rfl rfl rfl) ?_
   refine RQ.y rfl (Y.pick (b:=true) (v:=.bool true) rfl rfl)<|RQ.y rfl (Y.move (v:=.bool true) rfl) ?_
   iterate 4 refine RQ.skip (wantN (dj:=45) rfl rfl rfl) ?_
   refine RQ.y rfl (Y.pick (b:=true) (v:=.bool true) rfl rfl)<|RQ.nil ?_
   intro w118 hb119
   have szw118:=hb119.size
   have B28:=blkT B28 hb119
   have Guxs9:=OwF.below Guxs9 hb119
   have T:=Tt T hb119
   refine then_n<|cond_t rfl rfl<|wp_seq<|wp_rs rfl<|RQ.y rfl (Y.assign (v:=.bool false) rfl)<|RQ.nil<|then_n<|wp_ret ?_
   obtain rfl:=sj hm
   exact (then_r (blk_r (then_r (then_r (hit_r (blk_r (then_r (ret1 rfl rfl rfl ⟨rfl,T⟩))))))))
  replace hm:=cT c1 hm
  have pc1:=of_decide_eq_true c1
  refine cond_t rfl (vb rfl c1)<|wp_seq<|wp_rs rfl<|RQ.y rfl (Y.assign (v:=.bool false) rfl)<|RQ.nil<|then_n<|wp_ret ?_
  obtain rfl:=sj hm
  exact (then_r (ret1 rfl rfl rfl ⟨rfl,T⟩))
noncomputable def m_spec_l20Simple_R (self:(List DData)→DType→Option Bool) (d0:List DData) (d1:DType):Option Bool:=
  (bif (d1.kind==1) then (bif (d1.name.toList==(ByteArray.mk #[]).toList) then some ((d1.kids.length:Int)==0) else some false) else (bif (d1.kind==2) then (bif ((d1.kids.length:Int)==0) then ((m_spec_l02Named d0 d1.name).bind fun y41=>some (decide (y41 ≥ 0))) else some false) else (bif (d1.kind==3) then (bif (d1.name.toList==(ByteArray.mk #[]).toList) then (bif ((d1.kids.length:Int)==2) then ((getI d1.kids 0).bind fun x11=>((self d0 x11).bind fun y21=>(bif y21 then ((getI d1.kids 1).bind fun x26=>((self d0 x26).bind fun y34=>some y34)) else some false))) else some false) else some false) else some false)))
noncomputable def m_spec_l20Simple:Nat→(List DData)→DType→Option Bool
  |0,_,_=>none
  |gas+1,d0,d1=>m_spec_l20Simple_R (m_spec_l20Simple gas) d0 d1
set_option maxHeartbeats 2000000 in
theorem c_m_spec_l20Simple :∀(gas:Nat) (d0:List DData) (d1:DType) (r:Bool) (hm:m_spec_l20Simple gas d0 d1=some r) (v0:Value) (v1:Value) (w:World) (hv0:Sl dataRd 2 w v0 d0) (hv1:Pt typeRd w v1 d1),
    Calls Tryz.prog 85 #[v0,v1] w fun e w'=>e=.returned (.bool r)∧Below w.heap.size w w':=by
  intro gas
  induction gas with
  |zero=>
   intro d0 d1 r hm v0 v1 w hv0 hv1
   cases hm
  |succ gas ih=>
   intro d0 d1 r hm v0 v1 w hv0 hv1
   obtain ⟨Aa0,na0,ca0,rfl,ha0,ra0⟩:=hv0
   have ea0:=ha0.len; subst ea0
   have qa0:=len_le ra0
   obtain ⟨ba1,oa1,csa1,rfl,hba1,hRa1,hca1⟩:=hv1
   have hSa1:=hRa1
   obtain ⟨A1,n1,c1,rfl,⟨h1,r1⟩⟩:=(typeRd_out hRa1)
   have e1:=h1.len; subst e1
   have q1:=len_le r1
   have T:=Below.refl w.heap.size w
   obtain ⟨self,hself,hm⟩ :∃s,s=m_spec_l20Simple gas∧m_spec_l20Simple_R s d0 d1=some r:=⟨_,rfl,hm⟩
   unfold m_spec_l20Simple_R at hm
   refine enter 74 Tryz.func85 rfl rfl rfl ?_
   intro f hf
   have s0:f 0=.slice Aa0 d0.length ca0:=hf 0 _ rfl
   have s1:f 1=.pointer (some ⟨ba1,oa1,none⟩):=hf 1 _ rfl
   refine wp_seq<|wp_rs rfl<|RQ.y rfl (Y.assign (v:=.bool false) rfl)<|RQ.nil<|then_n<|wp_seq<|wp_seq<|wp_rs rfl<|RQ.y rfl (Y.move (v:=.pointer (some ⟨ba1,oa1,none⟩)) s1)<|RQ.y rfl (Y.nilCheck rfl)<|RQ.y rfl (Y.fieldAddr (off:=0) rfl (by kernel_rfl))<|RQ.y rfl (Y.load (v:=.int .i64 d1.kind) rfl (by kernel_rfl) (eqC (cellT T (hca1 0 _ rfl))))<|RQ.nil<|then_n<|wp_block<|wp_seq<|wp_rs rfl<|RQ.y rfl (Y.binI (v:=.bool (d1.kind==1)) rfl rfl rfl)<|RQ.y rfl (Y.assign (v:=.bool (d1.kind==1)) rfl)<|RQ.nil<|then_n ?_
   rcases bcases (d1.kind==1) with c2|c2
   ·replace hm:=cF c2 hm
    refine cond_f rfl (vb rfl c2)<|wp_seq<|wp_rs rfl<|RQ.y rfl (Y.binI (v:=.bool (d1.kind==2)) rfl rfl rfl)<|RQ.y rfl (Y.assign (v:=.bool (d1.kind==2)) rfl)<|RQ.nil<|then_n ?_
    rcases bcases (d1.kind==2) with c3|c3
    ·replace hm:=cF c3 hm
     refine cond_f rfl (vb rfl c3)<|wp_seq<|wp_rs rfl<|RQ.y rfl (Y.binI (v:=.bool (d1.kind==3)) rfl rfl rfl)<|RQ.y rfl (Y.assign (v:=.bool (d1.kind==3)) rfl)<|RQ.nil<|then_n ?_
     rcases bcases (d1.kind==3) with c4|c4
     ·replace hm:=cF c4 hm
      refine cond_f rfl (vb rfl c4)<|wp_skip ?_
      refine blk_n (then_n ?_)
      refine wp_seq<|wp_rs rfl<|RQ.y rfl (Y.assign (v:=.bool false) rfl)<|RQ.nil<|then_n<|wp_ret ?_
      obtain rfl:=sj hm
      exact (ret1 rfl rfl rfl ⟨rfl,T⟩)
     replace hm:=cT c4 hm
     refine cond_t rfl (vb rfl c4)<|wp_seq<|wp_rb rfl<|RQ.y rfl (Y.move (v:=.pointer (some ⟨ba1,oa1,none⟩)) s1)<|RQ.y rfl (Y.nilCheck rfl)<|RQ.y rfl (Y.fieldAddr (off:=1) rfl (by kernel_rfl))<|RQ.y rfl (Y.load (v:=.string d1.name) rfl (by kernel_rfl) (beC (cellT T (hca1 1 _ rfl))))<|RQ.y rfl (Y.eqStr rfl rfl (by kernel_rfl))<|RQ.y rfl (Y.move (v:=.bool (d1.name.toList==(ByteArray.mk #[]).toList)) rfl) ?_
     rcases bcases (d1.name.toList==(ByteArray.mk #[]).toList) with c5|c5
     ·replace hm:=cF c5 hm
      iterate 6 refine RQ.skip (wantN (dj:=48) rfl (vb rfl c5) rfl) ?_
      refine RQ.y rfl (Y.pick (b:=false) (v:=.bool false) (vb rfl c5) rfl)<|RQ.y rfl (Y.move (v:=.bool false) rfl) ?_
      iterate 7 refine RQ.skip (wantN (dj:=56) rfl rfl rfl) ?_
      refine RQ.y rfl (Y.pick (b:=false) (v:=.bool false) rfl rfl)<|RQ.y rfl (Y.move (v:=.bool false) rfl) ?_
      iterate 7 refine RQ.skip (wantN (dj:=65) rfl rfl rfl) ?_
      refine RQ.y rfl (Y.pick (b:=false) (v:=.bool false) rfl rfl)<|RQ.y rfl (Y.assign (v:=.bool false) rfl)<|RQ.nil ?_
      intro w6 hb7
      have szw6:=hb7.size
      have T:=Tt T hb7
      refine then_n<|wp_ret ?_
      obtain rfl:=sj hm
      exact (blk_r (then_r (ret1 rfl rfl rfl ⟨rfl,T⟩)))
     replace hm:=cT c5 hm
     refine RQ.y (wantT (dj:=48) rfl (vb rfl c5)) (Y.move (v:=.pointer (some ⟨ba1,oa1,none⟩)) s1)<|RQ.y (wantT (dj:=48) rfl (vb rfl c5)) (Y.nilCheck rfl)<|RQ.y (wantT (dj:=48) rfl (vb rfl c5)) (Y.fieldAddr (off:=2) rfl (by kernel_rfl))<|RQ.y (wantT (dj:=48) rfl (vb rfl c5)) (Y.load (v:=.slice A1 d1.kids.length c1) rfl (by kernel_rfl) (beC (cellT T (hca1 2 _ rfl))))<|RQ.y (wantT (dj:=48) rfl (vb rfl c5)) (Y.len (by kernel_rfl) rfl)<|RQ.y (wantT (dj:=48) rfl (vb rfl c5)) (Y.binI (v:=.bool ((d1.kids.length:Int)==2)) rfl rfl rfl)<|RQ.y rfl (Y.pick (b:=true) (v:=.bool ((d1.kids.length:Int)==2)) (vb rfl c5) rfl)<|RQ.y rfl (Y.move (v:=.bool ((d1.kids.length:Int)==2)) rfl) ?_
     rcases bcases ((d1.kids.length:Int)==2) with c8|c8
     ·replace hm:=cF c8 hm
      iterate 7 refine RQ.skip (wantN (dj:=56) rfl (vb rfl c8) rfl) ?_
      refine RQ.y rfl (Y.pick (b:=false) (v:=.bool false) (vb rfl c8) rfl)<|RQ.y rfl (Y.move (v:=.bool false) rfl) ?_
      iterate 7 refine RQ.skip (wantN (dj:=65) rfl rfl rfl) ?_
      refine RQ.y rfl (Y.pick (b:=false) (v:=.bool false) rfl rfl)<|RQ.y rfl (Y.assign (v:=.bool false) rfl)<|RQ.nil ?_
      intro w9 hb10
      have szw9:=hb10.size
      have T:=Tt T hb10
      refine then_n<|wp_ret ?_
      obtain rfl:=sj hm
      exact (blk_r (then_r (ret1 rfl rfl rfl ⟨rfl,T⟩)))
     replace hm:=cT c8 hm
     refine RQ.y (wantT (dj:=56) rfl (vb rfl c8)) (Y.move (v:=.slice Aa0 d0.length ca0) s0)<|RQ.y (wantT (dj:=56) rfl (vb rfl c8)) (Y.move (v:=.pointer (some ⟨ba1,oa1,none⟩)) s1)<|RQ.y (wantT (dj:=56) rfl (vb rfl c8)) (Y.nilCheck rfl)<|RQ.y (wantT (dj:=56) rfl (vb rfl c8)) (Y.fieldAddr (off:=2) rfl (by kernel_rfl))<|RQ.y (wantT (dj:=56) rfl (vb rfl c8)) (Y.load (v:=.slice A1 d1.kids.length c1) rfl (by kernel_rfl) (beC (cellT T (hca1 2 _ rfl)))) ?_
     obtain ⟨x11,hx14,hm⟩:=bnd hm
     obtain ⟨k12,hk15,hl16,hx14⟩:=getI_some hx14
     obtain ⟨b18,o19,rfl,hbb18⟩:=h1.addr (by omega)
     obtain ⟨cs13,hRcs13,hc17⟩:=h1.el hx14
     have hScs13:=hRcs13
     obtain ⟨A20,n20,c20,rfl,⟨h20,r20⟩⟩:=(typeRd_out hRcs13)
     have e20:=h20.len; subst e20
     have q20:=len_le r20
     refine RQ.y (wantT (dj:=56) rfl (vb rfl c8)) (Y.indexAddr (m:=k12) (sz:=3) rfl rfl hk15 hl16 (by kernel_rfl)) ?_
     obtain ⟨y21,e22,hm⟩:=bnd hm
     refine RQ.call (wantT (dj:=56) rfl (vb rfl c8)) (am2 rfl rfl) (by kernel_rfl) (v:=.bool y21) (bel (K:=fun _=>True) fun w' hb'=>(ih d0 x11 _ (by rw [← hself]; exact e22) _ _ w' (slArg dataRd_ok ha0 ra0 (Tt T hb')) (ptArg typeRd_ok hbb18 hScs13 hc17 (Tt T hb'))))<|RQ.y rfl (Y.pick (b:=true) (v:=.bool y21) (vb rfl c8) rfl)<|RQ.y rfl (Y.move (v:=.bool y21) rfl) ?_
     rcases bcases y21 with c23|c23
     ·replace hm:=cF c23 hm
      iterate 7 refine RQ.skip (wantN (dj:=65) rfl (vb rfl c23) rfl) ?_
      refine RQ.y rfl (Y.pick (b:=false) (v:=.bool false) (vb rfl c23) rfl)<|RQ.y rfl (Y.assign (v:=.bool false) rfl)<|RQ.nil ?_
      intro w24 hb25
      have szw24:=hb25.size
      have T:=Tt T hb25
      refine then_n<|wp_ret ?_
      obtain rfl:=sj hm
      exact (blk_r (then_r (ret1 rfl rfl rfl ⟨rfl,T⟩)))
     replace hm:=cT c23 hm
     refine RQ.y (wantT (dj:=65) rfl (vb rfl c23)) (Y.move (v:=.slice Aa0 d0.length ca0) s0)<|RQ.y (wantT (dj:=65) rfl (vb rfl c23)) (Y.move (v:=.pointer (some ⟨ba1,oa1,none⟩)) s1)<|RQ.y (wantT (dj:=65) rfl (vb rfl c23)) (Y.nilCheck rfl)<|RQ.y (wantT (dj:=65) rfl (vb rfl c23)) (Y.fieldAddr (off:=2) rfl (by kernel_rfl))<|RQ.y (wantT (dj:=65) rfl (vb rfl c23)) (Y.load (v:=.slice (some ⟨b18,o19,none⟩) d1.kids.length c1) rfl (by kernel_rfl) (beC (cellT T (hca1 2 _ rfl)))) ?_
     obtain ⟨x26,hx29,hm⟩:=bnd hm
     obtain ⟨k27,hk30,hl31,hx29⟩:=getI_some hx29
     obtain ⟨cs28,hRcs28,hc32⟩:=h1.el hx29
     have hScs28:=hRcs28
     obtain ⟨A33,n33,c33,rfl,⟨h33,r33⟩⟩:=(typeRd_out hRcs28)
     have e33:=h33.len; subst e33
     have q33:=len_le r33
     refine RQ.y (wantT (dj:=65) rfl (vb rfl c23)) (Y.indexAddr (m:=k27) (sz:=3) rfl rfl hk30 hl31 (by kernel_rfl)) ?_
     obtain ⟨y34,e35,hm⟩:=bnd hm
     refine RQ.call (wantT (dj:=65) rfl (vb rfl c23)) (am2 rfl rfl) (by kernel_rfl) (v:=.bool y34) (bel (K:=fun _=>True) fun w' hb'=>(ih d0 x26 _ (by rw [← hself]; exact e35) _ _ w' (slArg dataRd_ok ha0 ra0 (Tt T hb')) (ptArg typeRd_ok hbb18 hScs28 hc32 (Tt T hb'))))<|RQ.y rfl (Y.pick (b:=true) (v:=.bool y34) (vb rfl c23) rfl)<|RQ.y rfl (Y.assign (v:=.bool y34) rfl)<|RQ.nil ?_
     intro w36 hb37
     have szw36:=hb37.size
     have T:=Tt T hb37
     refine then_n<|wp_ret ?_
     obtain rfl:=sj hm
     exact (blk_r (then_r (ret1 rfl rfl rfl ⟨rfl,T⟩)))
    replace hm:=cT c3 hm
    refine cond_t rfl (vb rfl c3)<|wp_seq<|wp_rb rfl<|RQ.y rfl (Y.move (v:=.pointer (some ⟨ba1,oa1,none⟩)) s1)<|RQ.y rfl (Y.nilCheck rfl)<|RQ.y rfl (Y.fieldAddr (off:=2) rfl (by kernel_rfl))<|RQ.y rfl (Y.load (v:=.slice A1 d1.kids.length c1) rfl (by kernel_rfl) (beC (cellT T (hca1 2 _ rfl))))<|RQ.y rfl (Y.len (by kernel_rfl) rfl)<|RQ.y rfl (Y.binI (v:=.bool ((d1.kids.length:Int)==0)) rfl rfl rfl)<|RQ.y rfl (Y.move (v:=.bool ((d1.kids.length:Int)==0)) rfl) ?_
    rcases bcases ((d1.kids.length:Int)==0) with c38|c38
    ·replace hm:=cF c38 hm
     iterate 7 refine RQ.skip (wantN (dj:=32) rfl (vb rfl c38) rfl) ?_
     refine RQ.y rfl (Y.pick (b:=false) (v:=.bool false) (vb rfl c38) rfl)<|RQ.y rfl (Y.assign (v:=.bool false) rfl)<|RQ.nil ?_
     intro w39 hb40
     have szw39:=hb40.size
     have T:=Tt T hb40
     refine then_n<|wp_ret ?_
     obtain rfl:=sj hm
     exact (blk_r (then_r (ret1 rfl rfl rfl ⟨rfl,T⟩)))
    replace hm:=cT c38 hm
    refine RQ.y (wantT (dj:=32) rfl (vb rfl c38)) (Y.move (v:=.slice Aa0 d0.length ca0) s0)<|RQ.y (wantT (dj:=32) rfl (vb rfl c38)) (Y.move (v:=.pointer (some ⟨ba1,oa1,none⟩)) s1)<|RQ.y (wantT (dj:=32) rfl (vb rfl c38)) (Y.nilCheck rfl)<|RQ.y (wantT (dj:=32) rfl (vb rfl c38)) (Y.fieldAddr (off:=1) rfl (by kernel_rfl))<|RQ.y (wantT (dj:=32) rfl (vb rfl c38)) (Y.load (v:=.string d1.name) rfl (by kernel_rfl) (beC (cellT T (hca1 1 _ rfl)))) ?_
    obtain ⟨y41,e42,hm⟩:=bnd hm
    refine RQ.call (wantT (dj:=32) rfl (vb rfl c38)) (am2 rfl rfl) (by kernel_rfl) (v:=.int .i64 y41) (bel (K:=fun _=>True) fun w' hb'=>(c_m_spec_l02Named d0 d1.name _ e42 _ w' (slArg dataRd_ok ha0 ra0 (Tt T hb'))))<|RQ.y (wantT (dj:=32) rfl (vb rfl c38)) (Y.binI (v:=.bool (decide (y41 ≥ 0))) rfl rfl rfl)<|RQ.y rfl (Y.pick (b:=true) (v:=.bool (decide (y41 ≥ 0))) (vb rfl c38) rfl)<|RQ.y rfl (Y.assign (v:=.bool (decide (y41 ≥ 0))) rfl)<|RQ.nil ?_
    intro w43 hb44
    have szw43:=hb44.size
    have T:=Tt T hb44
    refine then_n<|wp_ret ?_
    obtain rfl:=sj hm
    exact (blk_r (then_r (ret1 rfl rfl rfl ⟨rfl,T⟩)))
   replace hm:=cT c2 hm
   refine cond_t rfl (vb rfl c2)<|wp_seq<|wp_rs rfl<|RQ.y rfl (Y.move (v:=.pointer (some ⟨ba1,oa1,none⟩)) s1)<|RQ.y rfl (Y.nilCheck rfl)<|RQ.y rfl (Y.fieldAddr (off:=1) rfl (by kernel_rfl))<|RQ.y rfl (Y.load (v:=.string d1.name) rfl (by kernel_rfl) (eqC (cellT T (hca1 1 _ rfl))))<|RQ.y rfl (Y.eqStr rfl rfl (by kernel_rfl))<|RQ.y rfl (Y.move (v:=.bool (d1.name.toList==(ByteArray.mk #[]).toList)) rfl) ?_
   rcases bcases (d1.name.toList==(ByteArray.mk #[]).toList) with c45|c45
   ·replace hm:=cF c45 hm
    iterate 6 refine RQ.skip (wantN (dj:=16) rfl (vb rfl c45) rfl) ?_
    refine RQ.y rfl (Y.pick (b:=false) (v:=.bool false) (vb rfl c45) rfl)<|RQ.y rfl (Y.assign (v:=.bool false) rfl)<|RQ.nil<|then_n<|wp_ret ?_
    obtain rfl:=sj hm
    exact (blk_r (then_r (ret1 rfl rfl rfl ⟨rfl,T⟩)))
   replace hm:=cT c45 hm
   refine RQ.y (wantT (dj:=16) rfl (vb rfl c45)) (Y.move (v:=.pointer (some ⟨ba1,oa1,none⟩)) s1)<|RQ.y (wantT (dj:=16) rfl (vb rfl c45)) (Y.nilCheck rfl)<|RQ.y (wantT (dj:=16) rfl (vb rfl c45)) (Y.fieldAddr (off:=2) rfl (by kernel_rfl))<|RQ.y (wantT (dj:=16) rfl (vb rfl c45)) (Y.load (v:=.slice A1 d1.kids.length c1) rfl (by kernel_rfl) (eqC (cellT T (hca1 2 _ rfl))))<|RQ.y (wantT (dj:=16) rfl (vb rfl c45)) (Y.len (by kernel_rfl) rfl)<|RQ.y (wantT (dj:=16) rfl (vb rfl c45)) (Y.binI (v:=.bool ((d1.kids.length:Int)==0)) rfl rfl rfl)<|RQ.y rfl (Y.pick (b:=true) (v:=.bool ((d1.kids.length:Int)==0)) (vb rfl c45) rfl)<|RQ.y rfl (Y.assign (v:=.bool ((d1.kids.length:Int)==0)) rfl)<|RQ.nil<|then_n<|wp_ret ?_
   obtain rfl:=sj hm
   exact (blk_r (then_r (ret1 rfl rfl rfl ⟨rfl,T⟩)))
noncomputable def m_spec_l20Signature_A2:Option Bool:=
  some true
noncomputable def m_spec_l20Signature_B2 (d0:DSignature) (rec2:Int→Option Bool) (K2:Option Bool) (i13:Int):Option Bool:=
  (bif (decide (i13 < (d0.defs.length:Int))) then ((getI d0.defs i13).bind fun x16=>((m_spec_l20Simple (SizeOf.sizeOf x16) d0.datas x16).bind fun y26=>(bif y26 then (rec2 (i13+1)) else some false))) else (K2))
noncomputable def m_spec_l20Signature_L2 (d0:DSignature) (K2:Option Bool):Nat→Int→Option Bool
  |0,_=>none
  |g+1,i13=>m_spec_l20Signature_B2 d0 (m_spec_l20Signature_L2 d0 K2 g) K2 i13
noncomputable def m_spec_l20Signature_A1 (d0:DSignature):Option Bool:=
  (m_spec_l20Signature_L2 d0 m_spec_l20Signature_A2 (d0.defs.length+1) 0)
noncomputable def m_spec_l20Signature_A3 (rec1:Int→Option Bool) (i32:Int):Option Bool:=
  ((ck (i32+1)).bind fun s36=>(rec1 s36))
noncomputable def m_spec_l20Signature_A4 (rec3:Int→Option Bool) (i37:Int):Option Bool:=
  ((ck (i37+1)).bind fun s51=>(rec3 s51))
noncomputable def m_spec_l20Signature_B4 (d0:DSignature) (i32:Int) (i37:Int) (rec4:Int→Option Bool) (K4:Option Bool) (i52:Int):Option Bool:=
  ((getI d0.datas i32).bind fun x54=>((getI x54.cons i37).bind fun x62=>(bif (decide (i52 < (x62.fields.length:Int))) then ((getI d0.datas i32).bind fun x73=>((getI x73.cons i37).bind fun x81=>((getI x81.fields i52).bind fun x91=>((m_spec_l20Simple (SizeOf.sizeOf x91) d0.datas x91).bind fun y101=>(bif y101 then (rec4 (i52+1)) else some false))))) else (K4))))
noncomputable def m_spec_l20Signature_L4 (d0:DSignature) (i32:Int) (i37:Int) (K4:Option Bool):Nat→Int→Option Bool
  |0,_=>none
  |g+1,i52=>m_spec_l20Signature_B4 d0 i32 i37 (m_spec_l20Signature_L4 d0 i32 i37 K4 g) K4 i52
noncomputable def m_spec_l20Signature_B3 (d0:DSignature) (i32:Int) (rec3:Int→Option Bool) (K3:Option Bool) (i37:Int):Option Bool:=
  ((getI d0.datas i32).bind fun x39=>(bif (decide (i37 < (x39.cons.length:Int))) then (m_spec_l20Signature_L4 d0 i32 i37 (m_spec_l20Signature_A4 rec3 i37) (((getI (((getI d0.datas i32).getD default).cons) i37).getD default).fields.length+1) 0) else (K3)))
noncomputable def m_spec_l20Signature_L3 (d0:DSignature) (i32:Int) (K3:Option Bool):Nat→Int→Option Bool
  |0,_=>none
  |g+1,i37=>m_spec_l20Signature_B3 d0 i32 (m_spec_l20Signature_L3 d0 i32 K3 g) K3 i37
noncomputable def m_spec_l20Signature_B1 (d0:DSignature) (rec1:Int→Option Bool) (K1:Option Bool) (i32:Int):Option Bool:=
  (bif (decide (i32 < (d0.datas.length:Int))) then (m_spec_l20Signature_L3 d0 i32 (m_spec_l20Signature_A3 rec1 i32) (((getI d0.datas i32).getD default).cons.length+1) 0) else (K1))
noncomputable def m_spec_l20Signature_L1 (d0:DSignature) (K1:Option Bool):Nat→Int→Option Bool
  |0,_=>none
  |g+1,i32=>m_spec_l20Signature_B1 d0 (m_spec_l20Signature_L1 d0 K1 g) K1 i32
noncomputable def m_spec_l20Signature (d0:DSignature):Option Bool:=
  ((m_spec_l02Ok d0.datas).bind fun y3=>(bif y3 then (bif (decide ((d0.defs.length:Int) > 24)) then some false else (m_spec_l20Signature_L1 d0 (m_spec_l20Signature_A1 d0) (d0.datas.length+1) 0)) else some false))
set_option maxHeartbeats 2000000 in
theorem c_m_spec_l20Signature (d0:DSignature) (r:Bool) (hm:m_spec_l20Signature d0=some r) (v0:Value) (w:World) (hv0:Pt signatureRd w v0 d0) :
    Calls Tryz.prog 83 #[v0] w fun e w'=>e=.returned (.bool r)∧Below w.heap.size w w':=by
  obtain ⟨ba0,oa0,csa0,rfl,hba0,hRa0,hca0⟩:=hv0
  have hSa0:=hRa0
  obtain ⟨A1,n1,c1,A2,n2,c2,rfl,⟨h1,r1⟩,⟨h2,r2⟩⟩:=hRa0
  have e1:=h1.len; subst e1
  have q1:=len_le r1
  have e2:=h2.len; subst e2
  have q2:=len_le r2
  have T:=Below.refl w.heap.size w
  unfold m_spec_l20Signature at hm
  refine enter 101 Tryz.func83 rfl rfl rfl ?_
  intro f hf
  have s0:f 0=.pointer (some ⟨ba0,oa0,none⟩):=hf 0 _ rfl
  refine wp_seq<|wp_rs rfl<|RQ.y rfl (Y.assign (v:=.bool false) rfl)<|RQ.nil<|then_n<|wp_seq<|wp_seq<|wp_rb rfl<|RQ.y rfl (Y.move (v:=.pointer (some ⟨ba0,oa0,none⟩)) s0)<|RQ.y rfl (Y.nilCheck rfl)<|RQ.y rfl (Y.fieldAddr (off:=0) rfl (by kernel_rfl))<|RQ.y rfl (Y.load (v:=.slice A1 d0.datas.length c1) rfl (by kernel_rfl) (beC (cellT T (hca0 0 _ rfl)))) ?_
  obtain ⟨y3,e4,hm⟩:=bnd hm
  refine RQ.call rfl (am1 rfl) (by kernel_rfl) (v:=.bool y3) (bel (K:=fun _=>True) fun w' hb'=>(c_m_spec_l02Ok d0.datas _ e4 _ w' (slArg dataRd_ok h1 r1 (Tt T hb'))))<|RQ.y rfl (Y.not (b':=(!y3)) rfl rfl)<|RQ.y rfl (Y.move (v:=.bool (!y3)) rfl) ?_
  rcases bcases y3 with c5|c5
  ·replace hm:=cF c5 hm
   iterate 6 refine RQ.skip (wantN (dj:=13) rfl (vbn rfl c5 rfl) rfl) ?_
   refine RQ.y rfl (Y.pick (b:=true) (v:=.bool true) (vbn rfl c5 rfl) rfl)<|RQ.nil ?_
   intro w6 hb7
   have szw6:=hb7.size
   have T:=Tt T hb7
   refine then_n<|cond_t rfl rfl<|wp_seq<|wp_rs rfl<|RQ.y rfl (Y.assign (v:=.bool false) rfl)<|RQ.nil<|then_n<|wp_ret ?_
   obtain rfl:=sj hm
   exact (then_r (ret1 rfl rfl rfl ⟨rfl,T⟩))
  replace hm:=cT c5 hm
  refine RQ.y (wantT (dj:=13) rfl (vbn rfl c5 rfl)) (Y.move (v:=.pointer (some ⟨ba0,oa0,none⟩)) s0)<|RQ.y (wantT (dj:=13) rfl (vbn rfl c5 rfl)) (Y.nilCheck rfl)<|RQ.y (wantT (dj:=13) rfl (vbn rfl c5 rfl)) (Y.fieldAddr (off:=1) rfl (by kernel_rfl))<|RQ.y (wantT (dj:=13) rfl (vbn rfl c5 rfl)) (Y.load (v:=.slice A2 d0.defs.length c2) rfl (by kernel_rfl) (beC (cellT T (hca0 1 _ rfl))))<|RQ.y (wantT (dj:=13) rfl (vbn rfl c5 rfl)) (Y.len (by kernel_rfl) rfl)<|RQ.y (wantT (dj:=13) rfl (vbn rfl c5 rfl)) (Y.binI (v:=.bool (decide ((d0.defs.length:Int) > 24))) rfl rfl rfl)<|RQ.y rfl (Y.pick (b:=false) (v:=.bool (decide ((d0.defs.length:Int) > 24))) (vbn rfl c5 rfl) rfl)<|RQ.nil ?_
  intro w8 hb9
  have szw8:=hb9.size
  have T:=Tt T hb9
  refine then_n ?_
  rcases bcases (decide ((d0.defs.length:Int) > 24)) with c10|c10
  ·replace hm:=cF c10 hm
   have pc10:=of_decide_eq_false c10
   refine cond_f rfl (vb rfl c10)<|wp_skip<|then_n<|wp_seq<|wp_seq<|wp_rs rfl<|RQ.y rfl (Y.assign (v:=.int .i64 0) rfl)<|RQ.nil<|then_n<|wp_block ?_
   obtain ⟨K1,hK1,hm⟩ :∃K,K=(m_spec_l20Signature_A1 d0)∧m_spec_l20Signature_L1 d0 K (d0.datas.length+1) 0=some r:=⟨_,rfl,hm⟩
   refine wp_loopX (fun g f w'=>∃(i32:Int),f 0=.pointer (some ⟨ba0,oa0,none⟩)∧f 3=.int .i64 i32∧0≤i32∧Below w.heap.size w w'∧m_spec_l20Signature_L1 d0 K1 g i32=some r) 0 (fun f w'=>f 0=.pointer (some ⟨ba0,oa0,none⟩)∧Below w.heap.size w w'∧m_spec_l20Signature_A1 d0  = some r) (d0.datas.length+1) ⟨0,s0,rfl,(by omega),T,hm⟩ ?_ ?_
   ·rintro f w11 ⟨s0_1x,T,hm⟩
    unfold m_spec_l20Signature_A1 at hm
    refine blk_hit (then_n ?_)
    refine wp_seq<|wp_seq<|wp_rs rfl<|RQ.y rfl (Y.assign (v:=.int .i64 0) rfl)<|RQ.nil<|then_n<|wp_block ?_
    obtain ⟨K2,hK2,hm⟩ :∃K,K=m_spec_l20Signature_A2∧m_spec_l20Signature_L2 d0 K (d0.defs.length+1) 0=some r:=⟨_,rfl,hm⟩
    refine wp_loopX (fun g f w'=>∃(i13:Int),f 0=.pointer (some ⟨ba0,oa0,none⟩)∧f 6=.int .i64 i13∧0≤i13∧Below w.heap.size w w'∧m_spec_l20Signature_L2 d0 K2 g i13=some r) 6 (fun f w'=>Below w.heap.size w w'∧m_spec_l20Signature_A2  = some r) (d0.defs.length+1) ⟨0,s0_1x,rfl,(by omega),T,hm⟩ ?_ ?_
    ·rintro f w12 ⟨T,hm⟩
     unfold m_spec_l20Signature_A2 at hm
     refine blk_hit (then_n ?_)
     refine wp_seq<|wp_rs rfl<|RQ.y rfl (Y.assign (v:=.bool true) rfl)<|RQ.nil<|then_n<|wp_ret ?_
     obtain rfl:=sj hm
     exact (ret1 rfl rfl rfl ⟨rfl,T⟩)
    rintro g f w14 ⟨i13,s0_2,s6_2,nn6_2,T,hm⟩
    rcases g with _|g
    ·simp only [m_spec_l20Signature_L2] at hm; cases hm
    obtain ⟨rec2,hrec2,hm⟩ :∃z,z=m_spec_l20Signature_L2 d0 K2 g∧m_spec_l20Signature_B2 d0 z K2 i13=some r:=⟨_,rfl,hm⟩
    unfold m_spec_l20Signature_B2 at hm
    refine wp_seq<|wp_seq<|wp_rs rfl<|RQ.y rfl (Y.move (v:=.int .i64 i13) s6_2)<|RQ.y rfl (Y.move (v:=.pointer (some ⟨ba0,oa0,none⟩)) s0_2)<|RQ.y rfl (Y.nilCheck rfl)<|RQ.y rfl (Y.fieldAddr (off:=1) rfl (by kernel_rfl))<|RQ.y rfl (Y.load (v:=.slice A2 d0.defs.length c2) rfl (by kernel_rfl) (eqC (cellT T (hca0 1 _ rfl))))<|RQ.y rfl (Y.len (by kernel_rfl) rfl)<|RQ.y rfl (Y.binI (v:=.bool (decide (i13 < (d0.defs.length:Int)))) rfl rfl rfl)<|RQ.nil<|then_n ?_
    rcases bcases (decide (i13 < (d0.defs.length:Int))) with c15|c15
    ·replace hm:=cF c15 hm
     have pc15:=of_decide_eq_false c15
     refine cond_f rfl (vb rfl c15)<|wp_exit ?_
     exact (then_x (then_x (hit_x ⟨_,rfl,⟨T,(by rw [hK2] at hm; exact hm)⟩⟩)))
    replace hm:=cT c15 hm
    have pc15:=of_decide_eq_true c15
    refine cond_t rfl (vb rfl c15)<|wp_skip<|then_n<|wp_seq<|wp_block<|wp_seq<|wp_rbd (by kernel_rfl) (by kernel_rfl)<|RQ.y rfl (Y.move (v:=.pointer (some ⟨ba0,oa0,none⟩)) s0_2)<|RQ.y rfl (Y.nilCheck rfl)<|RQ.y rfl (Y.fieldAddr (off:=0) rfl (by kernel_rfl))<|RQ.y rfl (Y.load (v:=.slice A1 d0.datas.length c1) rfl (by kernel_rfl) (beC (cellT T (hca0 0 _ rfl))))<|RQ.y rfl (Y.move (v:=.pointer (some ⟨ba0,oa0,none⟩)) s0_2)<|RQ.y rfl (Y.nilCheck rfl)<|RQ.y rfl (Y.fieldAddr (off:=1) rfl (by kernel_rfl))<|RQ.y rfl (Y.load (v:=.slice A2 d0.defs.length c2) rfl (by kernel_rfl) (beC (cellT T (hca0 1 _ rfl))))<|RQ.y rfl (Y.move (v:=.int .i64 i13) s6_2) ?_
    obtain ⟨x16,hx19,hm⟩:=bnd hm
    obtain ⟨k17,hk20,hl21,hx19⟩:=getI_some hx19
    obtain ⟨b23,o24,rfl,hbb23⟩:=h2.addr (by omega)
    obtain ⟨cs18,hRcs18,hc22⟩:=h2.el hx19
    have hScs18:=hRcs18
    obtain ⟨A25,n25,c25,rfl,⟨h25,r25⟩⟩:=(typeRd_out hRcs18)
    have e25:=h25.len; subst e25
    have q25:=len_le r25
    refine RQ.y rfl (Y.indexAddr (m:=k17) (sz:=3) rfl rfl hk20 hl21 (by kernel_rfl)) ?_
    obtain ⟨y26,e27,hm⟩:=bnd hm
    refine RQ.call rfl (am2 rfl rfl) (by kernel_rfl) (v:=.bool y26) (bel (K:=fun _=>True) fun w' hb'=>(c_m_spec_l20Simple (SizeOf.sizeOf x16) d0.datas x16 _ e27 _ _ w' (slArg dataRd_ok h1 r1 (Tt T hb')) (ptArg typeRd_ok hbb23 hScs18 hc22 (Tt T hb'))))<|RQ.y rfl (Y.not (b':=(!y26)) rfl rfl)<|RQ.nil ?_
    intro w28 hb29
    have szw28:=hb29.size
    have T:=Tt T hb29
    refine then_n ?_
    rcases bcases y26 with c30|c30
    ·replace hm:=cF c30 hm
     refine cond_t rfl (vbn rfl c30 rfl)<|wp_seq<|wp_rs rfl<|RQ.y rfl (Y.assign (v:=.bool false) rfl)<|RQ.nil<|then_n<|wp_ret ?_
     obtain rfl:=sj hm
     exact (blk_r (then_r (then_r (hit_r (blk_r (then_r (ret1 rfl rfl rfl ⟨rfl,T⟩)))))))
    replace hm:=cT c30 hm
    refine cond_f rfl (vbn rfl c30 rfl)<|wp_skip ?_
    refine blk_n (then_n ?_)
    refine wp_rs rfl<|RQ.y rfl (Y.move (v:=.int .i64 i13) s6_2)<|RQ.y rfl (Y.binI rfl rfl (binI_add (m:=i13) (by omega)))<|RQ.y rfl (Y.assign (v:=.int .i64 (i13+1)) rfl)<|RQ.nil ?_
    exact (then_n ⟨g,_,Nat.lt_succ_self _,rfl,⟨(i13+1),s0_2,rfl,(by omega),T,(by rw [← hrec2]; exact hm)⟩⟩)
   rintro g f w33 ⟨i32,s0_1,s3_1,nn3_1,T,hm⟩
   rcases g with _|g
   ·simp only [m_spec_l20Signature_L1] at hm; cases hm
   obtain ⟨rec1,hrec1,hm⟩ :∃z,z=m_spec_l20Signature_L1 d0 K1 g∧m_spec_l20Signature_B1 d0 z K1 i32=some r:=⟨_,rfl,hm⟩
   unfold m_spec_l20Signature_B1 at hm
   refine wp_seq<|wp_seq<|wp_rs rfl<|RQ.y rfl (Y.move (v:=.int .i64 i32) s3_1)<|RQ.y rfl (Y.move (v:=.pointer (some ⟨ba0,oa0,none⟩)) s0_1)<|RQ.y rfl (Y.nilCheck rfl)<|RQ.y rfl (Y.fieldAddr (off:=0) rfl (by kernel_rfl))<|RQ.y rfl (Y.load (v:=.slice A1 d0.datas.length c1) rfl (by kernel_rfl) (eqC (cellT T (hca0 0 _ rfl))))<|RQ.y rfl (Y.len (by kernel_rfl) rfl)<|RQ.y rfl (Y.binI (v:=.bool (decide (i32 < (d0.datas.length:Int)))) rfl rfl rfl)<|RQ.nil<|then_n ?_
   rcases bcases (decide (i32 < (d0.datas.length:Int))) with c34|c34
   ·replace hm:=cF c34 hm
    have pc34:=of_decide_eq_false c34
    refine cond_f rfl (vb rfl c34)<|wp_exit ?_
    exact (then_x (then_x (hit_x ⟨_,rfl,⟨s0_1,T,(by rw [hK1] at hm; exact hm)⟩⟩)))
   replace hm:=cT c34 hm
   have pc34:=of_decide_eq_true c34
   refine cond_t rfl (vb rfl c34)<|wp_skip<|then_n<|wp_seq<|wp_block<|wp_seq<|wp_rs rfl<|RQ.y rfl (Y.assign (v:=.int .i64 0) rfl)<|RQ.nil<|then_n<|wp_block ?_
   obtain ⟨K3,hK3,hm⟩ :∃K,K=(m_spec_l20Signature_A3 rec1 i32)∧m_spec_l20Signature_L3 d0 i32 K (((getI d0.datas i32).getD default).cons.length+1) 0=some r:=⟨_,rfl,hm⟩
   refine wp_loopX (fun g f w'=>∃(i37:Int),f 0=.pointer (some ⟨ba0,oa0,none⟩)∧f 3=.int .i64 i32∧f 4=.int .i64 i37∧0≤i37∧Below w.heap.size w w'∧m_spec_l20Signature_L3 d0 i32 K3 g i37=some r) 2 (fun f w'=>f 0=.pointer (some ⟨ba0,oa0,none⟩)∧f 3=.int .i64 i32∧Below w.heap.size w w'∧m_spec_l20Signature_A3 rec1 i32  = some r) (((getI d0.datas i32).getD default).cons.length+1) ⟨0,s0_1,s3_1,rfl,(by omega),T,hm⟩ ?_ ?_
   ·rintro f w35 ⟨s0_3x,s3_3x,T,hm⟩
    unfold m_spec_l20Signature_A3 at hm
    refine blk_hit (blk_n (then_n ?_))
    refine wp_rs rfl<|RQ.y rfl (Y.move (v:=.int .i64 i32) s3_3x) ?_
    obtain ⟨s36,ks36,hm⟩:=bnd hm
    replace ks36:=ck_some ks36
    refine RQ.y rfl (Y.binI (v:=.int .i64 s36) rfl rfl (by rw [binI_add ks36.2,ks36.1]))<|RQ.y rfl (Y.assign (v:=.int .i64 s36) rfl)<|RQ.nil ?_
    exact (then_n ⟨g,_,Nat.lt_succ_self _,rfl,⟨s36,s0_3x,rfl,(by omega),T,(by rw [← hrec1]; exact hm)⟩⟩)
   rintro g f w38 ⟨i37,s0_3,s3_3,s4_3,nn4_3,T,hm⟩
   rcases g with _|g
   ·simp only [m_spec_l20Signature_L3] at hm; cases hm
   obtain ⟨rec3,hrec3,hm⟩ :∃z,z=m_spec_l20Signature_L3 d0 i32 K3 g∧m_spec_l20Signature_B3 d0 i32 z K3 i37=some r:=⟨_,rfl,hm⟩
   unfold m_spec_l20Signature_B3 at hm
   refine wp_seq<|wp_seq<|wp_rs rfl<|RQ.y rfl (Y.move (v:=.int .i64 i37) s4_3)<|RQ.y rfl (Y.move (v:=.pointer (some ⟨ba0,oa0,none⟩)) s0_3)<|RQ.y rfl (Y.nilCheck rfl)<|RQ.y rfl (Y.fieldAddr (off:=0) rfl (by kernel_rfl))<|RQ.y rfl (Y.load (v:=.slice A1 d0.datas.length c1) rfl (by kernel_rfl) (eqC (cellT T (hca0 0 _ rfl))))<|RQ.y rfl (Y.move (v:=.int .i64 i32) s3_3) ?_
   obtain ⟨x39,hx42,hm⟩:=bnd hm
   obtain ⟨k40,hk43,hl44,hx42⟩:=getI_some hx42
   obtain ⟨b46,o47,rfl,hbb46⟩:=h1.addr (by omega)
   obtain ⟨cs41,hRcs41,hc45⟩:=h1.el hx42
   have hScs41:=hRcs41
   obtain ⟨A48,n48,c48,rfl,⟨h48,r48⟩⟩:=hRcs41
   have e48:=h48.len; subst e48
   have q48:=len_le r48
   refine RQ.y rfl (Y.indexAddr (m:=k40) (sz:=2) rfl rfl hk43 hl44 (by kernel_rfl))<|RQ.y rfl (Y.fieldAddr (off:=1) rfl (by kernel_rfl))<|RQ.y rfl (Y.load (v:=.slice A48 x39.cons.length c48) rfl (by kernel_rfl) (eqC (cellT T (hc45 1 _ rfl))))<|RQ.y rfl (Y.len (by kernel_rfl) rfl)<|RQ.y rfl (Y.binI (v:=.bool (decide (i37 < (x39.cons.length:Int)))) rfl rfl rfl)<|RQ.nil<|then_n ?_
   rcases bcases (decide (i37 < (x39.cons.length:Int))) with c49|c49
   ·replace hm:=cF c49 hm
    have pc49:=of_decide_eq_false c49
    refine cond_f rfl (vb rfl c49)<|wp_exit ?_
    exact (then_x (then_x (hit_x ⟨_,rfl,⟨s0_3,s3_3,T,(by rw [hK3] at hm; exact hm)⟩⟩)))
   replace hm:=cT c49 hm
   have pc49:=of_decide_eq_true c49
   refine cond_t rfl (vb rfl c49)<|wp_skip<|then_n<|wp_seq<|wp_block<|wp_seq<|wp_rs rfl<|RQ.y rfl (Y.assign (v:=.int .i64 0) rfl)<|RQ.nil<|then_n<|wp_block ?_
   obtain ⟨K4,hK4,hm⟩ :∃K,K=(m_spec_l20Signature_A4 rec3 i37)∧m_spec_l20Signature_L4 d0 i32 i37 K (((getI (((getI d0.datas i32).getD default).cons) i37).getD default).fields.length+1) 0=some r:=⟨_,rfl,hm⟩
   refine wp_loopX (fun g f w'=>∃(i52:Int),f 0=.pointer (some ⟨ba0,oa0,none⟩)∧f 3=.int .i64 i32∧f 4=.int .i64 i37∧f 5=.int .i64 i52∧0≤i52∧Below w.heap.size w w'∧m_spec_l20Signature_L4 d0 i32 i37 K4 g i52=some r) 4 (fun f w'=>f 0=.pointer (some ⟨ba0,oa0,none⟩)∧f 3=.int .i64 i32∧f 4=.int .i64 i37∧Below w.heap.size w w'∧m_spec_l20Signature_A4 rec3 i37  = some r) (((getI (((getI d0.datas i32).getD default).cons) i37).getD default).fields.length+1) ⟨0,s0_3,s3_3,s4_3,rfl,(by omega),T,hm⟩ ?_ ?_
   ·rintro f w50 ⟨s0_4x,s3_4x,s4_4x,T,hm⟩
    unfold m_spec_l20Signature_A4 at hm
    refine blk_hit (blk_n (then_n ?_))
    refine wp_rs rfl<|RQ.y rfl (Y.move (v:=.int .i64 i37) s4_4x) ?_
    obtain ⟨s51,ks51,hm⟩:=bnd hm
    replace ks51:=ck_some ks51
    refine RQ.y rfl (Y.binI (v:=.int .i64 s51) rfl rfl (by rw [binI_add ks51.2,ks51.1]))<|RQ.y rfl (Y.assign (v:=.int .i64 s51) rfl)<|RQ.nil ?_
    exact (then_n ⟨g,_,Nat.lt_succ_self _,rfl,⟨s51,s0_4x,s3_4x,rfl,(by omega),T,(by rw [← hrec3]; exact hm)⟩⟩)
   rintro g f w53 ⟨i52,s0_4,s3_4,s4_4,s5_4,nn5_4,T,hm⟩
   rcases g with _|g
   ·simp only [m_spec_l20Signature_L4] at hm; cases hm
   obtain ⟨rec4,hrec4,hm⟩ :∃z,z=m_spec_l20Signature_L4 d0 i32 i37 K4 g∧m_spec_l20Signature_B4 d0 i32 i37 z K4 i52=some r:=⟨_,rfl,hm⟩
   unfold m_spec_l20Signature_B4 at hm
   refine wp_seq<|wp_seq<|wp_rs rfl<|RQ.y rfl (Y.move (v:=.int .i64 i52) s5_4)<|RQ.y rfl (Y.move (v:=.pointer (some ⟨ba0,oa0,none⟩)) s0_4)<|RQ.y rfl (Y.nilCheck rfl)<|RQ.y rfl (Y.fieldAddr (off:=0) rfl (by kernel_rfl))<|RQ.y rfl (Y.load (v:=.slice (some ⟨b46,o47,none⟩) d0.datas.length c1) rfl (by kernel_rfl) (eqC (cellT T (hca0 0 _ rfl))))<|RQ.y rfl (Y.move (v:=.int .i64 i32) s3_4) ?_
   obtain ⟨x54,hx57,hm⟩:=bnd hm
   obtain ⟨k55,hk58,hl59,hx57⟩:=getI_some hx57
   obtain ⟨cs56,hRcs56,hc60⟩:=h1.el hx57
   have hScs56:=hRcs56
   obtain ⟨A61,n61,c61,rfl,⟨h61,r61⟩⟩:=hRcs56
   have e61:=h61.len; subst e61
   have q61:=len_le r61
   refine RQ.y rfl (Y.indexAddr (m:=k55) (sz:=2) rfl rfl hk58 hl59 (by kernel_rfl))<|RQ.y rfl (Y.fieldAddr (off:=1) rfl (by kernel_rfl))<|RQ.y rfl (Y.load (v:=.slice A61 x54.cons.length c61) rfl (by kernel_rfl) (eqC (cellT T (hc60 1 _ rfl))))<|RQ.y rfl (Y.move (v:=.int .i64 i37) s4_4) ?_
   obtain ⟨x62,hx65,hm⟩:=bnd hm
   obtain ⟨k63,hk66,hl67,hx65⟩:=getI_some hx65
   obtain ⟨b69,o70,rfl,hbb69⟩:=h61.addr (by omega)
   obtain ⟨cs64,hRcs64,hc68⟩:=h61.el hx65
   have hScs64:=hRcs64
   obtain ⟨A71,n71,c71,rfl,⟨h71,r71⟩⟩:=hRcs64
   have e71:=h71.len; subst e71
   have q71:=len_le r71
   refine RQ.y rfl (Y.indexAddr (m:=k63) (sz:=2) rfl rfl hk66 hl67 (by kernel_rfl))<|RQ.y rfl (Y.fieldAddr (off:=1) rfl (by kernel_rfl))<|RQ.y rfl (Y.load (v:=.slice A71 x62.fields.length c71) rfl (by kernel_rfl) (eqC (cellT T (hc68 1 _ rfl))))<|RQ.y rfl (Y.len (by kernel_rfl) rfl)<|RQ.y rfl (Y.binI (v:=.bool (decide (i52 < (x62.fields.length:Int)))) rfl rfl rfl)<|RQ.nil<|then_n ?_
   rcases bcases (decide (i52 < (x62.fields.length:Int))) with c72|c72
   ·replace hm:=cF c72 hm
    have pc72:=of_decide_eq_false c72
    refine cond_f rfl (vb rfl c72)<|wp_exit ?_
    exact (then_x (then_x (hit_x ⟨_,rfl,⟨s0_4,s3_4,s4_4,T,(by rw [hK4] at hm; exact hm)⟩⟩)))
   replace hm:=cT c72 hm
   have pc72:=of_decide_eq_true c72
   refine cond_t rfl (vb rfl c72)<|wp_skip<|then_n<|wp_seq<|wp_block<|wp_seq<|wp_rbd (by kernel_rfl) (by kernel_rfl)<|RQ.y rfl (Y.move (v:=.pointer (some ⟨ba0,oa0,none⟩)) s0_4)<|RQ.y rfl (Y.nilCheck rfl)<|RQ.y rfl (Y.fieldAddr (off:=0) rfl (by kernel_rfl))<|RQ.y rfl (Y.load (v:=.slice (some ⟨b46,o47,none⟩) d0.datas.length c1) rfl (by kernel_rfl) (beC (cellT T (hca0 0 _ rfl))))<|RQ.y rfl (Y.move (v:=.pointer (some ⟨ba0,oa0,none⟩)) s0_4)<|RQ.y rfl (Y.nilCheck rfl)<|RQ.y rfl (Y.fieldAddr (off:=0) rfl (by kernel_rfl))<|RQ.y rfl (Y.load (v:=.slice (some ⟨b46,o47,none⟩) d0.datas.length c1) rfl (by kernel_rfl) (beC (cellT T (hca0 0 _ rfl))))<|RQ.y rfl (Y.move (v:=.int .i64 i32) s3_4) ?_
   obtain ⟨x73,hx76,hm⟩:=bnd hm
   obtain ⟨k74,hk77,hl78,hx76⟩:=getI_some hx76
   obtain ⟨cs75,hRcs75,hc79⟩:=h1.el hx76
   have hScs75:=hRcs75
   obtain ⟨A80,n80,c80,rfl,⟨h80,r80⟩⟩:=hRcs75
   have e80:=h80.len; subst e80
   have q80:=len_le r80
   refine RQ.y rfl (Y.indexAddr (m:=k74) (sz:=2) rfl rfl hk77 hl78 (by kernel_rfl))<|RQ.y rfl (Y.fieldAddr (off:=1) rfl (by kernel_rfl))<|RQ.y rfl (Y.load (v:=.slice A80 x73.cons.length c80) rfl (by kernel_rfl) (beC (cellT T (hc79 1 _ rfl))))<|RQ.y rfl (Y.move (v:=.int .i64 i37) s4_4) ?_
   obtain ⟨x81,hx84,hm⟩:=bnd hm
   obtain ⟨k82,hk85,hl86,hx84⟩:=getI_some hx84
   obtain ⟨b88,o89,rfl,hbb88⟩:=h80.addr (by omega)
   obtain ⟨cs83,hRcs83,hc87⟩:=h80.el hx84
   have hScs83:=hRcs83
   obtain ⟨A90,n90,c90,rfl,⟨h90,r90⟩⟩:=hRcs83
   have e90:=h90.len; subst e90
   have q90:=len_le r90
   refine RQ.y rfl (Y.indexAddr (m:=k82) (sz:=2) rfl rfl hk85 hl86 (by kernel_rfl))<|RQ.y rfl (Y.fieldAddr (off:=1) rfl (by kernel_rfl))<|RQ.y rfl (Y.load (v:=.slice A90 x81.fields.length c90) rfl (by kernel_rfl) (beC (cellT T (hc87 1 _ rfl))))<|RQ.y rfl (Y.move (v:=.int .i64 i52) s5_4) ?_
   obtain ⟨x91,hx94,hm⟩:=bnd hm
   obtain ⟨k92,hk95,hl96,hx94⟩:=getI_some hx94
   obtain ⟨b98,o99,rfl,hbb98⟩:=h90.addr (by omega)
   obtain ⟨cs93,hRcs93,hc97⟩:=h90.el hx94
   have hScs93:=hRcs93
   obtain ⟨A100,n100,c100,rfl,⟨h100,r100⟩⟩:=(typeRd_out hRcs93)
   have e100:=h100.len; subst e100
   have q100:=len_le r100
   refine RQ.y rfl (Y.indexAddr (m:=k92) (sz:=3) rfl rfl hk95 hl96 (by kernel_rfl)) ?_
   obtain ⟨y101,e102,hm⟩:=bnd hm
   refine RQ.call rfl (am2 rfl rfl) (by kernel_rfl) (v:=.bool y101) (bel (K:=fun _=>True) fun w' hb'=>(c_m_spec_l20Simple (SizeOf.sizeOf x91) d0.datas x91 _ e102 _ _ w' (slArg dataRd_ok h1 r1 (Tt T hb')) (ptArg typeRd_ok hbb98 hScs93 hc97 (Tt T hb'))))<|RQ.y rfl (Y.not (b':=(!y101)) rfl rfl)<|RQ.nil ?_
   intro w103 hb104
   have szw103:=hb104.size
   have T:=Tt T hb104
   refine then_n ?_
   rcases bcases y101 with c105|c105
   ·replace hm:=cF c105 hm
    refine cond_t rfl (vbn rfl c105 rfl)<|wp_seq<|wp_rs rfl<|RQ.y rfl (Y.assign (v:=.bool false) rfl)<|RQ.nil<|then_n<|wp_ret ?_
    obtain rfl:=sj hm
    exact (blk_r (then_r (then_r (hit_r (blk_r (blk_r (then_r (then_r (hit_r (blk_r (blk_r (then_r (then_r (hit_r (blk_r (then_r (ret1 rfl rfl rfl ⟨rfl,T⟩)))))))))))))))))
   replace hm:=cT c105 hm
   refine cond_f rfl (vbn rfl c105 rfl)<|wp_skip ?_
   refine blk_n (then_n ?_)
   refine wp_rs rfl<|RQ.y rfl (Y.move (v:=.int .i64 i52) s5_4)<|RQ.y rfl (Y.binI rfl rfl (binI_add (m:=i52) (by omega)))<|RQ.y rfl (Y.assign (v:=.int .i64 (i52+1)) rfl)<|RQ.nil ?_
   exact (then_n ⟨g,_,Nat.lt_succ_self _,rfl,⟨(i52+1),s0_4,s3_4,s4_4,rfl,(by omega),T,(by rw [← hrec4]; exact hm)⟩⟩)
  replace hm:=cT c10 hm
  have pc10:=of_decide_eq_true c10
  refine cond_t rfl (vb rfl c10)<|wp_seq<|wp_rs rfl<|RQ.y rfl (Y.assign (v:=.bool false) rfl)<|RQ.nil<|then_n<|wp_ret ?_
  obtain rfl:=sj hm
  exact (then_r (ret1 rfl rfl rfl ⟨rfl,T⟩))
end
end Go.Proofs.YtpbobilkejblgaaGreat
