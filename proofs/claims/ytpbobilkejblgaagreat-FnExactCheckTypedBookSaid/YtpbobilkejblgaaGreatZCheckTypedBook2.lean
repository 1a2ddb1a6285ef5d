/- Lemmas of the proof of CheckTypedBook, part 2. No condition. -/
import Derived.Test.YtpbobilkejblgaaGreatZCheckTypedBook1
namespace Go.Proofs.YtpbobilkejblgaaGreat
set_option linter.unusedVariables false
set_option linter.unusedSimpArgs false
section
open Go.RowKit
set_option maxRecDepth 100000
def m_impl_Net_ports_A1 (xs2:List DPort):Option (List DPort):=
  some xs2
def m_impl_Net_ports_A2 (rec1:List DPort→Int→Option (List DPort)) (i5:Int) (xs26:List DPort):Option (List DPort):=
  ((ck (i5+1)).bind fun s28=>(rec1 xs26 s28))
def m_impl_Net_ports_B2 (i5:Int) (x8:DAgent) (rec2:List DPort→Int→Option (List DPort)) (K2:List DPort→Option (List DPort)) (xs29:List DPort) (i30:Int):Option (List DPort):=
  (bif (decide (i30 < (x8.ports.length:Int))) then ((mustP (xs29.length+([(⟨i5,i30⟩:DPort)]).length≤4294967296)).bind fun _=>(rec2 (xs29 ++ [(⟨i5,i30⟩:DPort)]) (i30+1))) else (K2 xs29))
def m_impl_Net_ports_L2 (i5:Int) (x8:DAgent) (K2:List DPort→Option (List DPort)):Nat→List DPort→Int→Option (List DPort)
  |0,_,_=>none
  |g+1,xs29,i30=>m_impl_Net_ports_B2 i5 x8 (m_impl_Net_ports_L2 i5 x8 K2 g) K2 xs29 i30
def m_impl_Net_ports_B1 (d0:DNet) (rec1:List DPort→Int→Option (List DPort)) (K1:List DPort→Option (List DPort)) (xs4:List DPort) (i5:Int):Option (List DPort):=
  (bif (decide (i5 < (d0.agents.length:Int))) then ((getI d0.agents i5).bind fun x8=>(m_impl_Net_ports_L2 i5 x8 (m_impl_Net_ports_A2 rec1 i5) (x8.ports.length+1) xs4 0)) else (K1 xs4))
def m_impl_Net_ports_L1 (d0:DNet) (K1:List DPort→Option (List DPort)):Nat→List DPort→Int→Option (List DPort)
  |0,_,_=>none
  |g+1,xs4,i5=>m_impl_Net_ports_B1 d0 (m_impl_Net_ports_L1 d0 K1 g) K1 xs4 i5
def m_impl_Net_ports (d0:DNet):Option (List DPort):=
  (m_impl_Net_ports_L1 d0 m_impl_Net_ports_A1 (d0.agents.length+1) ([] : List DPort) 0)
set_option maxHeartbeats 2000000 in
theorem c_m_impl_Net_ports (d0:DNet) (r:List DPort) (hm:m_impl_Net_ports d0=some r) (v0:Value) (w:World) (hv0:Pt netRd w v0 d0) :
    Calls Tryz.prog 98 #[v0] w fun e w'=>(∃v,e=.returned v∧OwF 161 encPort 2 w' w.heap.size v r)∧Below w.heap.size w w':=by
  obtain ⟨ba0,oa0,csa0,rfl,hba0,hRa0,hca0⟩:=hv0
  have hSa0:=hRa0
  obtain ⟨A1,n1,c1,rfl,⟨h1,r1⟩⟩:=hRa0
  have e1:=h1.len; subst e1
  have q1:=len_le r1
  have T:=Below.refl w.heap.size w
  unfold m_impl_Net_ports at hm
  refine enter 32 Tryz.func98 rfl rfl rfl ?_
  intro f hf
  have s0:f 0=.pointer (some ⟨ba0,oa0,none⟩):=hf 0 _ rfl
  refine wp_seq<|wp_rs rfl<|RQ.y rfl (Y.assign (v:=.slice none 0 0) rfl)<|RQ.nil<|then_n<|wp_seq<|wp_rs rfl<|RQ.y rfl (Y.assign (v:=.slice none 0 0) rfl)<|RQ.nil<|then_n<|wp_seq<|wp_seq<|wp_rs rfl<|RQ.y rfl (Y.move (v:=.pointer (some ⟨ba0,oa0,none⟩)) s0)<|RQ.y rfl (Y.nilCheck rfl)<|RQ.y rfl (Y.fieldAddr (off:=0) rfl (by kernel_rfl))<|RQ.y rfl (Y.load (v:=.slice A1 d0.agents.length c1) rfl (by kernel_rfl) (eqC (cellT T (hca0 0 _ rfl))))<|RQ.y rfl (Y.len (by kernel_rfl) rfl)<|RQ.y rfl (Y.move (v:=.int .i64 0) rfl)<|RQ.nil<|then_n<|wp_block ?_
  have G50:OwF 161 encPort 2 w w.heap.size (.slice none 0 0) ([] : List DPort):=OwF.nil
  obtain ⟨K1,hK1,hm⟩ :∃K,K=m_impl_Net_ports_A1∧m_impl_Net_ports_L1 d0 K (d0.agents.length+1) ([] : List DPort) 0=some r:=⟨_,rfl,hm⟩
  refine wp_loopX (fun g f w'=>∃(xs4:List DPort) (i5:Int) (uxs4:Value),f 10=.slice A1 d0.agents.length c1∧f 11=.int .i64 (d0.agents.length:Int)∧f 3=uxs4∧OwF 161 encPort 2 w' w.heap.size uxs4 xs4∧f 12=.int .i64 i5∧0≤i5∧Below w.heap.size w w'∧m_impl_Net_ports_L1 d0 K1 g xs4 i5=some r) 0 (fun f w'=>∃(xs2:List DPort) (uxs2:Value),f 3=uxs2∧OwF 161 encPort 2 w' w.heap.size uxs2 xs2∧Below w.heap.size w w'∧m_impl_Net_ports_A1 xs2=some r) (d0.agents.length+1) ⟨([] : List DPort),0,((.slice none 0 0)),rfl,rfl,rfl,G50,rfl,(by omega),T,hm⟩ ?_ ?_
  ·rintro f w3 ⟨xs2,uxs2,s3_1x,Gxs2,T,hm⟩
   unfold m_impl_Net_ports_A1 at hm
   refine blk_hit (then_n ?_)
   refine wp_seq<|wp_rs rfl<|RQ.y rfl (Y.move (v:=uxs2) s3_1x)<|RQ.y rfl (Y.assign (v:=uxs2) rfl)<|RQ.nil<|then_n<|wp_ret ?_
   obtain rfl:=sj hm
   exact (ret1 rfl rfl rfl ⟨⟨_,rfl,Gxs2⟩,T⟩)
  rintro g f w6 ⟨xs4,i5,uxs4,s10_1,s11_1,s3_1,Gxs4,s12_1,nn12_1,T,hm⟩
  rcases g with _|g
  ·simp only [m_impl_Net_ports_L1] at hm; cases hm
  obtain ⟨rec1,hrec1,hm⟩ :∃z,z=m_impl_Net_ports_L1 d0 K1 g∧m_impl_Net_ports_B1 d0 z K1 xs4 i5=some r:=⟨_,rfl,hm⟩
  unfold m_impl_Net_ports_B1 at hm
  refine wp_seq<|wp_rs rfl<|RQ.y rfl (Y.binI (v:=.bool (decide (i5 < (d0.agents.length:Int)))) s12_1 s11_1 rfl)<|RQ.nil<|then_n<|wp_seq ?_
  rcases bcases (decide (i5 < (d0.agents.length:Int))) with c7|c7
  ·replace hm:=cF c7 hm
   have pc7:=of_decide_eq_false c7
   refine cond_f rfl (vb rfl c7)<|wp_exit ?_
   exact (then_x (then_x (hit_x ⟨_,rfl,⟨xs4,(uxs4),s3_1,Gxs4,T,(by rw [hK1] at hm; exact hm)⟩⟩)))
  replace hm:=cT c7 hm
  have pc7:=of_decide_eq_true c7
  refine cond_t rfl (vb rfl c7)<|wp_skip<|then_n<|wp_seq<|wp_block<|wp_seq<|wp_rl rfl<|RL.y rfl (Y.move (v:=.int .i64 i5) s12_1) ?_
  obtain ⟨x8,hx11,hm⟩:=bnd hm
  obtain ⟨k9,hk12,hl13,hx11⟩:=getI_some hx11
  obtain ⟨b15,o16,rfl,hbb15⟩:=h1.addr (by omega)
  obtain ⟨cs10,hRcs10,hc14⟩:=h1.el hx11
  have hScs10:=hRcs10
  obtain ⟨A17,n17,c17,A18,n18,c18,rfl,⟨h17,r17⟩,⟨h18,r18⟩⟩:=hRcs10
  have e17:=h17.len; subst e17
  have q17:=len_le r17
  have e18:=h18.len; subst e18
  have q18:=len_le r18
  refine RL.y rfl (Y.indexAddr (m:=k9) (sz:=5) s10_1 s12_1 hk12 hl13 (by kernel_rfl))<|RL.y rfl (Y.loadN (cs:=[.int .i64 x8.kind,.int .i64 x8.level,.int .i64 x8.value,.slice A17 x8.data.length c17,.slice A18 x8.ports.length c18]) rfl (by kernel_rfl) (cells5 (eqC (cellT T (hc14 0 _ rfl))) (eqC (cellT T (hc14 1 _ rfl))) (eqC (cellT T (hc14 2 _ rfl))) (eqC (cellT T (hc14 3 _ rfl))) (eqC (cellT T (hc14 4 _ rfl))))) ?_
  refine RL.alloc (z:=.agg #[.int .i64 0,.int .i64 0,.int .i64 0,.slice none 0 0,.slice none 0 0]) rfl (by kernel_rfl) (fun w19 B20 hb21 szw19=>?_)
  replace B20:Blk w19 w6.heap.size 159 #[.int .i64 0,.int .i64 0,.int .i64 0,.slice none 0 0,.slice none 0 0]:=B20
  have GB20:w.heap.size≤w6.heap.size:=T.size
  have Noxs4_ob22:=OwF.far Gxs4 (Nat.le_refl _)
  have Gxs4:=OwF.below Gxs4 hb21
  have T:=Tt T hb21
  refine RL.y rfl (Y.assign (v:=.int .i64 i5) rfl) ?_
  refine RL.store (v:=.agg #[.int .i64 x8.kind,.int .i64 x8.level,.int .i64 x8.value,.slice A17 x8.data.length c17,.slice A18 x8.ports.length c18]) (cs':=#[.int .i64 x8.kind,.int .i64 x8.level,.int .i64 x8.value,.slice A17 x8.data.length c17,.slice A18 x8.ports.length c18]) rfl rfl rfl B20 (by kernel_rfl) (by rfl) (by rfl) (by rfl) (fun w23 B24 ho25=>?_)
  have szw23:=ho25.size
  have Gxs4:=OwF.only Gxs4 ho25 Noxs4_ob22
  have T:=T.trans (ho25.below (by simp; omega))
  refine RL.nil<|then_n<|wp_seq<|wp_rs rfl<|RQ.y rfl (Y.fieldAddr (off:=4) rfl (by kernel_rfl))<|RQ.y rfl (Y.load (v:=.slice A18 x8.ports.length c18) rfl (by kernel_rfl) (eqC (blkCell B24 (i:=4) rfl)))<|RQ.y rfl (Y.len (by kernel_rfl) rfl)<|RQ.y rfl (Y.move (v:=.int .i64 0) rfl)<|RQ.nil<|then_n<|wp_block ?_
  obtain ⟨K2,hK2,hm⟩ :∃K,K=(m_impl_Net_ports_A2 rec1 i5)∧m_impl_Net_ports_L2 i5 x8 K (x8.ports.length+1) xs4 0=some r:=⟨_,rfl,hm⟩
  refine wp_loopX (fun g f w'=>∃(xs29:List DPort) (i30:Int) (uxs29:Value),f 4=.int .i64 i5∧f 10=.slice (some ⟨b15,o16,none⟩) d0.agents.length c1∧f 11=.int .i64 (d0.agents.length:Int)∧f 12=.int .i64 i5∧f 19=.int .i64 (x8.ports.length:Int)∧f 3=uxs29∧OwF 161 encPort 2 w' w.heap.size uxs29 xs29∧f 20=.int .i64 i30∧0≤i30∧Below w.heap.size w w'∧m_impl_Net_ports_L2 i5 x8 K2 g xs29 i30=some r) 2 (fun f w'=>∃(xs26:List DPort) (uxs26:Value),f 10=.slice (some ⟨b15,o16,none⟩) d0.agents.length c1∧f 11=.int .i64 (d0.agents.length:Int)∧f 12=.int .i64 i5∧f 3=uxs26∧OwF 161 encPort 2 w' w.heap.size uxs26 xs26∧Below w.heap.size w w'∧m_impl_Net_ports_A2 rec1 i5 xs26=some r) (x8.ports.length+1) ⟨xs4,0,(uxs4),rfl,s10_1,s11_1,s12_1,rfl,s3_1,Gxs4,rfl,(by omega),T,hm⟩ ?_ ?_
  ·rintro f w27 ⟨xs26,uxs26,s10_2x,s11_2x,s12_2x,s3_2x,Gxs26,T,hm⟩
   unfold m_impl_Net_ports_A2 at hm
   refine blk_hit (blk_n (then_n ?_))
   refine wp_rs rfl ?_
   obtain ⟨s28,ks28,hm⟩:=bnd hm
   replace ks28:=ck_some ks28
   refine RQ.y rfl (Y.binI (v:=.int .i64 s28) s12_2x rfl (by rw [binI_add ks28.2,ks28.1]))<|RQ.y rfl (Y.move (v:=.int .i64 s28) rfl)<|RQ.nil ?_
   exact (then_n ⟨g,_,Nat.lt_succ_self _,rfl,⟨xs26,s28,(uxs26),s10_2x,s11_2x,s3_2x,Gxs26,rfl,(by omega),T,(by rw [← hrec1]; exact hm)⟩⟩)
  rintro g f w31 ⟨xs29,i30,uxs29,s4_2,s10_2,s11_2,s12_2,s19_2,s3_2,Gxs29,s20_2,nn20_2,T,hm⟩
  rcases g with _|g
  ·simp only [m_impl_Net_ports_L2] at hm; cases hm
  obtain ⟨rec2,hrec2,hm⟩ :∃z,z=m_impl_Net_ports_L2 i5 x8 K2 g∧m_impl_Net_ports_B2 i5 x8 z K2 xs29 i30=some r:=⟨_,rfl,hm⟩
  unfold m_impl_Net_ports_B2 at hm
  refine wp_seq<|wp_rs rfl<|RQ.y rfl (Y.binI (v:=.bool (decide (i30 < (x8.ports.length:Int)))) s20_2 s19_2 rfl)<|RQ.nil<|then_n<|wp_seq ?_
  rcases bcases (decide (i30 < (x8.ports.length:Int))) with c32|c32
  ·replace hm:=cF c32 hm
   have pc32:=of_decide_eq_false c32
   refine cond_f rfl (vb rfl c32)<|wp_exit ?_
   exact (then_x (then_x (hit_x ⟨_,rfl,⟨xs29,(uxs29),s10_2,s11_2,s12_2,s3_2,Gxs29,T,(by rw [hK2] at hm; exact hm)⟩⟩)))
  replace hm:=cT c32 hm
  have pc32:=of_decide_eq_true c32
  refine cond_t rfl (vb rfl c32)<|wp_skip<|then_n<|wp_seq<|wp_block<|wp_seq<|wp_rs rfl<|RQ.y rfl (Y.move (v:=.int .i64 i30) s20_2)<|RQ.y rfl (Y.assign (v:=.int .i64 i30) rfl)<|RQ.nil<|then_n<|wp_rl rfl<|RL.y rfl (Y.move (v:=uxs29) s3_2)<|RL.y rfl (Y.move (v:=.int .i64 i5) s4_2)<|RL.y rfl (Y.move (v:=.int .i64 i30) rfl)<|RL.y rfl (Y.build2 (cells:=#[.int .i64 i5,.int .i64 i30]) rfl rfl (by kernel_rfl) (by kernel_rfl)) ?_
  refine RL.bslice (e:=161) (cells:=#[.int .i64 i5,.int .i64 i30]) rfl (pm1 rfl) (by kernel_rfl) (fun w33 B34 hb35 szw33=>?_)
  have ZB34:w.heap.size≤w31.heap.size:=T.size
  have Do36_oxs29:=Dj.new (v:=.slice (some ⟨w31.heap.size,0,none⟩) 1 1) litGe (OwF.hi Gxs29)
  have Gxs29:=OwF.below Gxs29 hb35
  have T:=Tt T hb35
  have G37:=OwF.lit (enc:=encPort) (sz:=2) (xs:=[(⟨i5,i30⟩:DPort)]) B34 ZB34 rfl rfl rfl rfl
  obtain ⟨_,m39,hm⟩:=bnd hm
  have hk40:=mustP_some m39
  refine RL.append fPort app_impl_Port rfl rfl rfl Gxs29 (OwF.arg fPort G37) T.size hk40 (fun v41 w42 G43 hgr44 hbl45 hnb46=>?_)
  have szw42:=hbl45.size
  have T:=T.trans hbl45
  refine RL.y rfl (Y.assign (v:=v41) rfl)<|RL.nil ?_
  refine blk_n (then_n ?_)
  refine wp_rs rfl<|RQ.y rfl (Y.binI s20_2 rfl (binI_add (m:=i30) (by omega)))<|RQ.y rfl (Y.move (v:=.int .i64 (i30+1)) rfl)<|RQ.nil ?_
  exact (then_n ⟨g,_,Nat.lt_succ_self _,rfl,⟨(xs29 ++ [(⟨i5,i30⟩:DPort)]),(i30+1),(v41),s4_2,s10_2,s11_2,s12_2,s19_2,rfl,G43,rfl,(by omega),T,(by rw [← hrec2]; exact hm)⟩⟩)
end
section
open Go.RowKit
set_option maxRecDepth 100000
def m_slices_IndexFunc_impl_Port_impl_Port_A1:Option Int:=
  some (-1)
def m_slices_IndexFunc_impl_Port_impl_Port_B1 (d0:List DPort) (d1:DPort→Option Bool) (rec1:Int→Option Int) (K1:Option Int) (i2:Int):Option Int:=
  (bif (decide (i2 < (d0.length:Int))) then ((getI d0 i2).bind fun x5=>((d1 x5).bind fun y14=>(bif y14 then some i2 else (rec1 (i2+1))))) else (K1))
def m_slices_IndexFunc_impl_Port_impl_Port_L1 (d0:List DPort) (d1:DPort→Option Bool) (K1:Option Int):Nat→Int→Option Int
  |0,_=>none
  |g+1,i2=>m_slices_IndexFunc_impl_Port_impl_Port_B1 d0 d1 (m_slices_IndexFunc_impl_Port_impl_Port_L1 d0 d1 K1 g) K1 i2
def m_slices_IndexFunc_impl_Port_impl_Port (d0:List DPort) (d1:DPort→Option Bool):Option Int:=
  (m_slices_IndexFunc_impl_Port_impl_Port_L1 d0 d1 m_slices_IndexFunc_impl_Port_impl_Port_A1 (d0.length+1) 0)
set_option maxHeartbeats 2000000 in
theorem c_m_slices_IndexFunc_impl_Port_impl_Port (d0:List DPort) (d1:DPort→Option Bool) (r:Int) (hm:m_slices_IndexFunc_impl_Port_impl_Port d0 d1=some r) (v0:Value) (gf1:FuncId) (caps1:Array Value) (w:World) (hv0:Sl portRd 2 w v0 d0) (hgo1:isGo Tryz.prog gf1=true) (hf1 :∀(x0:DPort) (b:Bool),d1 x0=some b→∀w1,Below w.heap.size w w1→Calls Tryz.prog gf1 (#[.agg #[.int .i64 x0.agent,.int .i64 x0.slot]] ++ caps1) w1 fun e w2=>e=.returned (.bool b)∧Below w1.heap.size w1 w2) :
    Calls Tryz.prog 210 #[v0,.func (.func gf1) #[] caps1] w fun e w'=>e=.returned (.int .i64 r)∧Below w.heap.size w w':=by
  obtain ⟨Aa0,na0,ca0,rfl,ha0,ra0⟩:=hv0
  have ea0:=ha0.len; subst ea0
  have qa0:=len_le ra0
  have T:=Below.refl w.heap.size w
  unfold m_slices_IndexFunc_impl_Port_impl_Port at hm
  refine enter 19 Tryz.func210 rfl rfl rfl ?_
  intro f hf
  have s0:f 0=.slice Aa0 d0.length ca0:=hf 0 _ rfl
  have s1:f 1=.func (.func gf1) #[] caps1:=hf 1 _ rfl
  refine wp_seq<|wp_rs rfl<|RQ.y rfl (Y.assign (v:=.int .i64 0) rfl)<|RQ.nil<|then_n<|wp_seq<|wp_seq<|wp_rs rfl<|RQ.y rfl (Y.move (v:=.slice Aa0 d0.length ca0) s0)<|RQ.y rfl (Y.len (by kernel_rfl) rfl)<|RQ.y rfl (Y.move (v:=.int .i64 0) rfl)<|RQ.nil<|then_n<|wp_block ?_
  obtain ⟨K1,hK1,hm⟩ :∃K,K=m_slices_IndexFunc_impl_Port_impl_Port_A1∧m_slices_IndexFunc_impl_Port_impl_Port_L1 d0 d1 K (d0.length+1) 0=some r:=⟨_,rfl,hm⟩
  refine wp_loopX (fun g f w'=>∃(i2:Int),f 0=.slice Aa0 d0.length ca0∧f 1=.func (.func gf1) #[] caps1∧f 7=.int .i64 (d0.length:Int)∧f 8=.int .i64 i2∧0≤i2∧Below w.heap.size w w'∧m_slices_IndexFunc_impl_Port_impl_Port_L1 d0 d1 K1 g i2=some r) 0 (fun f w'=>Below w.heap.size w w'∧m_slices_IndexFunc_impl_Port_impl_Port_A1  = some r) (d0.length+1) ⟨0,s0,s1,rfl,rfl,(by omega),T,hm⟩ ?_ ?_
  ·rintro f w1 ⟨T,hm⟩
   unfold m_slices_IndexFunc_impl_Port_impl_Port_A1 at hm
   refine blk_hit (then_n ?_)
   refine wp_seq<|wp_rs rfl<|RQ.y rfl (Y.assign (v:=.int .i64 (-1)) rfl)<|RQ.nil<|then_n<|wp_ret ?_
   obtain rfl:=sj hm
   exact (ret1 rfl rfl rfl ⟨rfl,T⟩)
  rintro g f w3 ⟨i2,s0_1,s1_1,s7_1,s8_1,nn8_1,T,hm⟩
  rcases g with _|g
  ·simp only [m_slices_IndexFunc_impl_Port_impl_Port_L1] at hm; cases hm
  obtain ⟨rec1,hrec1,hm⟩ :∃z,z=m_slices_IndexFunc_impl_Port_impl_Port_L1 d0 d1 K1 g∧m_slices_IndexFunc_impl_Port_impl_Port_B1 d0 d1 z K1 i2=some r:=⟨_,rfl,hm⟩
  unfold m_slices_IndexFunc_impl_Port_impl_Port_B1 at hm
  refine wp_seq<|wp_rs rfl<|RQ.y rfl (Y.binI (v:=.bool (decide (i2 < (d0.length:Int)))) s8_1 s7_1 rfl)<|RQ.nil<|then_n<|wp_seq ?_
  rcases bcases (decide (i2 < (d0.length:Int))) with c4|c4
  ·replace hm:=cF c4 hm
   have pc4:=of_decide_eq_false c4
   refine cond_f rfl (vb rfl c4)<|wp_exit ?_
   exact (then_x (then_x (hit_x ⟨_,rfl,⟨T,(by rw [hK1] at hm; exact hm)⟩⟩)))
  replace hm:=cT c4 hm
  have pc4:=of_decide_eq_true c4
  refine cond_t rfl (vb rfl c4)<|wp_skip<|then_n<|wp_seq<|wp_block<|wp_seq<|wp_rs rfl<|RQ.y rfl (Y.move (v:=.int .i64 i2) s8_1)<|RQ.y rfl (Y.assign (v:=.int .i64 i2) rfl)<|RQ.nil<|then_n<|wp_seq<|wp_rb rfl<|RQ.y rfl (Y.move (v:=.func (.func gf1) #[] caps1) s1_1)<|RQ.y rfl (Y.move (v:=.slice Aa0 d0.length ca0) s0_1)<|RQ.y rfl (Y.move (v:=.int .i64 i2) rfl) ?_
  obtain ⟨x5,hx8,hm⟩:=bnd hm
  obtain ⟨k6,hk9,hl10,hx8⟩:=getI_some hx8
  obtain ⟨b12,o13,rfl,hbb12⟩:=ha0.addr (by omega)
  obtain ⟨cs7,hRcs7,hc11⟩:=ha0.el hx8
  have hScs7:=hRcs7
  obtain rfl:=hRcs7
  refine RQ.y rfl (Y.indexAddr (m:=k6) (sz:=2) rfl rfl hk9 hl10 (by kernel_rfl))<|RQ.y rfl (Y.loadN (cs:=[.int .i64 x5.agent,.int .i64 x5.slot]) rfl (by kernel_rfl) (cells2 (beC (cellT T (hc11 0 _ rfl))) (beC (cellT T (hc11 1 _ rfl))))) ?_
  obtain ⟨y14,e15,hm⟩:=bnd hm
  refine RQ.callV rfl rfl (am1 rfl) hgo1 (v:=.bool y14) (bel (K:=fun _=>True) fun w' hb'=>hf1 x5 y14 e15 w' (Tt T hb'))<|RQ.nil ?_
  intro w16 hb17
  have szw16:=hb17.size
  have T:=Tt T hb17
  refine then_n ?_
  rcases bcases y14 with c18|c18
  ·replace hm:=cF c18 hm
   refine cond_f rfl (vb rfl c18)<|wp_skip ?_
   refine blk_n (then_n ?_)
   refine wp_rs rfl<|RQ.y rfl (Y.binI s8_1 rfl (binI_add (m:=i2) (by omega)))<|RQ.y rfl (Y.move (v:=.int .i64 (i2+1)) rfl)<|RQ.nil ?_
   exact (then_n ⟨g,_,Nat.lt_succ_self _,rfl,⟨(i2+1),s0_1,s1_1,s7_1,rfl,(by omega),T,(by rw [← hrec1]; exact hm)⟩⟩)
  replace hm:=cT c18 hm
  refine cond_t rfl (vb rfl c18)<|wp_seq<|wp_rs rfl<|RQ.y rfl (Y.move (v:=.int .i64 i2) rfl)<|RQ.y rfl (Y.assign (v:=.int .i64 i2) rfl)<|RQ.nil<|then_n<|wp_ret ?_
  obtain rfl:=sj hm
  exact (blk_r (then_r (then_r (hit_r (blk_r (then_r (ret1 rfl rfl rfl ⟨rfl,T⟩)))))))
def m_slices_ContainsFunc_impl_Port_impl_Port (d0:List DPort) (d1:DPort→Option Bool):Option Bool:=
  ((m_slices_IndexFunc_impl_Port_impl_Port d0 d1).bind fun y1=>some (decide (y1 ≥ 0)))
set_option maxHeartbeats 2000000 in
theorem c_m_slices_ContainsFunc_impl_Port_impl_Port (d0:List DPort) (d1:DPort→Option Bool) (r:Bool) (hm:m_slices_ContainsFunc_impl_Port_impl_Port d0 d1=some r) (v0:Value) (gf1:FuncId) (caps1:Array Value) (w:World) (hv0:Sl portRd 2 w v0 d0) (hgo1:isGo Tryz.prog gf1=true) (hf1 :∀(x0:DPort) (b:Bool),d1 x0=some b→∀w1,Below w.heap.size w w1→Calls Tryz.prog gf1 (#[.agg #[.int .i64 x0.agent,.int .i64 x0.slot]] ++ caps1) w1 fun e w2=>e=.returned (.bool b)∧Below w1.heap.size w1 w2) :
    Calls Tryz.prog 152 #[v0,.func (.func gf1) #[] caps1] w fun e w'=>e=.returned (.bool r)∧Below w.heap.size w w':=by
  obtain ⟨Aa0,na0,ca0,rfl,ha0,ra0⟩:=hv0
  have ea0:=ha0.len; subst ea0
  have qa0:=len_le ra0
  have T:=Below.refl w.heap.size w
  unfold m_slices_ContainsFunc_impl_Port_impl_Port at hm
  refine enter 9 Tryz.func152 rfl rfl rfl ?_
  intro f hf
  have s0:f 0=.slice Aa0 d0.length ca0:=hf 0 _ rfl
  have s1:f 1=.func (.func gf1) #[] caps1:=hf 1 _ rfl
  refine wp_seq<|wp_rs rfl<|RQ.y rfl (Y.assign (v:=.bool false) rfl)<|RQ.nil<|then_n<|wp_seq<|wp_rb rfl<|RQ.y rfl (Y.move (v:=.slice Aa0 d0.length ca0) s0)<|RQ.y rfl (Y.move (v:=.func (.func gf1) #[] caps1) s1) ?_
  obtain ⟨y1,e2,hm⟩:=bnd hm
  refine RQ.call rfl (am2 rfl rfl) (by kernel_rfl) (v:=.int .i64 y1) (bel (K:=fun _=>True) fun w' hb'=>(c_m_slices_IndexFunc_impl_Port_impl_Port d0 d1 _ e2 _ _ _ w' (slArg portRd_ok ha0 ra0 (Tt T hb')) hgo1 (fun x0 b hx w1 hb1=>hf1 x0 b hx w1 (Tt (Tt T hb') hb1))))<|RQ.y rfl (Y.binI (v:=.bool (decide (y1 ≥ 0))) rfl rfl rfl)<|RQ.y rfl (Y.assign (v:=.bool (decide (y1 ≥ 0))) rfl)<|RQ.nil ?_
  intro w3 hb4
  have szw3:=hb4.size
  have T:=Tt T hb4
  refine then_n<|wp_ret ?_
  obtain rfl:=sj hm
  exact (ret1 rfl rfl rfl ⟨rfl,T⟩)
def m_slices_IndexFunc_int64_int64_A1:Option Int:=
  some (-1)
def m_slices_IndexFunc_int64_int64_B1 (d0:List Int) (d1:Int→Option Bool) (rec1:Int→Option Int) (K1:Option Int) (i2:Int):Option Int:=
  (bif (decide (i2 < (d0.length:Int))) then ((getI d0 i2).bind fun x5=>((d1 x5).bind fun y14=>(bif y14 then some i2 else (rec1 (i2+1))))) else (K1))
def m_slices_IndexFunc_int64_int64_L1 (d0:List Int) (d1:Int→Option Bool) (K1:Option Int):Nat→Int→Option Int
  |0,_=>none
  |g+1,i2=>m_slices_IndexFunc_int64_int64_B1 d0 d1 (m_slices_IndexFunc_int64_int64_L1 d0 d1 K1 g) K1 i2
def m_slices_IndexFunc_int64_int64 (d0:List Int) (d1:Int→Option Bool):Option Int:=
  (m_slices_IndexFunc_int64_int64_L1 d0 d1 m_slices_IndexFunc_int64_int64_A1 (d0.length+1) 0)
set_option maxHeartbeats 2000000 in
theorem c_m_slices_IndexFunc_int64_int64 (d0:List Int) (d1:Int→Option Bool) (r:Int) (hm:m_slices_IndexFunc_int64_int64 d0 d1=some r) (v0:Value) (gf1:FuncId) (caps1:Array Value) (w:World) (hv0:Sl intRd 1 w v0 d0) (hgo1:isGo Tryz.prog gf1=true) (hf1 :∀(x0:Int) (b:Bool),d1 x0=some b→∀w1,Below w.heap.size w w1→Calls Tryz.prog gf1 (#[.int .i64 x0] ++ caps1) w1 fun e w2=>e=.returned (.bool b)∧Below w1.heap.size w1 w2) :
    Calls Tryz.prog 213 #[v0,.func (.func gf1) #[] caps1] w fun e w'=>e=.returned (.int .i64 r)∧Below w.heap.size w w':=by
  obtain ⟨Aa0,na0,ca0,rfl,ha0,ra0⟩:=hv0
  have ea0:=ha0.len; subst ea0
  have qa0:=len_le ra0
  have T:=Below.refl w.heap.size w
  unfold m_slices_IndexFunc_int64_int64 at hm
  refine enter 19 Tryz.func213 rfl rfl rfl ?_
  intro f hf
  have s0:f 0=.slice Aa0 d0.length ca0:=hf 0 _ rfl
  have s1:f 1=.func (.func gf1) #[] caps1:=hf 1 _ rfl
  refine wp_seq<|wp_rs rfl<|RQ.y rfl (Y.assign (v:=.int .i64 0) rfl)<|RQ.nil<|then_n<|wp_seq<|wp_seq<|wp_rs rfl<|RQ.y rfl (Y.move (v:=.slice Aa0 d0.length ca0) s0)<|RQ.y rfl (Y.len (by kernel_rfl) rfl)<|RQ.y rfl (Y.move (v:=.int .i64 0) rfl)<|RQ.nil<|then_n<|wp_block ?_
  obtain ⟨K1,hK1,hm⟩ :∃K,K=m_slices_IndexFunc_int64_int64_A1∧m_slices_IndexFunc_int64_int64_L1 d0 d1 K (d0.length+1) 0=some r:=⟨_,rfl,hm⟩
  refine wp_loopX (fun g f w'=>∃(i2:Int),f 0=.slice Aa0 d0.length ca0∧f 1=.func (.func gf1) #[] caps1∧f 7=.int .i64 (d0.length:Int)∧f 8=.int .i64 i2∧0≤i2∧Below w.heap.size w w'∧m_slices_IndexFunc_int64_int64_L1 d0 d1 K1 g i2=some r) 0 (fun f w'=>Below w.heap.size w w'∧m_slices_IndexFunc_int64_int64_A1  = some r) (d0.length+1) ⟨0,s0,s1,rfl,rfl,(by omega),T,hm⟩ ?_ ?_
  ·rintro f w1 ⟨T,hm⟩
   unfold m_slices_IndexFunc_int64_int64_A1 at hm
   refine blk_hit (then_n ?_)
   refine wp_seq<|wp_rs rfl<|RQ.y rfl (Y.assign (v:=.int .i64 (-1)) rfl)<|RQ.nil<|then_n<|wp_ret ?_
   obtain rfl:=sj hm
   exact (ret1 rfl rfl rfl ⟨rfl,T⟩)
  rintro g f w3 ⟨i2,s0_1,s1_1,s7_1,s8_1,nn8_1,T,hm⟩
  rcases g with _|g
  ·simp only [m_slices_IndexFunc_int64_int64_L1] at hm; cases hm
  obtain ⟨rec1,hrec1,hm⟩ :∃z,z=m_slices_IndexFunc_int64_int64_L1 d0 d1 K1 g∧m_slices_IndexFunc_int64_int64_B1 d0 d1 z K1 i2=some r:=⟨_,rfl,hm⟩
  unfold m_slices_IndexFunc_int64_int64_B1 at hm
  refine wp_seq<|wp_rs rfl<|RQ.y rfl (Y.binI (v:=.bool (decide (i2 < (d0.length:Int)))) s8_1 s7_1 rfl)<|RQ.nil<|then_n<|wp_seq ?_
  rcases bcases (decide (i2 < (d0.length:Int))) with c4|c4
  ·replace hm:=cF c4 hm
   have pc4:=of_decide_eq_false c4
   refine cond_f rfl (vb rfl c4)<|wp_exit ?_
   exact (then_x (then_x (hit_x ⟨_,rfl,⟨T,(by rw [hK1] at hm; exact hm)⟩⟩)))
  replace hm:=cT c4 hm
  have pc4:=of_decide_eq_true c4
  refine cond_t rfl (vb rfl c4)<|wp_skip<|then_n<|wp_seq<|wp_block<|wp_seq<|wp_rs rfl<|RQ.y rfl (Y.move (v:=.int .i64 i2) s8_1)<|RQ.y rfl (Y.assign (v:=.int .i64 i2) rfl)<|RQ.nil<|then_n<|wp_seq<|wp_rb rfl<|RQ.y rfl (Y.move (v:=.func (.func gf1) #[] caps1) s1_1)<|RQ.y rfl (Y.move (v:=.slice Aa0 d0.length ca0) s0_1)<|RQ.y rfl (Y.move (v:=.int .i64 i2) rfl) ?_
  obtain ⟨x5,hx8,hm⟩:=bnd hm
  obtain ⟨k6,hk9,hl10,hx8⟩:=getI_some hx8
  obtain ⟨b12,o13,rfl,hbb12⟩:=ha0.addr (by omega)
  obtain ⟨cs7,hRcs7,hc11⟩:=ha0.el hx8
  have hScs7:=hRcs7
  obtain rfl:=hRcs7
  refine RQ.y rfl (Y.indexAddr (m:=k6) (sz:=1) rfl rfl hk9 hl10 (by kernel_rfl))<|RQ.y rfl (Y.load (v:=.int .i64 x5) rfl (by kernel_rfl) (beC (cellT T (hc11 0 _ rfl)))) ?_
  obtain ⟨y14,e15,hm⟩:=bnd hm
  refine RQ.callV rfl rfl (am1 rfl) hgo1 (v:=.bool y14) (bel (K:=fun _=>True) fun w' hb'=>hf1 x5 y14 e15 w' (Tt T hb'))<|RQ.nil ?_
  intro w16 hb17
  have szw16:=hb17.size
  have T:=Tt T hb17
  refine then_n ?_
  rcases bcases y14 with c18|c18
  ·replace hm:=cF c18 hm
   refine cond_f rfl (vb rfl c18)<|wp_skip ?_
   refine blk_n (then_n ?_)
   refine wp_rs rfl<|RQ.y rfl (Y.binI s8_1 rfl (binI_add (m:=i2) (by omega)))<|RQ.y rfl (Y.move (v:=.int .i64 (i2+1)) rfl)<|RQ.nil ?_
   exact (then_n ⟨g,_,Nat.lt_succ_self _,rfl,⟨(i2+1),s0_1,s1_1,s7_1,rfl,(by omega),T,(by rw [← hrec1]; exact hm)⟩⟩)
  replace hm:=cT c18 hm
  refine cond_t rfl (vb rfl c18)<|wp_seq<|wp_rs rfl<|RQ.y rfl (Y.move (v:=.int .i64 i2) rfl)<|RQ.y rfl (Y.assign (v:=.int .i64 i2) rfl)<|RQ.nil<|then_n<|wp_ret ?_
  obtain rfl:=sj hm
  exact (blk_r (then_r (then_r (hit_r (blk_r (then_r (ret1 rfl rfl rfl ⟨rfl,T⟩)))))))
def m_slices_ContainsFunc_int64_int64 (d0:List Int) (d1:Int→Option Bool):Option Bool:=
  ((m_slices_IndexFunc_int64_int64 d0 d1).bind fun y1=>some (decide (y1 ≥ 0)))
set_option maxHeartbeats 2000000 in
theorem c_m_slices_ContainsFunc_int64_int64 (d0:List Int) (d1:Int→Option Bool) (r:Bool) (hm:m_slices_ContainsFunc_int64_int64 d0 d1=some r) (v0:Value) (gf1:FuncId) (caps1:Array Value) (w:World) (hv0:Sl intRd 1 w v0 d0) (hgo1:isGo Tryz.prog gf1=true) (hf1 :∀(x0:Int) (b:Bool),d1 x0=some b→∀w1,Below w.heap.size w w1→Calls Tryz.prog gf1 (#[.int .i64 x0] ++ caps1) w1 fun e w2=>e=.returned (.bool b)∧Below w1.heap.size w1 w2) :
    Calls Tryz.prog 166 #[v0,.func (.func gf1) #[] caps1] w fun e w'=>e=.returned (.bool r)∧Below w.heap.size w w':=by
  obtain ⟨Aa0,na0,ca0,rfl,ha0,ra0⟩:=hv0
  have ea0:=ha0.len; subst ea0
  have qa0:=len_le ra0
  have T:=Below.refl w.heap.size w
  unfold m_slices_ContainsFunc_int64_int64 at hm
  refine enter 9 Tryz.func166 rfl rfl rfl ?_
  intro f hf
  have s0:f 0=.slice Aa0 d0.length ca0:=hf 0 _ rfl
  have s1:f 1=.func (.func gf1) #[] caps1:=hf 1 _ rfl
  refine wp_seq<|wp_rs rfl<|RQ.y rfl (Y.assign (v:=.bool false) rfl)<|RQ.nil<|then_n<|wp_seq<|wp_rb rfl<|RQ.y rfl (Y.move (v:=.slice Aa0 d0.length ca0) s0)<|RQ.y rfl (Y.move (v:=.func (.func gf1) #[] caps1) s1) ?_
  obtain ⟨y1,e2,hm⟩:=bnd hm
  refine RQ.call rfl (am2 rfl rfl) (by kernel_rfl) (v:=.int .i64 y1) (bel (K:=fun _=>True) fun w' hb'=>(c_m_slices_IndexFunc_int64_int64 d0 d1 _ e2 _ _ _ w' (slArg intRd_ok ha0 ra0 (Tt T hb')) hgo1 (fun x0 b hx w1 hb1=>hf1 x0 b hx w1 (Tt (Tt T hb') hb1))))<|RQ.y rfl (Y.binI (v:=.bool (decide (y1 ≥ 0))) rfl rfl rfl)<|RQ.y rfl (Y.assign (v:=.bool (decide (y1 ≥ 0))) rfl)<|RQ.nil ?_
  intro w3 hb4
  have szw3:=hb4.size
  have T:=Tt T hb4
  refine then_n<|wp_ret ?_
  obtain rfl:=sj hm
  exact (ret1 rfl rfl rfl ⟨rfl,T⟩)
def m_impl_ValidNet_1 (d0:DPort) (d1:DNet):Option Bool:=
  ((m_impl_Net_peer d1 d0).bind fun y6=>(bif (y6.agent==d0.agent && y6.slot==d0.slot) then some true else ((m_impl_hasPort d1.agents y6).bind fun y18=>(bif y18 then ((m_impl_Net_peer d1 y6).bind fun y23=>some (!(y23.agent==d0.agent && y23.slot==d0.slot))) else some true))))
set_option maxHeartbeats 2000000 in
theorem c_m_impl_ValidNet_1 (d0:DPort) (d1:DNet) (r:Bool) (hm:m_impl_ValidNet_1 d0 d1=some r) (v1:Value) (w:World) (hv1:Pt netRd w v1 d1) :
    Calls Tryz.prog 153 #[.agg #[.int .i64 d0.agent,.int .i64 d0.slot],v1] w fun e w'=>e=.returned (.bool r)∧Below w.heap.size w w':=by
  obtain ⟨ba1,oa1,csa1,rfl,hba1,hRa1,hca1⟩:=hv1
  have hSa1:=hRa1
  obtain ⟨A1,n1,c1,rfl,⟨h1,r1⟩⟩:=hRa1
  have e1:=h1.len; subst e1
  have q1:=len_le r1
  have T:=Below.refl w.heap.size w
  unfold m_impl_ValidNet_1 at hm
  refine enter 23 Tryz.func153 rfl rfl rfl ?_
  intro f hf
  have s0:f 0=.agg #[.int .i64 d0.agent,.int .i64 d0.slot]:=hf 0 _ rfl
  have s1:f 1=.pointer (some ⟨ba1,oa1,none⟩):=hf 1 _ rfl
  refine wp_seq<|wp_rl rfl ?_
  refine RL.box rfl s0 (fun w2 B3 hb4 szw2=>?_)
  replace B3:Blk w2 w.heap.size 161 #[.int .i64 d0.agent,.int .i64 d0.slot]:=B3
  have GB3:w.heap.size≤w.heap.size:=T.size
  have T:=Tt T hb4
  refine RL.y rfl (Y.assign (v:=.bool false) rfl)<|RL.nil<|then_n<|wp_seq<|wp_rl rfl<|RL.y rfl (Y.loadN (cs:=[.int .i64 d0.agent,.int .i64 d0.slot]) rfl (by kernel_rfl) (cells2 (eqC (blkCell B3 (i:=0) rfl)) (eqC (blkCell B3 (i:=1) rfl)))) ?_
  obtain ⟨y6,e7,hm⟩:=bnd hm
  refine RL.call rfl (am2 s1 rfl) (by kernel_rfl) ((c_m_impl_Net_peer d1 d0 _ e7 _ _ (ptArg netRd_ok hba1 hSa1 hca1 T)).mono ?_)
  rintro _ w8 ⟨rfl,hb9⟩
  refine ⟨_,rfl,?_⟩
  have szw8:=hb9.size
  have B3:=blkT B3 hb9
  have T:=Tt T hb9
  refine RL.alloc (z:=.agg #[.int .i64 0,.int .i64 0]) rfl (by kernel_rfl) (fun w10 B11 hb12 szw10=>?_)
  replace B11:Blk w10 w8.heap.size 161 #[.int .i64 0,.int .i64 0]:=B11
  have GB11:w.heap.size≤w8.heap.size:=T.size
  have Eob13_ob5:=Nat.ne_of_lt B3.lt
  have B3:=blkT B3 hb12
  have T:=Tt T hb12
  refine RL.store (v:=.agg #[.int .i64 y6.agent,.int .i64 y6.slot]) (cs':=#[.int .i64 y6.agent,.int .i64 y6.slot]) rfl rfl rfl B11 (by kernel_rfl) (by rfl) (by rfl) (by rfl) (fun w14 B15 ho16=>?_)
  have szw14:=ho16.size
  have B3:=B3.only_ ho16 (by intro hin; simp at hin; exact Eob13_ob5 hin)
  have T:=T.trans (ho16.below (by simp; omega))
  refine RL.nil<|then_n<|wp_seq<|wp_rbd (by kernel_rfl) (by kernel_rfl)<|RQ.y rfl (Y.loadN (cs:=[.int .i64 y6.agent,.int .i64 y6.slot]) rfl (by kernel_rfl) (cells2 (beC (blkCell B15 (i:=0) rfl)) (beC (blkCell B15 (i:=1) rfl))))<|RQ.y rfl (Y.loadN (cs:=[.int .i64 d0.agent,.int .i64 d0.slot]) rfl (by kernel_rfl) (cells2 (beC (blkCell B3 (i:=0) rfl)) (beC (blkCell B3 (i:=1) rfl))))<|RQ.y rfl (Y.eqS (b:=(y6.agent==d0.agent && y6.slot==d0.slot)) rfl rfl (eqPort_run _ _ _ _) (eqGuardPort_run _ _ _ _ _))<|RQ.y rfl (Y.move (v:=.bool (y6.agent==d0.agent && y6.slot==d0.slot)) rfl) ?_
  rcases bcases (y6.agent==d0.agent && y6.slot==d0.slot) with c17|c17
  ·replace hm:=cF c17 hm
   refine RQ.y (wantT (dj:=10) rfl (vb rfl c17)) (Y.fieldAddr (off:=0) s1 (by kernel_rfl))<|RQ.y (wantT (dj:=10) rfl (vb rfl c17)) (Y.load (v:=.slice A1 d1.agents.length c1) rfl (by kernel_rfl) (beC (cellT T (hca1 0 _ rfl))))<|RQ.y (wantT (dj:=10) rfl (vb rfl c17)) (Y.loadN (cs:=[.int .i64 y6.agent,.int .i64 y6.slot]) rfl (by kernel_rfl) (cells2 (beC (blkCell B15 (i:=0) rfl)) (beC (blkCell B15 (i:=1) rfl)))) ?_
   obtain ⟨y18,e19,hm⟩:=bnd hm
   refine RQ.call (wantT (dj:=10) rfl (vb rfl c17)) (am2 rfl rfl) (by kernel_rfl) (v:=.bool y18) (bel (K:=fun _=>True) fun w' hb'=>(c_m_impl_hasPort d1.agents y6 _ e19 _ w' (slArg agentRd_ok h1 r1 (Tt T hb'))))<|RQ.y (wantT (dj:=10) rfl (vb rfl c17)) (Y.not (b':=(!y18)) rfl rfl)<|RQ.y rfl (Y.pick (b:=false) (v:=.bool (!y18)) (vb rfl c17) rfl)<|RQ.y rfl (Y.move (v:=.bool (!y18)) rfl) ?_
   rcases bcases y18 with c20|c20
   ·replace hm:=cF c20 hm
    iterate 4 refine RQ.skip (wantN (dj:=17) rfl (vbn rfl c20 rfl) rfl) ?_
    refine RQ.y rfl (Y.pick (b:=true) (v:=.bool true) (vbn rfl c20 rfl) rfl)<|RQ.y rfl (Y.assign (v:=.bool true) rfl)<|RQ.nil ?_
    intro w21 hb22
    have szw21:=hb22.size
    have T:=Tt T hb22
    refine then_n<|wp_ret ?_
    obtain rfl:=sj hm
    exact (ret1 rfl rfl rfl ⟨rfl,T⟩)
   replace hm:=cT c20 hm
   refine RQ.y (wantT (dj:=17) rfl (vbn rfl c20 rfl)) (Y.loadN (cs:=[.int .i64 y6.agent,.int .i64 y6.slot]) rfl (by kernel_rfl) (cells2 (beC (blkCell B15 (i:=0) rfl)) (beC (blkCell B15 (i:=1) rfl)))) ?_
   obtain ⟨y23,e24,hm⟩:=bnd hm
   refine RQ.call (wantT (dj:=17) rfl (vbn rfl c20 rfl)) (am2 s1 rfl) (by kernel_rfl) (v:=.agg #[.int .i64 y23.agent,.int .i64 y23.slot]) (bel (K:=fun _=>True) fun w' hb'=>(c_m_impl_Net_peer d1 y6 _ e24 _ w' (ptArg netRd_ok hba1 hSa1 hca1 (Tt T hb'))))<|RQ.y (wantT (dj:=17) rfl (vbn rfl c20 rfl)) (Y.loadN (cs:=[.int .i64 d0.agent,.int .i64 d0.slot]) rfl (by kernel_rfl) (cells2 (beC (blkCell B3 (i:=0) rfl)) (beC (blkCell B3 (i:=1) rfl))))<|RQ.y (wantT (dj:=17) rfl (vbn rfl c20 rfl)) (Y.neS (b:=(y23.agent==d0.agent && y23.slot==d0.slot)) rfl rfl (eqPort_run _ _ _ _) (eqGuardPort_run _ _ _ _ _))<|RQ.y rfl (Y.pick (b:=false) (v:=.bool (!(y23.agent==d0.agent && y23.slot==d0.slot))) (vbn rfl c20 rfl) rfl)<|RQ.y rfl (Y.assign (v:=.bool (!(y23.agent==d0.agent && y23.slot==d0.slot))) rfl)<|RQ.nil ?_
   intro w25 hb26
   have szw25:=hb26.size
   have T:=Tt T hb26
   refine then_n<|wp_ret ?_
   obtain rfl:=sj hm
   exact (ret1 rfl rfl rfl ⟨rfl,T⟩)
  replace hm:=cT c17 hm
  iterate 5 refine RQ.skip (wantN (dj:=10) rfl (vb rfl c17) rfl) ?_
  refine RQ.y rfl (Y.pick (b:=true) (v:=.bool true) (vb rfl c17) rfl)<|RQ.y rfl (Y.move (v:=.bool true) rfl) ?_
  iterate 4 refine RQ.skip (wantN (dj:=17) rfl rfl rfl) ?_
  refine RQ.y rfl (Y.pick (b:=true) (v:=.bool true) rfl rfl)<|RQ.y rfl (Y.assign (v:=.bool true) rfl)<|RQ.nil ?_
  intro w27 hb28
  have szw27:=hb28.size
  have T:=Tt T hb28
  refine then_n<|wp_ret ?_
  obtain rfl:=sj hm
  exact (ret1 rfl rfl rfl ⟨rfl,T⟩)
def m_impl_wellFormed (d0:DAgent):Option Bool:=
  (bif ((d0.ports.length:Int)==0) then some false else ((m_impl_fieldsOf d0.kind (d0.ports.length:Int)).bind fun y8=>(bif ((portsOf d0.kind y8) != (d0.ports.length:Int)) then some false else (bif (allowed d0.kind d0.level) then ((m_slices_ContainsFunc_int64_int64 d0.data (fun x0=>m_impl_wellFormed_1 x0)).bind fun y16=>(bif (d0.kind==6) then ((m_impl_isInt d0.value).bind fun y69=>(bif y69 then some ((d0.data.length:Int)==0) else some false)) else (bif (d0.kind==7) then ((m_impl_isOperator d0.value).bind fun y64=>(bif y64 then some ((d0.data.length:Int)==0) else some false)) else (bif (d0.kind==8) then ((m_impl_isOperator d0.value).bind fun y43=>(bif y43 then (bif ((d0.data.length:Int)==1) then ((getI d0.data 0).bind fun x51=>((m_impl_isInt x51).bind fun y60=>some y60)) else some false) else some false)) else (bif (d0.kind==9) then (bif (decide (d0.value ≥ 0)) then (bif (decide (d0.value < 4)) then some ((d0.data.length:Int)==0) else some false) else some false) else (bif (d0.kind==10) then (bif (decide ((d0.data.length:Int) ≥ 1)) then (bif (decide ((d0.data.length:Int)≤4)) then (bif (d0.value==0) then some (!y16) else some false) else (bif (d0.value==0) then some false else some false)) else (bif (d0.value==0) then some false else some false)) else (bif (d0.kind==11) then (bif ((d0.data.length:Int)==2) then (bif (d0.value==0) then some (!y16) else some false) else (bif (d0.value==0) then some false else some false)) else (bif (d0.kind==12) then ((m_impl_isDefIndex d0.value).bind fun y28=>(bif y28 then some ((d0.data.length:Int)==0) else some false)) else (bif (d0.value==0) then some ((d0.data.length:Int)==0) else some false))))))))) else some false))))
set_option maxHeartbeats 2000000 in
theorem c_m_impl_wellFormed (d0:DAgent) (r:Bool) (hm:m_impl_wellFormed d0=some r) (v0:Value) (w:World) (hv0:St agentRd w v0 d0) :
    Calls Tryz.prog 209 #[v0] w fun e w'=>e=.returned (.bool r)∧Below w.heap.size w w':=by
  obtain ⟨csa0,rfl,⟨A1,n1,c1,A2,n2,c2,rfl,⟨h1,r1⟩,⟨h2,r2⟩⟩⟩:=hv0
  have e1:=h1.len; subst e1
  have q1:=len_le r1
  have e2:=h2.len; subst e2
  have q2:=len_le r2
  have T:=Below.refl w.heap.size w
  unfold m_impl_wellFormed at hm
  refine enter 117 Tryz.func209 rfl rfl rfl ?_
  intro f hf
  have s0:f 0=.agg #[.int .i64 d0.kind,.int .i64 d0.level,.int .i64 d0.value,.slice A1 d0.data.length c1,.slice A2 d0.ports.length c2]:=hf 0 _ rfl
  refine wp_seq<|wp_rl rfl ?_
  refine RL.box rfl s0 (fun w3 B4 hb5 szw3=>?_)
  replace B4:Blk w3 w.heap.size 159 #[.int .i64 d0.kind,.int .i64 d0.level,.int .i64 d0.value,.slice A1 d0.data.length c1,.slice A2 d0.ports.length c2]:=B4
  have GB4:w.heap.size≤w.heap.size:=T.size
  have T:=Tt T hb5
  refine RL.y rfl (Y.assign (v:=.bool false) rfl)<|RL.nil<|then_n<|wp_seq<|wp_seq<|wp_rbd (by kernel_rfl) (by kernel_rfl)<|RQ.y rfl (Y.fieldAddr (off:=4) rfl (by kernel_rfl))<|RQ.y rfl (Y.load (v:=.slice A2 d0.ports.length c2) rfl (by kernel_rfl) (beC (blkCell B4 (i:=4) rfl)))<|RQ.y rfl (Y.len (by kernel_rfl) rfl)<|RQ.y rfl (Y.binI (v:=.bool ((d0.ports.length:Int)==0)) rfl rfl rfl)<|RQ.y rfl (Y.move (v:=.bool ((d0.ports.length:Int)==0)) rfl) ?_
  rcases bcases ((d0.ports.length:Int)==0) with c7|c7
  ·replace hm:=cF c7 hm
   refine RQ.y (wantT (dj:=10) rfl (vb rfl c7)) (Y.fieldAddr (off:=0) rfl (by kernel_rfl))<|RQ.y (wantT (dj:=10) rfl (vb rfl c7)) (Y.load (v:=.int .i64 d0.kind) rfl (by kernel_rfl) (beC (blkCell B4 (i:=0) rfl)))<|RQ.y (wantT (dj:=10) rfl (vb rfl c7)) (Y.fieldAddr (off:=0) rfl (by kernel_rfl))<|RQ.y (wantT (dj:=10) rfl (vb rfl c7)) (Y.load (v:=.int .i64 d0.kind) rfl (by kernel_rfl) (beC (blkCell B4 (i:=0) rfl)))<|RQ.y (wantT (dj:=10) rfl (vb rfl c7)) (Y.fieldAddr (off:=4) rfl (by kernel_rfl))<|RQ.y (wantT (dj:=10) rfl (vb rfl c7)) (Y.load (v:=.slice A2 d0.ports.length c2) rfl (by kernel_rfl) (beC (blkCell B4 (i:=4) rfl)))<|RQ.y (wantT (dj:=10) rfl (vb rfl c7)) (Y.len (by kernel_rfl) rfl) ?_
   obtain ⟨y8,e9,hm⟩:=bnd hm
   refine RQ.call (wantT (dj:=10) rfl (vb rfl c7)) (am2 rfl rfl) (by kernel_rfl) (v:=.int .i64 y8) (bel (K:=fun _=>True) fun w' hb'=>(c_m_impl_fieldsOf d0.kind (d0.ports.length:Int) _ e9  w' ))<|RQ.call (wantT (dj:=10) rfl (vb rfl c7)) (am2 rfl rfl) (by kernel_rfl) (v:=.int .i64 (portsOf d0.kind y8)) (bel (K:=fun _=>True) fun w' hb'=>(callB (impl_PortsOf d0.kind y8 w')))<|RQ.y (wantT (dj:=10) rfl (vb rfl c7)) (Y.fieldAddr (off:=4) rfl (by kernel_rfl))<|RQ.y (wantT (dj:=10) rfl (vb rfl c7)) (Y.load (v:=.slice A2 d0.ports.length c2) rfl (by kernel_rfl) (beC (blkCell B4 (i:=4) rfl)))<|RQ.y (wantT (dj:=10) rfl (vb rfl c7)) (Y.len (by kernel_rfl) rfl)<|RQ.y (wantT (dj:=10) rfl (vb rfl c7)) (Y.binI (v:=.bool ((portsOf d0.kind y8) != (d0.ports.length:Int))) rfl rfl rfl)<|RQ.y rfl (Y.pick (b:=false) (v:=.bool ((portsOf d0.kind y8) != (d0.ports.length:Int))) (vb rfl c7) rfl)<|RQ.y rfl (Y.move (v:=.bool ((portsOf d0.kind y8) != (d0.ports.length:Int))) rfl) ?_
   rcases bcases ((portsOf d0.kind y8) != (d0.ports.length:Int)) with c10|c10
   ·replace hm:=cF c10 hm
    refine RQ.y (wantT (dj:=25) rfl (vb rfl c10)) (Y.fieldAddr (off:=0) rfl (by kernel_rfl))<|RQ.y (wantT (dj:=25) rfl (vb rfl c10)) (Y.load (v:=.int .i64 d0.kind) rfl (by kernel_rfl) (beC (blkCell B4 (i:=0) rfl)))<|RQ.y (wantT (dj:=25) rfl (vb rfl c10)) (Y.fieldAddr (off:=1) rfl (by kernel_rfl))<|RQ.y (wantT (dj:=25) rfl (vb rfl c10)) (Y.load (v:=.int .i64 d0.level) rfl (by kernel_rfl) (beC (blkCell B4 (i:=1) rfl)))<|RQ.call (wantT (dj:=25) rfl (vb rfl c10)) (am2 rfl rfl) (by kernel_rfl) (v:=.bool (allowed d0.kind d0.level)) (bel (K:=fun _=>True) fun w' hb'=>(callB (impl_isAllowed d0.kind d0.level w')))<|RQ.y (wantT (dj:=25) rfl (vb rfl c10)) (Y.not (b':=(!(allowed d0.kind d0.level))) rfl rfl)<|RQ.y rfl (Y.pick (b:=false) (v:=.bool (!(allowed d0.kind d0.level))) (vb rfl c10) rfl)<|RQ.nil ?_
    intro w11 hb12
    have szw11:=hb12.size
    have B4:=blkT B4 hb12
    have T:=Tt T hb12
    refine then_n ?_
    rcases bcases (allowed d0.kind d0.level) with c13|c13
    ·replace hm:=cF c13 hm
     refine cond_t rfl (vbn rfl c13 rfl)<|wp_seq<|wp_rs rfl<|RQ.y rfl (Y.assign (v:=.bool false) rfl)<|RQ.nil<|then_n<|wp_ret ?_
     obtain rfl:=sj hm
     exact (then_r (ret1 rfl rfl rfl ⟨rfl,T⟩))
    replace hm:=cT c13 hm
    refine cond_f rfl (vbn rfl c13 rfl)<|wp_skip<|then_n<|wp_seq<|wp_rbd (by kernel_rfl) (by kernel_rfl)<|RQ.y rfl (Y.fieldAddr (off:=2) rfl (by kernel_rfl))<|RQ.y rfl (Y.load (v:=.int .i64 d0.value) rfl (by kernel_rfl) (beC (blkCell B4 (i:=2) rfl)))<|RQ.y rfl (Y.binI (v:=.bool (d0.value==0)) rfl rfl rfl)<|RQ.y rfl (Y.fieldAddr (off:=3) rfl (by kernel_rfl))<|RQ.y rfl (Y.load (v:=.slice A1 d0.data.length c1) rfl (by kernel_rfl) (beC (blkCell B4 (i:=3) rfl)))<|RQ.y rfl (Y.len (by kernel_rfl) rfl)<|RQ.y rfl (Y.binI (v:=.bool ((d0.data.length:Int)==0)) rfl rfl rfl)<|RQ.y rfl (Y.assign (v:=.bool (d0.value==0)) rfl)<|RQ.y rfl (Y.assign (v:=.bool ((d0.data.length:Int)==0)) rfl)<|RQ.nil ?_
    intro w14 hb15
    have szw14:=hb15.size
    have B4:=blkT B4 hb15
    have T:=Tt T hb15
    refine then_n<|wp_seq<|wp_rb rfl<|RQ.y rfl (Y.fieldAddr (off:=3) rfl (by kernel_rfl))<|RQ.y rfl (Y.load (v:=.slice A1 d0.data.length c1) rfl (by kernel_rfl) (beC (blkCell B4 (i:=3) rfl))) ?_
    obtain ⟨y16,e17,hm⟩:=bnd hm
    refine RQ.call rfl (am2 rfl rfl) (by kernel_rfl) (v:=.bool y16) (bel (K:=fun _=>True) fun w' hb'=>(c_m_slices_ContainsFunc_int64_int64 d0.data (fun x0=>m_impl_wellFormed_1 x0) _ e17 _ _ _ w' (slArg intRd_ok h1 r1 (Tt T hb')) (by kernel_rfl) (fun x0 b hx w1 hb1=>Calls.arr (by simp) (c_m_impl_wellFormed_1 x0 _ hx  w1 ))))<|RQ.y rfl (Y.not (b':=(!y16)) rfl rfl)<|RQ.y rfl (Y.assign (v:=.bool (!y16)) rfl)<|RQ.nil ?_
    intro w18 hb19
    have szw18:=hb19.size
    have B4:=blkT B4 hb19
    have T:=Tt T hb19
    refine then_n<|wp_seq<|wp_seq<|wp_rs rfl<|RQ.y rfl (Y.fieldAddr (off:=0) rfl (by kernel_rfl))<|RQ.y rfl (Y.load (v:=.int .i64 d0.kind) rfl (by kernel_rfl) (eqC (blkCell B4 (i:=0) rfl)))<|RQ.nil<|then_n<|wp_block<|wp_seq<|wp_rs rfl<|RQ.y rfl (Y.binI (v:=.bool (d0.kind==6)) rfl rfl rfl)<|RQ.y rfl (Y.assign (v:=.bool (d0.kind==6)) rfl)<|RQ.nil<|then_n ?_
    rcases bcases (d0.kind==6) with c20|c20
    ·replace hm:=cF c20 hm
     refine cond_f rfl (vb rfl c20)<|wp_seq<|wp_rs rfl<|RQ.y rfl (Y.binI (v:=.bool (d0.kind==7)) rfl rfl rfl)<|RQ.y rfl (Y.assign (v:=.bool (d0.kind==7)) rfl)<|RQ.nil<|then_n ?_
     rcases bcases (d0.kind==7) with c21|c21
     ·replace hm:=cF c21 hm
      refine cond_f rfl (vb rfl c21)<|wp_seq<|wp_rs rfl<|RQ.y rfl (Y.binI (v:=.bool (d0.kind==8)) rfl rfl rfl)<|RQ.y rfl (Y.assign (v:=.bool (d0.kind==8)) rfl)<|RQ.nil<|then_n ?_
      rcases bcases (d0.kind==8) with c22|c22
      ·replace hm:=cF c22 hm
       refine cond_f rfl (vb rfl c22)<|wp_seq<|wp_rs rfl<|RQ.y rfl (Y.binI (v:=.bool (d0.kind==9)) rfl rfl rfl)<|RQ.y rfl (Y.assign (v:=.bool (d0.kind==9)) rfl)<|RQ.nil<|then_n ?_
       rcases bcases (d0.kind==9) with c23|c23
       ·replace hm:=cF c23 hm
        refine cond_f rfl (vb rfl c23)<|wp_seq<|wp_rs rfl<|RQ.y rfl (Y.binI (v:=.bool (d0.kind==10)) rfl rfl rfl)<|RQ.y rfl (Y.assign (v:=.bool (d0.kind==10)) rfl)<|RQ.nil<|then_n ?_
        rcases bcases (d0.kind==10) with c24|c24
        ·replace hm:=cF c24 hm
         refine cond_f rfl (vb rfl c24)<|wp_seq<|wp_rs rfl<|RQ.y rfl (Y.binI (v:=.bool (d0.kind==11)) rfl rfl rfl)<|RQ.y rfl (Y.assign (v:=.bool (d0.kind==11)) rfl)<|RQ.nil<|then_n ?_
         rcases bcases (d0.kind==11) with c25|c25
         ·replace hm:=cF c25 hm
          refine cond_f rfl (vb rfl c25)<|wp_seq<|wp_rs rfl<|RQ.y rfl (Y.binI (v:=.bool (d0.kind==12)) rfl rfl rfl)<|RQ.y rfl (Y.assign (v:=.bool (d0.kind==12)) rfl)<|RQ.nil<|then_n ?_
          rcases bcases (d0.kind==12) with c26|c26
          ·replace hm:=cF c26 hm
           refine cond_f rfl (vb rfl c26)<|wp_skip ?_
           refine blk_n (then_n ?_)
           refine wp_seq<|wp_rs rfl<|RQ.y rfl (Y.move (v:=.bool (d0.value==0)) rfl)<|RQ.y rfl (Y.move (v:=.bool (d0.value==0)) rfl) ?_
           rcases bcases (d0.value==0) with c27|c27
           ·replace hm:=cF c27 hm
            refine RQ.skip (wantN (dj:=114) rfl (vb rfl c27) rfl)<|RQ.y rfl (Y.pick (b:=false) (v:=.bool false) (vb rfl c27) rfl)<|RQ.y rfl (Y.assign (v:=.bool false) rfl)<|RQ.nil<|then_n<|wp_ret ?_
            obtain rfl:=sj hm
            exact (ret1 rfl rfl rfl ⟨rfl,T⟩)
           replace hm:=cT c27 hm
           refine RQ.y (wantT (dj:=114) rfl (vb rfl c27)) (Y.move (v:=.bool ((d0.data.length:Int)==0)) rfl)<|RQ.y rfl (Y.pick (b:=true) (v:=.bool ((d0.data.length:Int)==0)) (vb rfl c27) rfl)<|RQ.y rfl (Y.assign (v:=.bool ((d0.data.length:Int)==0)) rfl)<|RQ.nil<|then_n<|wp_ret ?_
           obtain rfl:=sj hm
           exact (ret1 rfl rfl rfl ⟨rfl,T⟩)
          replace hm:=cT c26 hm
          refine cond_t rfl (vb rfl c26)<|wp_rb rfl<|RQ.y rfl (Y.fieldAddr (off:=2) rfl (by kernel_rfl))<|RQ.y rfl (Y.load (v:=.int .i64 d0.value) rfl (by kernel_rfl) (beC (blkCell B4 (i:=2) rfl))) ?_
          obtain ⟨y28,e29,hm⟩:=bnd hm
          refine RQ.call rfl (am1 rfl) (by kernel_rfl) (v:=.bool y28) (bel (K:=fun _=>True) fun w' hb'=>(c_m_impl_isDefIndex d0.value _ e29  w' ))<|RQ.y rfl (Y.assign (v:=.bool y28) rfl)<|RQ.nil ?_
          intro w30 hb31
          have szw30:=hb31.size
          have T:=Tt T hb31
          refine blk_n (then_n ?_)
          refine wp_seq<|wp_rs rfl<|RQ.y rfl (Y.move (v:=.bool y28) rfl)<|RQ.y rfl (Y.move (v:=.bool y28) rfl) ?_
          rcases bcases y28 with c32|c32
          ·replace hm:=cF c32 hm
           refine RQ.skip (wantN (dj:=114) rfl (vb rfl c32) rfl)<|RQ.y rfl (Y.pick (b:=false) (v:=.bool false) (vb rfl c32) rfl)<|RQ.y rfl (Y.assign (v:=.bool false) rfl)<|RQ.nil<|then_n<|wp_ret ?_
           obtain rfl:=sj hm
           exact (ret1 rfl rfl rfl ⟨rfl,T⟩)
          replace hm:=cT c32 hm
          refine RQ.y (wantT (dj:=114) rfl (vb rfl c32)) (Y.move (v:=.bool ((d0.data.length:Int)==0)) rfl)<|RQ.y rfl (Y.pick (b:=true) (v:=.bool ((d0.data.length:Int)==0)) (vb rfl c32) rfl)<|RQ.y rfl (Y.assign (v:=.bool ((d0.data.length:Int)==0)) rfl)<|RQ.nil<|then_n<|wp_ret ?_
          obtain rfl:=sj hm
          exact (ret1 rfl rfl rfl ⟨rfl,T⟩)
         replace hm:=cT c25 hm
         refine cond_t rfl (vb rfl c25)<|wp_rs rfl<|RQ.y rfl (Y.fieldAddr (off:=3) rfl (by kernel_rfl))<|RQ.y rfl (Y.load (v:=.slice A1 d0.data.length c1) rfl (by kernel_rfl) (eqC (blkCell B4 (i:=3) rfl)))<|RQ.y rfl (Y.len (by kernel_rfl) rfl)<|RQ.y rfl (Y.binI (v:=.bool ((d0.data.length:Int)==2)) rfl rfl rfl)<|RQ.y rfl (Y.move (v:=.bool ((d0.data.length:Int)==2)) rfl) ?_
         rcases bcases ((d0.data.length:Int)==2) with c33|c33
         ·replace hm:=cF c33 hm
          refine RQ.skip (wantN (dj:=105) rfl (vb rfl c33) rfl)<|RQ.y rfl (Y.pick (b:=false) (v:=.bool false) (vb rfl c33) rfl)<|RQ.y rfl (Y.assign (v:=.bool false) rfl)<|RQ.nil ?_
          refine blk_n (then_n ?_)
          refine wp_seq<|wp_rs rfl<|RQ.y rfl (Y.move (v:=.bool (d0.value==0)) rfl)<|RQ.y rfl (Y.move (v:=.bool (d0.value==0)) rfl) ?_
          rcases bcases (d0.value==0) with c34|c34
          ·replace hm:=cF c34 hm
           refine RQ.skip (wantN (dj:=114) rfl (vb rfl c34) rfl)<|RQ.y rfl (Y.pick (b:=false) (v:=.bool false) (vb rfl c34) rfl)<|RQ.y rfl (Y.assign (v:=.bool false) rfl)<|RQ.nil<|then_n<|wp_ret ?_
           obtain rfl:=sj hm
           exact (ret1 rfl rfl rfl ⟨rfl,T⟩)
          replace hm:=cT c34 hm
          refine RQ.y (wantT (dj:=114) rfl (vb rfl c34)) (Y.move (v:=.bool false) rfl)<|RQ.y rfl (Y.pick (b:=true) (v:=.bool false) (vb rfl c34) rfl)<|RQ.y rfl (Y.assign (v:=.bool false) rfl)<|RQ.nil<|then_n<|wp_ret ?_
          obtain rfl:=sj hm
          exact (ret1 rfl rfl rfl ⟨rfl,T⟩)
         replace hm:=cT c33 hm
         refine RQ.y (wantT (dj:=105) rfl (vb rfl c33)) (Y.move (v:=.bool (!y16)) rfl)<|RQ.y rfl (Y.pick (b:=true) (v:=.bool (!y16)) (vb rfl c33) rfl)<|RQ.y rfl (Y.assign (v:=.bool (!y16)) rfl)<|RQ.nil ?_
         refine blk_n (then_n ?_)
         refine wp_seq<|wp_rs rfl<|RQ.y rfl (Y.move (v:=.bool (d0.value==0)) rfl)<|RQ.y rfl (Y.move (v:=.bool (d0.value==0)) rfl) ?_
         rcases bcases (d0.value==0) with c35|c35
         ·replace hm:=cF c35 hm
          refine RQ.skip (wantN (dj:=114) rfl (vb rfl c35) rfl)<|RQ.y rfl (Y.pick (b:=false) (v:=.bool false) (vb rfl c35) rfl)<|RQ.y rfl (Y.assign (v:=.bool false) rfl)<|RQ.nil<|then_n<|wp_ret ?_
          obtain rfl:=sj hm
          exact (ret1 rfl rfl rfl ⟨rfl,T⟩)
         replace hm:=cT c35 hm
         refine RQ.y (wantT (dj:=114) rfl (vb rfl c35)) (Y.move (v:=.bool (!y16)) rfl)<|RQ.y rfl (Y.pick (b:=true) (v:=.bool (!y16)) (vb rfl c35) rfl)<|RQ.y rfl (Y.assign (v:=.bool (!y16)) rfl)<|RQ.nil<|then_n<|wp_ret ?_
         obtain rfl:=sj hm
         exact (ret1 rfl rfl rfl ⟨rfl,T⟩)
        replace hm:=cT c24 hm
        refine cond_t rfl (vb rfl c24)<|wp_rs rfl<|RQ.y rfl (Y.fieldAddr (off:=3) rfl (by kernel_rfl))<|RQ.y rfl (Y.load (v:=.slice A1 d0.data.length c1) rfl (by kernel_rfl) (eqC (blkCell B4 (i:=3) rfl)))<|RQ.y rfl (Y.len (by kernel_rfl) rfl)<|RQ.y rfl (Y.binI (v:=.bool (decide ((d0.data.length:Int) ≥ 1))) rfl rfl rfl)<|RQ.y rfl (Y.move (v:=.bool (decide ((d0.data.length:Int) ≥ 1))) rfl) ?_
        rcases bcases (decide ((d0.data.length:Int) ≥ 1)) with c36|c36
        ·replace hm:=cF c36 hm
         have pc36:=of_decide_eq_false c36
         iterate 4 refine RQ.skip (wantN (dj:=90) rfl (vb rfl c36) rfl) ?_
         refine RQ.y rfl (Y.pick (b:=false) (v:=.bool false) (vb rfl c36) rfl)<|RQ.y rfl (Y.move (v:=.bool false) rfl)<|RQ.skip (wantN (dj:=96) rfl rfl rfl)<|RQ.y rfl (Y.pick (b:=false) (v:=.bool false) rfl rfl)<|RQ.y rfl (Y.assign (v:=.bool false) rfl)<|RQ.nil ?_
         refine blk_n (then_n ?_)
         refine wp_seq<|wp_rs rfl<|RQ.y rfl (Y.move (v:=.bool (d0.value==0)) rfl)<|RQ.y rfl (Y.move (v:=.bool (d0.value==0)) rfl) ?_
         rcases bcases (d0.value==0) with c37|c37
         ·replace hm:=cF c37 hm
          refine RQ.skip (wantN (dj:=114) rfl (vb rfl c37) rfl)<|RQ.y rfl (Y.pick (b:=false) (v:=.bool false) (vb rfl c37) rfl)<|RQ.y rfl (Y.assign (v:=.bool false) rfl)<|RQ.nil<|then_n<|wp_ret ?_
          obtain rfl:=sj hm
          exact (ret1 rfl rfl rfl ⟨rfl,T⟩)
         replace hm:=cT c37 hm
         refine RQ.y (wantT (dj:=114) rfl (vb rfl c37)) (Y.move (v:=.bool false) rfl)<|RQ.y rfl (Y.pick (b:=true) (v:=.bool false) (vb rfl c37) rfl)<|RQ.y rfl (Y.assign (v:=.bool false) rfl)<|RQ.nil<|then_n<|wp_ret ?_
         obtain rfl:=sj hm
         exact (ret1 rfl rfl rfl ⟨rfl,T⟩)
        replace hm:=cT c36 hm
        have pc36:=of_decide_eq_true c36
        refine RQ.y (wantT (dj:=90) rfl (vb rfl c36)) (Y.fieldAddr (off:=3) rfl (by kernel_rfl))<|RQ.y (wantT (dj:=90) rfl (vb rfl c36)) (Y.load (v:=.slice A1 d0.data.length c1) rfl (by kernel_rfl) (eqC (blkCell B4 (i:=3) rfl)))<|RQ.y (wantT (dj:=90) rfl (vb rfl c36)) (Y.len (by kernel_rfl) rfl)<|RQ.y (wantT (dj:=90) rfl (vb rfl c36)) (Y.binI (v:=.bool (decide ((d0.data.length:Int)≤4))) rfl rfl rfl)<|RQ.y rfl (Y.pick (b:=true) (v:=.bool (decide ((d0.data.length:Int)≤4))) (vb rfl c36) rfl)<|RQ.y rfl (Y.move (v:=.bool (decide ((d0.data.length:Int)≤4))) rfl) ?_
        rcases bcases (decide ((d0.data.length:Int)≤4)) with c38|c38
        ·replace hm:=cF c38 hm
         have pc38:=of_decide_eq_false c38
         refine RQ.skip (wantN (dj:=96) rfl (vb rfl c38) rfl)<|RQ.y rfl (Y.pick (b:=false) (v:=.bool false) (vb rfl c38) rfl)<|RQ.y rfl (Y.assign (v:=.bool false) rfl)<|RQ.nil ?_
         refine blk_n (then_n ?_)
         refine wp_seq<|wp_rs rfl<|RQ.y rfl (Y.move (v:=.bool (d0.value==0)) rfl)<|RQ.y rfl (Y.move (v:=.bool (d0.value==0)) rfl) ?_
         rcases bcases (d0.value==0) with c39|c39
         ·replace hm:=cF c39 hm
          refine RQ.skip (wantN (dj:=114) rfl (vb rfl c39) rfl)<|RQ.y rfl (Y.pick (b:=false) (v:=.bool false) (vb rfl c39) rfl)<|RQ.y rfl (Y.assign (v:=.bool false) rfl)<|RQ.nil<|then_n<|wp_ret ?_
          obtain rfl:=sj hm
          exact (ret1 rfl rfl rfl ⟨rfl,T⟩)
         replace hm:=cT c39 hm
         refine RQ.y (wantT (dj:=114) rfl (vb rfl c39)) (Y.move (v:=.bool false) rfl)<|RQ.y rfl (Y.pick (b:=true) (v:=.bool false) (vb rfl c39) rfl)<|RQ.y rfl (Y.assign (v:=.bool false) rfl)<|RQ.nil<|then_n<|wp_ret ?_
         obtain rfl:=sj hm
         exact (ret1 rfl rfl rfl ⟨rfl,T⟩)
        replace hm:=cT c38 hm
        have pc38:=of_decide_eq_true c38
        refine RQ.y (wantT (dj:=96) rfl (vb rfl c38)) (Y.move (v:=.bool (!y16)) rfl)<|RQ.y rfl (Y.pick (b:=true) (v:=.bool (!y16)) (vb rfl c38) rfl)<|RQ.y rfl (Y.assign (v:=.bool (!y16)) rfl)<|RQ.nil ?_
        refine blk_n (then_n ?_)
        refine wp_seq<|wp_rs rfl<|RQ.y rfl (Y.move (v:=.bool (d0.value==0)) rfl)<|RQ.y rfl (Y.move (v:=.bool (d0.value==0)) rfl) ?_
        rcases bcases (d0.value==0) with c40|c40
        ·replace hm:=cF c40 hm
         refine RQ.skip (wantN (dj:=114) rfl (vb rfl c40) rfl)<|RQ.y rfl (Y.pick (b:=false) (v:=.bool false) (vb rfl c40) rfl)<|RQ.y rfl (Y.assign (v:=.bool false) rfl)<|RQ.nil<|then_n<|wp_ret ?_
         obtain rfl:=sj hm
         exact (ret1 rfl rfl rfl ⟨rfl,T⟩)
        replace hm:=cT c40 hm
        refine RQ.y (wantT (dj:=114) rfl (vb rfl c40)) (Y.move (v:=.bool (!y16)) rfl)<|RQ.y rfl (Y.pick (b:=true) (v:=.bool (!y16)) (vb rfl c40) rfl)<|RQ.y rfl (Y.assign (v:=.bool (!y16)) rfl)<|RQ.nil<|then_n<|wp_ret ?_
        obtain rfl:=sj hm
        exact (ret1 rfl rfl rfl ⟨rfl,T⟩)
       replace hm:=cT c23 hm
       refine cond_t rfl (vb rfl c23)<|wp_rs rfl<|RQ.y rfl (Y.fieldAddr (off:=2) rfl (by kernel_rfl))<|RQ.y rfl (Y.load (v:=.int .i64 d0.value) rfl (by kernel_rfl) (eqC (blkCell B4 (i:=2) rfl)))<|RQ.y rfl (Y.binI (v:=.bool (decide (d0.value ≥ 0))) rfl rfl rfl)<|RQ.y rfl (Y.move (v:=.bool (decide (d0.value ≥ 0))) rfl) ?_
       rcases bcases (decide (d0.value ≥ 0)) with c41|c41
       ·replace hm:=cF c41 hm
        have pc41:=of_decide_eq_false c41
        iterate 3 refine RQ.skip (wantN (dj:=79) rfl (vb rfl c41) rfl) ?_
        refine RQ.y rfl (Y.pick (b:=false) (v:=.bool false) (vb rfl c41) rfl)<|RQ.y rfl (Y.assign (v:=.bool false) rfl)<|RQ.nil ?_
        refine blk_n (then_n ?_)
        refine wp_seq<|wp_rs rfl<|RQ.y rfl (Y.move (v:=.bool false) rfl)<|RQ.y rfl (Y.move (v:=.bool false) rfl)<|RQ.skip (wantN (dj:=114) rfl rfl rfl)<|RQ.y rfl (Y.pick (b:=false) (v:=.bool false) rfl rfl)<|RQ.y rfl (Y.assign (v:=.bool false) rfl)<|RQ.nil<|then_n<|wp_ret ?_
        obtain rfl:=sj hm
        exact (ret1 rfl rfl rfl ⟨rfl,T⟩)
       replace hm:=cT c41 hm
       have pc41:=of_decide_eq_true c41
       refine RQ.y (wantT (dj:=79) rfl (vb rfl c41)) (Y.fieldAddr (off:=2) rfl (by kernel_rfl))<|RQ.y (wantT (dj:=79) rfl (vb rfl c41)) (Y.load (v:=.int .i64 d0.value) rfl (by kernel_rfl) (eqC (blkCell B4 (i:=2) rfl)))<|RQ.y (wantT (dj:=79) rfl (vb rfl c41)) (Y.binI (v:=.bool (decide (d0.value < 4))) rfl rfl rfl)<|RQ.y rfl (Y.pick (b:=true) (v:=.bool (decide (d0.value < 4))) (vb rfl c41) rfl)<|RQ.y rfl (Y.assign (v:=.bool (decide (d0.value < 4))) rfl)<|RQ.nil ?_
       refine blk_n (then_n ?_)
       refine wp_seq<|wp_rs rfl<|RQ.y rfl (Y.move (v:=.bool (decide (d0.value < 4))) rfl)<|RQ.y rfl (Y.move (v:=.bool (decide (d0.value < 4))) rfl) ?_
       rcases bcases (decide (d0.value < 4)) with c42|c42
       ·replace hm:=cF c42 hm
        have pc42:=of_decide_eq_false c42
        refine RQ.skip (wantN (dj:=114) rfl (vb rfl c42) rfl)<|RQ.y rfl (Y.pick (b:=false) (v:=.bool false) (vb rfl c42) rfl)<|RQ.y rfl (Y.assign (v:=.bool false) rfl)<|RQ.nil<|then_n<|wp_ret ?_
        obtain rfl:=sj hm
        exact (ret1 rfl rfl rfl ⟨rfl,T⟩)
       replace hm:=cT c42 hm
       have pc42:=of_decide_eq_true c42
       refine RQ.y (wantT (dj:=114) rfl (vb rfl c42)) (Y.move (v:=.bool ((d0.data.length:Int)==0)) rfl)<|RQ.y rfl (Y.pick (b:=true) (v:=.bool ((d0.data.length:Int)==0)) (vb rfl c42) rfl)<|RQ.y rfl (Y.assign (v:=.bool ((d0.data.length:Int)==0)) rfl)<|RQ.nil<|then_n<|wp_ret ?_
       obtain rfl:=sj hm
       exact (ret1 rfl rfl rfl ⟨rfl,T⟩)
      replace hm:=cT c22 hm
      refine cond_t rfl (vb rfl c22)<|wp_seq<|wp_rb rfl<|RQ.y rfl (Y.fieldAddr (off:=2) rfl (by kernel_rfl))<|RQ.y rfl (Y.load (v:=.int .i64 d0.value) rfl (by kernel_rfl) (beC (blkCell B4 (i:=2) rfl))) ?_
      obtain ⟨y43,e44,hm⟩:=bnd hm
      refine RQ.call rfl (am1 rfl) (by kernel_rfl) (v:=.bool y43) (bel (K:=fun _=>True) fun w' hb'=>(c_m_impl_isOperator d0.value _ e44  w' ))<|RQ.y rfl (Y.move (v:=.bool y43) rfl) ?_
      rcases bcases y43 with c45|c45
      ·replace hm:=cF c45 hm
       iterate 4 refine RQ.skip (wantN (dj:=61) rfl (vb rfl c45) rfl) ?_
       refine RQ.y rfl (Y.pick (b:=false) (v:=.bool false) (vb rfl c45) rfl)<|RQ.y rfl (Y.move (v:=.bool false) rfl) ?_
       iterate 5 refine RQ.skip (wantN (dj:=67) rfl rfl rfl) ?_
       refine RQ.y rfl (Y.pick (b:=false) (v:=.bool false) rfl rfl)<|RQ.y rfl (Y.assign (v:=.bool false) rfl)<|RQ.nil ?_
       intro w46 hb47
       have szw46:=hb47.size
       have T:=Tt T hb47
       refine then_n<|wp_ret ?_
       obtain rfl:=sj hm
       exact (blk_r (then_r (ret1 rfl rfl rfl ⟨rfl,T⟩)))
      replace hm:=cT c45 hm
      refine RQ.y (wantT (dj:=61) rfl (vb rfl c45)) (Y.fieldAddr (off:=3) rfl (by kernel_rfl))<|RQ.y (wantT (dj:=61) rfl (vb rfl c45)) (Y.load (v:=.slice A1 d0.data.length c1) rfl (by kernel_rfl) (beC (blkCell B4 (i:=3) rfl)))<|RQ.y (wantT (dj:=61) rfl (vb rfl c45)) (Y.len (by kernel_rfl) rfl)<|RQ.y (wantT (dj:=61) rfl (vb rfl c45)) (Y.binI (v:=.bool ((d0.data.length:Int)==1)) rfl rfl rfl)<|RQ.y rfl (Y.pick (b:=true) (v:=.bool ((d0.data.length:Int)==1)) (vb rfl c45) rfl)<|RQ.y rfl (Y.move (v:=.bool ((d0.data.length:Int)==1)) rfl) ?_
      rcases bcases ((d0.data.length:Int)==1) with c48|c48
      ·replace hm:=cF c48 hm
       iterate 5 refine RQ.skip (wantN (dj:=67) rfl (vb rfl c48) rfl) ?_
       refine RQ.y rfl (Y.pick (b:=false) (v:=.bool false) (vb rfl c48) rfl)<|RQ.y rfl (Y.assign (v:=.bool false) rfl)<|RQ.nil ?_
       intro w49 hb50
       have szw49:=hb50.size
       have T:=Tt T hb50
       refine then_n<|wp_ret ?_
       obtain rfl:=sj hm
       exact (blk_r (then_r (ret1 rfl rfl rfl ⟨rfl,T⟩)))
      replace hm:=cT c48 hm
      refine RQ.y (wantT (dj:=67) rfl (vb rfl c48)) (Y.fieldAddr (off:=3) rfl (by kernel_rfl))<|RQ.y (wantT (dj:=67) rfl (vb rfl c48)) (Y.load (v:=.slice A1 d0.data.length c1) rfl (by kernel_rfl) (beC (blkCell B4 (i:=3) rfl))) ?_
      obtain ⟨x51,hx54,hm⟩:=bnd hm
      obtain ⟨k52,hk55,hl56,hx54⟩:=getI_some hx54
      obtain ⟨b58,o59,rfl,hbb58⟩:=h1.addr (by omega)
      obtain ⟨cs53,hRcs53,hc57⟩:=h1.el hx54
      have hScs53:=hRcs53
      obtain rfl:=hRcs53
      refine RQ.y (wantT (dj:=67) rfl (vb rfl c48)) (Y.indexAddr (m:=k52) (sz:=1) rfl rfl hk55 hl56 (by kernel_rfl))<|RQ.y (wantT (dj:=67) rfl (vb rfl c48)) (Y.load (v:=.int .i64 x51) rfl (by kernel_rfl) (beC (cellT T (hc57 0 _ rfl)))) ?_
      obtain ⟨y60,e61,hm⟩:=bnd hm
      refine RQ.call (wantT (dj:=67) rfl (vb rfl c48)) (am1 rfl) (by kernel_rfl) (v:=.bool y60) (bel (K:=fun _=>True) fun w' hb'=>(c_m_impl_isInt x51 _ e61  w' ))<|RQ.y rfl (Y.pick (b:=true) (v:=.bool y60) (vb rfl c48) rfl)<|RQ.y rfl (Y.assign (v:=.bool y60) rfl)<|RQ.nil ?_
      intro w62 hb63
      have szw62:=hb63.size
      have T:=Tt T hb63
      refine then_n<|wp_ret ?_
      obtain rfl:=sj hm
      exact (blk_r (then_r (ret1 rfl rfl rfl ⟨rfl,T⟩)))
     replace hm:=cT c21 hm
     refine cond_t rfl (vb rfl c21)<|wp_rb rfl<|RQ.y rfl (Y.fieldAddr (off:=2) rfl (by kernel_rfl))<|RQ.y rfl (Y.load (v:=.int .i64 d0.value) rfl (by kernel_rfl) (beC (blkCell B4 (i:=2) rfl))) ?_
     obtain ⟨y64,e65,hm⟩:=bnd hm
     refine RQ.call rfl (am1 rfl) (by kernel_rfl) (v:=.bool y64) (bel (K:=fun _=>True) fun w' hb'=>(c_m_impl_isOperator d0.value _ e65  w' ))<|RQ.y rfl (Y.assign (v:=.bool y64) rfl)<|RQ.nil ?_
     intro w66 hb67
     have szw66:=hb67.size
     have T:=Tt T hb67
     refine blk_n (then_n ?_)
     refine wp_seq<|wp_rs rfl<|RQ.y rfl (Y.move (v:=.bool y64) rfl)<|RQ.y rfl (Y.move (v:=.bool y64) rfl) ?_
     rcases bcases y64 with c68|c68
     ·replace hm:=cF c68 hm
      refine RQ.skip (wantN (dj:=114) rfl (vb rfl c68) rfl)<|RQ.y rfl (Y.pick (b:=false) (v:=.bool false) (vb rfl c68) rfl)<|RQ.y rfl (Y.assign (v:=.bool false) rfl)<|RQ.nil<|then_n<|wp_ret ?_
      obtain rfl:=sj hm
      exact (ret1 rfl rfl rfl ⟨rfl,T⟩)
     replace hm:=cT c68 hm
     refine RQ.y (wantT (dj:=114) rfl (vb rfl c68)) (Y.move (v:=.bool ((d0.data.length:Int)==0)) rfl)<|RQ.y rfl (Y.pick (b:=true) (v:=.bool ((d0.data.length:Int)==0)) (vb rfl c68) rfl)<|RQ.y rfl (Y.assign (v:=.bool ((d0.data.length:Int)==0)) rfl)<|RQ.nil<|then_n<|wp_ret ?_
     obtain rfl:=sj hm
     exact (ret1 rfl rfl rfl ⟨rfl,T⟩)
    replace hm:=cT c20 hm
    refine cond_t rfl (vb rfl c20)<|wp_rb rfl<|RQ.y rfl (Y.fieldAddr (off:=2) rfl (by kernel_rfl))<|RQ.y rfl (Y.load (v:=.int .i64 d0.value) rfl (by kernel_rfl) (beC (blkCell B4 (i:=2) rfl))) ?_
    obtain ⟨y69,e70,hm⟩:=bnd hm
    refine RQ.call rfl (am1 rfl) (by kernel_rfl) (v:=.bool y69) (bel (K:=fun _=>True) fun w' hb'=>(c_m_impl_isInt d0.value _ e70  w' ))<|RQ.y rfl (Y.assign (v:=.bool y69) rfl)<|RQ.nil ?_
    intro w71 hb72
    have szw71:=hb72.size
    have T:=Tt T hb72
    refine blk_n (then_n ?_)
    refine wp_seq<|wp_rs rfl<|RQ.y rfl (Y.move (v:=.bool y69) rfl)<|RQ.y rfl (Y.move (v:=.bool y69) rfl) ?_
    rcases bcases y69 with c73|c73
    ·replace hm:=cF c73 hm
     refine RQ.skip (wantN (dj:=114) rfl (vb rfl c73) rfl)<|RQ.y rfl (Y.pick (b:=false) (v:=.bool false) (vb rfl c73) rfl)<|RQ.y rfl (Y.assign (v:=.bool false) rfl)<|RQ.nil<|then_n<|wp_ret ?_
     obtain rfl:=sj hm
     exact (ret1 rfl rfl rfl ⟨rfl,T⟩)
    replace hm:=cT c73 hm
    refine RQ.y (wantT (dj:=114) rfl (vb rfl c73)) (Y.move (v:=.bool ((d0.data.length:Int)==0)) rfl)<|RQ.y rfl (Y.pick (b:=true) (v:=.bool ((d0.data.length:Int)==0)) (vb rfl c73) rfl)<|RQ.y rfl (Y.assign (v:=.bool ((d0.data.length:Int)==0)) rfl)<|RQ.nil<|then_n<|wp_ret ?_
    obtain rfl:=sj hm
    exact (ret1 rfl rfl rfl ⟨rfl,T⟩)
   replace hm:=cT c10 hm
   iterate 6 refine RQ.skip (wantN (dj:=25) rfl (vb rfl c10) rfl) ?_
   refine RQ.y rfl (Y.pick (b:=true) (v:=.bool true) (vb rfl c10) rfl)<|RQ.nil ?_
   intro w74 hb75
   have szw74:=hb75.size
   have B4:=blkT B4 hb75
   have T:=Tt T hb75
   refine then_n<|cond_t rfl rfl<|wp_seq<|wp_rs rfl<|RQ.y rfl (Y.assign (v:=.bool false) rfl)<|RQ.nil<|then_n<|wp_ret ?_
   obtain rfl:=sj hm
   exact (then_r (ret1 rfl rfl rfl ⟨rfl,T⟩))
  replace hm:=cT c7 hm
  iterate 13 refine RQ.skip (wantN (dj:=10) rfl (vb rfl c7) rfl) ?_
  refine RQ.y rfl (Y.pick (b:=true) (v:=.bool true) (vb rfl c7) rfl)<|RQ.y rfl (Y.move (v:=.bool true) rfl) ?_
  iterate 6 refine RQ.skip (wantN (dj:=25) rfl rfl rfl) ?_
  refine RQ.y rfl (Y.pick (b:=true) (v:=.bool true) rfl rfl)<|RQ.nil ?_
  intro w76 hb77
  have szw76:=hb77.size
  have B4:=blkT B4 hb77
  have T:=Tt T hb77
  refine then_n<|cond_t rfl rfl<|wp_seq<|wp_rs rfl<|RQ.y rfl (Y.assign (v:=.bool false) rfl)<|RQ.nil<|then_n<|wp_ret ?_
  obtain rfl:=sj hm
  exact (then_r (ret1 rfl rfl rfl ⟨rfl,T⟩))
def m_impl_areAgents_A1:Option Bool:=
  some true
def m_impl_areAgents_B1 (d0:List DAgent) (rec1:Int→Option Bool) (K1:Option Bool) (i4:Int):Option Bool:=
  (bif (decide (i4 < (d0.length:Int))) then ((getI d0 i4).bind fun x7=>((m_impl_wellFormed x7).bind fun y25=>(bif y25 then (bif ((x7.kind==1) != (i4==0)) then some false else (rec1 (i4+1))) else some false))) else (K1))
def m_impl_areAgents_L1 (d0:List DAgent) (K1:Option Bool):Nat→Int→Option Bool
  |0,_=>none
  |g+1,i4=>m_impl_areAgents_B1 d0 (m_impl_areAgents_L1 d0 K1 g) K1 i4
def m_impl_areAgents (d0:List DAgent):Option Bool:=
  (bif (decide ((d0.length:Int) < 1)) then some false else (bif (decide ((d0.length:Int) > 600)) then some false else (m_impl_areAgents_L1 d0 m_impl_areAgents_A1 (d0.length+1) 0)))
set_option maxHeartbeats 2000000 in
theorem c_m_impl_areAgents (d0:List DAgent) (r:Bool) (hm:m_impl_areAgents d0=some r) (v0:Value) (w:World) (hv0:Sl agentRd 5 w v0 d0) :
    Calls Tryz.prog 151 #[v0] w fun e w'=>e=.returned (.bool r)∧Below w.heap.size w w':=by
  obtain ⟨Aa0,na0,ca0,rfl,ha0,ra0⟩:=hv0
  have ea0:=ha0.len; subst ea0
  have qa0:=len_le ra0
  have T:=Below.refl w.heap.size w
  unfold m_impl_areAgents at hm
  refine enter 32 Tryz.func151 rfl rfl rfl ?_
  intro f hf
  have s0:f 0=.slice Aa0 d0.length ca0:=hf 0 _ rfl
  refine wp_seq<|wp_rs rfl<|RQ.y rfl (Y.assign (v:=.bool false) rfl)<|RQ.nil<|then_n<|wp_seq<|wp_seq<|wp_rs rfl<|RQ.y rfl (Y.move (v:=.slice Aa0 d0.length ca0) s0)<|RQ.y rfl (Y.len (by kernel_rfl) rfl)<|RQ.y rfl (Y.binI (v:=.bool (decide ((d0.length:Int) < 1))) rfl rfl rfl)<|RQ.y rfl (Y.move (v:=.bool (decide ((d0.length:Int) < 1))) rfl) ?_
  rcases bcases (decide ((d0.length:Int) < 1)) with c1|c1
  ·replace hm:=cF c1 hm
   have pc1:=of_decide_eq_false c1
   refine RQ.y (wantT (dj:=8) rfl (vb rfl c1)) (Y.move (v:=.slice Aa0 d0.length ca0) s0)<|RQ.y (wantT (dj:=8) rfl (vb rfl c1)) (Y.len (by kernel_rfl) rfl)<|RQ.y (wantT (dj:=8) rfl (vb rfl c1)) (Y.binI (v:=.bool (decide ((d0.length:Int) > 600))) rfl rfl rfl)<|RQ.y rfl (Y.pick (b:=false) (v:=.bool (decide ((d0.length:Int) > 600))) (vb rfl c1) rfl)<|RQ.nil<|then_n ?_
   rcases bcases (decide ((d0.length:Int) > 600)) with c2|c2
   ·replace hm:=cF c2 hm
    have pc2:=of_decide_eq_false c2
    refine cond_f rfl (vb rfl c2)<|wp_skip<|then_n<|wp_seq<|wp_seq<|wp_rs rfl<|RQ.y rfl (Y.move (v:=.slice Aa0 d0.length ca0) s0)<|RQ.y rfl (Y.len (by kernel_rfl) rfl)<|RQ.y rfl (Y.move (v:=.int .i64 0) rfl)<|RQ.nil<|then_n<|wp_block ?_
    obtain ⟨K1,hK1,hm⟩ :∃K,K=m_impl_areAgents_A1∧m_impl_areAgents_L1 d0 K (d0.length+1) 0=some r:=⟨_,rfl,hm⟩
    refine wp_loopX (fun g f w'=>∃(i4:Int),f 13=.slice Aa0 d0.length ca0∧f 14=.int .i64 (d0.length:Int)∧f 15=.int .i64 i4∧0≤i4∧Below w.heap.size w w'∧m_impl_areAgents_L1 d0 K1 g i4=some r) 0 (fun f w'=>Below w.heap.size w w'∧m_impl_areAgents_A1  = some r) (d0.length+1) ⟨0,rfl,rfl,rfl,(by omega),T,hm⟩ ?_ ?_
    ·rintro f w3 ⟨T,hm⟩
     unfold m_impl_areAgents_A1 at hm
     refine blk_hit (then_n ?_)
     refine wp_seq<|wp_rs rfl<|RQ.y rfl (Y.assign (v:=.bool true) rfl)<|RQ.nil<|then_n<|wp_ret ?_
     obtain rfl:=sj hm
     exact (ret1 rfl rfl rfl ⟨rfl,T⟩)
    rintro g f w5 ⟨i4,s13_1,s14_1,s15_1,nn15_1,T,hm⟩
    rcases g with _|g
    ·simp only [m_impl_areAgents_L1] at hm; cases hm
    obtain ⟨rec1,hrec1,hm⟩ :∃z,z=m_impl_areAgents_L1 d0 K1 g∧m_impl_areAgents_B1 d0 z K1 i4=some r:=⟨_,rfl,hm⟩
    unfold m_impl_areAgents_B1 at hm
    refine wp_seq<|wp_rs rfl<|RQ.y rfl (Y.binI (v:=.bool (decide (i4 < (d0.length:Int)))) s15_1 s14_1 rfl)<|RQ.nil<|then_n<|wp_seq ?_
    rcases bcases (decide (i4 < (d0.length:Int))) with c6|c6
    ·replace hm:=cF c6 hm
     have pc6:=of_decide_eq_false c6
     refine cond_f rfl (vb rfl c6)<|wp_exit ?_
     exact (then_x (then_x (hit_x ⟨_,rfl,⟨T,(by rw [hK1] at hm; exact hm)⟩⟩)))
    replace hm:=cT c6 hm
    have pc6:=of_decide_eq_true c6
    refine cond_t rfl (vb rfl c6)<|wp_skip<|then_n<|wp_seq<|wp_block<|wp_seq<|wp_rl rfl<|RL.y rfl (Y.move (v:=.int .i64 i4) s15_1) ?_
    obtain ⟨x7,hx10,hm⟩:=bnd hm
    obtain ⟨k8,hk11,hl12,hx10⟩:=getI_some hx10
    obtain ⟨b14,o15,rfl,hbb14⟩:=ha0.addr (by omega)
    obtain ⟨cs9,hRcs9,hc13⟩:=ha0.el hx10
    have hScs9:=hRcs9
    obtain ⟨A16,n16,c16,A17,n17,c17,rfl,⟨h16,r16⟩,⟨h17,r17⟩⟩:=hRcs9
    have e16:=h16.len; subst e16
    have q16:=len_le r16
    have e17:=h17.len; subst e17
    have q17:=len_le r17
    refine RL.y rfl (Y.indexAddr (m:=k8) (sz:=5) s13_1 s15_1 hk11 hl12 (by kernel_rfl))<|RL.y rfl (Y.loadN (cs:=[.int .i64 x7.kind,.int .i64 x7.level,.int .i64 x7.value,.slice A16 x7.data.length c16,.slice A17 x7.ports.length c17]) rfl (by kernel_rfl) (cells5 (eqC (cellT T (hc13 0 _ rfl))) (eqC (cellT T (hc13 1 _ rfl))) (eqC (cellT T (hc13 2 _ rfl))) (eqC (cellT T (hc13 3 _ rfl))) (eqC (cellT T (hc13 4 _ rfl))))) ?_
    refine RL.alloc (z:=.agg #[.int .i64 0,.int .i64 0,.int .i64 0,.slice none 0 0,.slice none 0 0]) rfl (by kernel_rfl) (fun w18 B19 hb20 szw18=>?_)
    replace B19:Blk w18 w5.heap.size 159 #[.int .i64 0,.int .i64 0,.int .i64 0,.slice none 0 0,.slice none 0 0]:=B19
    have GB19:w.heap.size≤w5.heap.size:=T.size
    have T:=Tt T hb20
    refine RL.y rfl (Y.assign (v:=.int .i64 i4) rfl) ?_
    refine RL.store (v:=.agg #[.int .i64 x7.kind,.int .i64 x7.level,.int .i64 x7.value,.slice A16 x7.data.length c16,.slice A17 x7.ports.length c17]) (cs':=#[.int .i64 x7.kind,.int .i64 x7.level,.int .i64 x7.value,.slice A16 x7.data.length c16,.slice A17 x7.ports.length c17]) rfl rfl rfl B19 (by kernel_rfl) (by rfl) (by rfl) (by rfl) (fun w22 B23 ho24=>?_)
    have szw22:=ho24.size
    have T:=T.trans (ho24.below (by simp; omega))
    refine RL.nil<|then_n<|wp_seq<|wp_rb rfl<|RQ.y rfl (Y.loadN (cs:=[.int .i64 x7.kind,.int .i64 x7.level,.int .i64 x7.value,.slice A16 x7.data.length c16,.slice A17 x7.ports.length c17]) rfl (by kernel_rfl) (cells5 (beC (blkCell B23 (i:=0) rfl)) (beC (blkCell B23 (i:=1) rfl)) (beC (blkCell B23 (i:=2) rfl)) (beC (blkCell B23 (i:=3) rfl)) (beC (blkCell B23 (i:=4) rfl)))) ?_
    obtain ⟨y25,e26,hm⟩:=bnd hm
    refine RQ.call rfl (am1 rfl) (by kernel_rfl) (v:=.bool y25) (bel (K:=fun _=>True) fun w' hb'=>(c_m_impl_wellFormed x7 _ e26 _ w' (stArg (R:=agentRd) ⟨_,_,_,_,_,_,rfl,⟨SlAt.now intRd_ok h16 (Nat.le_refl _) (Tt T hb'),r16⟩,⟨SlAt.now portRd_ok h17 (Nat.le_refl _) (Tt T hb'),r17⟩⟩)))<|RQ.y rfl (Y.not (b':=(!y25)) rfl rfl)<|RQ.y rfl (Y.move (v:=.bool (!y25)) rfl) ?_
    rcases bcases y25 with c27|c27
    ·replace hm:=cF c27 hm
     iterate 6 refine RQ.skip (wantN (dj:=23) rfl (vbn rfl c27 rfl) rfl) ?_
     refine RQ.y rfl (Y.pick (b:=true) (v:=.bool true) (vbn rfl c27 rfl) rfl)<|RQ.nil ?_
     intro w28 hb29
     have szw28:=hb29.size
     have T:=Tt T hb29
     refine then_n<|cond_t rfl rfl<|wp_seq<|wp_rs rfl<|RQ.y rfl (Y.assign (v:=.bool false) rfl)<|RQ.nil<|then_n<|wp_ret ?_
     obtain rfl:=sj hm
     exact (blk_r (then_r (then_r (hit_r (blk_r (then_r (ret1 rfl rfl rfl ⟨rfl,T⟩)))))))
    replace hm:=cT c27 hm
    refine RQ.y (wantT (dj:=23) rfl (vbn rfl c27 rfl)) (Y.fieldAddr (off:=0) rfl (by kernel_rfl))<|RQ.y (wantT (dj:=23) rfl (vbn rfl c27 rfl)) (Y.load (v:=.int .i64 x7.kind) rfl (by kernel_rfl) (beC (blkCell B23 (i:=0) rfl)))<|RQ.y (wantT (dj:=23) rfl (vbn rfl c27 rfl)) (Y.binI (v:=.bool (x7.kind==1)) rfl rfl rfl)<|RQ.y (wantT (dj:=23) rfl (vbn rfl c27 rfl)) (Y.move (v:=.int .i64 i4) rfl)<|RQ.y (wantT (dj:=23) rfl (vbn rfl c27 rfl)) (Y.binI (v:=.bool (i4==0)) rfl rfl rfl)<|RQ.y (wantT (dj:=23) rfl (vbn rfl c27 rfl)) (Y.beq (c:=((x7.kind==1) != (i4==0))) (by kernel_rfl) rfl rfl (.inr ⟨rfl,rfl⟩))<|RQ.y rfl (Y.pick (b:=false) (v:=.bool ((x7.kind==1) != (i4==0))) (vbn rfl c27 rfl) rfl)<|RQ.nil ?_
    intro w30 hb31
    have szw30:=hb31.size
    have T:=Tt T hb31
    refine then_n ?_
    rcases bcases ((x7.kind==1) != (i4==0)) with c32|c32
    ·replace hm:=cF c32 hm
     refine cond_f rfl (vb rfl c32)<|wp_skip ?_
     refine blk_n (then_n ?_)
     refine wp_rs rfl<|RQ.y rfl (Y.binI s15_1 rfl (binI_add (m:=i4) (by omega)))<|RQ.y rfl (Y.move (v:=.int .i64 (i4+1)) rfl)<|RQ.nil ?_
     exact (then_n ⟨g,_,Nat.lt_succ_self _,rfl,⟨(i4+1),s13_1,s14_1,rfl,(by omega),T,(by rw [← hrec1]; exact hm)⟩⟩)
    replace hm:=cT c32 hm
    refine cond_t rfl (vb rfl c32)<|wp_seq<|wp_rs rfl<|RQ.y rfl (Y.assign (v:=.bool false) rfl)<|RQ.nil<|then_n<|wp_ret ?_
    obtain rfl:=sj hm
    exact (blk_r (then_r (then_r (hit_r (blk_r (then_r (ret1 rfl rfl rfl ⟨rfl,T⟩)))))))
   replace hm:=cT c2 hm
   have pc2:=of_decide_eq_true c2
   refine cond_t rfl (vb rfl c2)<|wp_seq<|wp_rs rfl<|RQ.y rfl (Y.assign (v:=.bool false) rfl)<|RQ.nil<|then_n<|wp_ret ?_
   obtain rfl:=sj hm
   exact (then_r (ret1 rfl rfl rfl ⟨rfl,T⟩))
  replace hm:=cT c1 hm
  have pc1:=of_decide_eq_true c1
  iterate 3 refine RQ.skip (wantN (dj:=8) rfl (vb rfl c1) rfl) ?_
  refine RQ.y rfl (Y.pick (b:=true) (v:=.bool true) (vb rfl c1) rfl)<|RQ.nil<|then_n<|cond_t rfl rfl<|wp_seq<|wp_rs rfl<|RQ.y rfl (Y.assign (v:=.bool false) rfl)<|RQ.nil<|then_n<|wp_ret ?_
  obtain rfl:=sj hm
  exact (then_r (ret1 rfl rfl rfl ⟨rfl,T⟩))
def m_impl_ValidNet (d0:DNet):Option Bool:=
  ((m_impl_areAgents d0.agents).bind fun y6=>(bif y6 then ((m_impl_Net_ports d0).bind fun y11=>((m_slices_ContainsFunc_impl_Port_impl_Port y11 (fun x0=>m_impl_ValidNet_1 x0 d0)).bind fun y18=>some (!y18))) else some false))
set_option maxHeartbeats 2000000 in
theorem c_m_impl_ValidNet (d0:DNet) (r:Bool) (hm:m_impl_ValidNet d0=some r) (v0:Value) (w:World) (hv0:St netRd w v0 d0) :
    Calls Tryz.prog 96 #[v0] w fun e w'=>e=.returned (.bool r)∧Below w.heap.size w w':=by
  obtain ⟨csa0,rfl,⟨A1,n1,c1,rfl,⟨h1,r1⟩⟩⟩:=hv0
  have e1:=h1.len; subst e1
  have q1:=len_le r1
  have T:=Below.refl w.heap.size w
  unfold m_impl_ValidNet at hm
  refine enter 11 Tryz.func96 rfl rfl rfl ?_
  intro f hf
  have s0:f 0=.agg #[.slice A1 d0.agents.length c1]:=hf 0 _ rfl
  refine wp_seq<|wp_rl rfl ?_
  refine RL.box rfl s0 (fun w2 B3 hb4 szw2=>?_)
  replace B3:Blk w2 w.heap.size 42 #[.slice A1 d0.agents.length c1]:=B3
  have GB3:w.heap.size≤w.heap.size:=T.size
  have T:=Tt T hb4
  refine RL.y rfl (Y.assign (v:=.bool false) rfl)<|RL.nil<|then_n<|wp_seq<|wp_seq<|wp_rb rfl<|RQ.y rfl (Y.fieldAddr (off:=0) rfl (by kernel_rfl))<|RQ.y rfl (Y.load (v:=.slice A1 d0.agents.length c1) rfl (by kernel_rfl) (beC (blkCell B3 (i:=0) rfl))) ?_
  obtain ⟨y6,e7,hm⟩:=bnd hm
  refine RQ.call rfl (am1 rfl) (by kernel_rfl) (v:=.bool y6) (bel (K:=fun _=>True) fun w' hb'=>(c_m_impl_areAgents d0.agents _ e7 _ w' (slArg agentRd_ok h1 r1 (Tt T hb'))))<|RQ.y rfl (Y.not (b':=(!y6)) rfl rfl)<|RQ.nil ?_
  intro w8 hb9
  have szw8:=hb9.size
  have B3:=blkT B3 hb9
  have T:=Tt T hb9
  refine then_n ?_
  rcases bcases y6 with c10|c10
  ·replace hm:=cF c10 hm
   refine cond_t rfl (vbn rfl c10 rfl)<|wp_seq<|wp_rs rfl<|RQ.y rfl (Y.assign (v:=.bool false) rfl)<|RQ.nil<|then_n<|wp_ret ?_
   obtain rfl:=sj hm
   exact (then_r (ret1 rfl rfl rfl ⟨rfl,T⟩))
  replace hm:=cT c10 hm
  refine cond_f rfl (vbn rfl c10 rfl)<|wp_skip<|then_n<|wp_seq<|wp_rl rfl ?_
  obtain ⟨y11,e12,hm⟩:=bnd hm
  refine RL.call rfl (am1 rfl) (by kernel_rfl) ((c_m_impl_Net_ports d0 _ e12 _ _ (ptBox (R:=netRd) B3 ⟨_,_,_,rfl,⟨SlAt.now agentRd_ok h1 (Nat.le_refl _) T,r1⟩⟩)).mono ?_)
  rintro _ w16 ⟨⟨v13,rfl,G14⟩,hb17⟩
  refine ⟨_,rfl,?_⟩
  have szw16:=hb17.size
  have T0w16:=T.size
  have No15_ob5:=OwF.ne G14 B3.lt
  have B3:=blkT B3 hb17
  have T:=Tt T hb17
  replace G14:=OwF.mono G14 T0w16
  refine RL.y rfl (Y.makeFunc (vals:=#[.pointer (some ⟨w.heap.size,0,none⟩)]) (am1 rfl)) ?_
  obtain ⟨y18,e19,hm⟩:=bnd hm
  refine RL.call rfl (am2 rfl rfl) (by kernel_rfl) ((c_m_slices_ContainsFunc_impl_Port_impl_Port y11 (fun x0=>m_impl_ValidNet_1 x0 d0) _ e19 _ _ _ _ (OwF.arg fPort G14) (by kernel_rfl) (fun x0 b hx w1 hb1=>Calls.arr (by simp) (c_m_impl_ValidNet_1 x0 d0 _ hx _ w1 (ptBox (R:=netRd) (blkT B3 hb1) ⟨_,_,_,rfl,⟨SlAt.now agentRd_ok h1 (Nat.le_refl _) (Tt T hb1),r1⟩⟩)))).mono ?_)
  rintro _ w20 ⟨rfl,hb21⟩
  refine ⟨_,rfl,?_⟩
  have szw20:=hb21.size
  have B3:=blkT B3 hb21
  have G14:=OwF.below G14 hb21
  have T:=Tt T hb21
  refine RL.y rfl (Y.not (b':=(!y18)) rfl rfl)<|RL.y rfl (Y.assign (v:=.bool (!y18)) rfl)<|RL.nil<|then_n<|wp_ret ?_
  obtain rfl:=sj hm
  exact (ret1 rfl rfl rfl ⟨rfl,T⟩)
end
section
open Go.RowKit
inductive OT where
  |nil|q (i:Nat) (r:OT)|a (i:Nat) (r:OT)|two (i:Nat) (r1:OT) (j:Nat) (r2:OT)
def OT.len:OT→Nat
  |.nil=>0
  |.q _ r=>r.len+1
  |.a _ r=>r.len+1
  |.two _ r1 _ _=>r1.len+1
section
variable {P : Program} {ops : Array Oper} {S : World → Prop}
def ActAt (P:Program) (ops:Array Oper) (K:(Nat→Value)→World→Prop) (i:Nat) (f:Nat→Value) (w:World):Prop:=
  match ops[i]? with
  |none=>False
  |some o=>(wantF f ops o=true∧OpX P (fun v w'=>K (upo f o.dst v) w') ((execOp (ev f) o).run P w)) ∨ (wantF f ops o=false∧K (upo f o.dst undef) w)
def RT (P:Program) (ops:Array Oper) (S:World→Prop) (Q:(Nat→Value)→World→Prop):OT→(Nat→Value)→World→Prop
  |.nil,f,w=>Q f w
  |.q i r,f,w=>match ops[i]? with
    |none=>False
    |some o=>∃v,((wantF f ops o=true∧∀w,S w→(execOp (ev f) o).run P w=.ok (.value v) w) ∨ (wantF f ops o=false∧v=undef))∧RT P ops S Q r (upo f o.dst v) w
  |.a i r,f,w=>ActAt P ops (fun f' w'=>S w'∧RT P ops S Q r f' w') i f w
  |.two i r1 j r2,f,w=>ActAt P ops (fun f' w'=>S w'∧RT P ops S Q r1 f' w') i f w∧ActAt P ops (fun f' w'=>S w'∧RT P ops S Q r2 f' w') j f w
variable {Q : (Nat → Value) → World → Prop} {rest r2 : OT} {f : Nat → Value} {w : World} {i j : Nat} {o o2 : Oper}
theorem RT.y {v:Value} (ho:ops[i]? = some o) (hg:wantF f ops o=true) (hy:Y P S f o v) (h:RT P ops S Q rest (upo f o.dst v) w):RT P ops S Q (.q i rest) f w:=by
  unfold RT; rw [ho]; exact ⟨v,.inl ⟨hg,hy⟩,h⟩
theorem RT.skip (ho:ops[i]? = some o) (hg:wantF f ops o=false) (h:RT P ops S Q rest (upo f o.dst undef) w):RT P ops S Q (.q i rest) f w:=by
  unfold RT; rw [ho]; exact ⟨undef,.inr ⟨hg,rfl⟩,h⟩
theorem ActAt.of {K:(Nat→Value)→World→Prop} (ho:ops[i]? = some o) (h:RL P ops K [o] f w):ActAt P ops K i f w:=by
  unfold ActAt
  rw [ho]
  unfold RL at h
  exact h
theorem RT.act (ho:ops[i]? = some o) (h:RL P ops (fun f' w'=>S w'∧RT P ops S Q rest f' w') [o] f w):RT P ops S Q (.a i rest) f w:=ActAt.of ho h
theorem RT.both (ho:ops[i]? = some o) (ho2:ops[j]? = some o2) (h:RL P ops (fun f' w'=>S w'∧RT P ops S Q rest f' w') [o] f w) (h2:RL P ops (fun f' w'=>S w'∧RT P ops S Q r2 f' w') [o2] f w):RT P ops S Q (.two i rest j r2) f w:=
  ⟨ActAt.of ho h,ActAt.of ho2 h2⟩
end
end
section
open Go.RowKit Go.Maps
set_option linter.unusedSectionVars false
/-- A map as data: how often it was written, and what it holds. -/
structure MapM (κ β:Type) where
  n:Nat
  get:κ→Option β
section
variable {κ β : Type}
def MapM.empty:MapM κ β:=⟨0,fun _=>none⟩
def MapM.put [DecidableEq κ] (m:MapM κ β) (x:κ) (v:β):MapM κ β:=⟨m.n+1,fun y=>if y=x then some v else m.get y⟩
def MapM.look (m:MapM κ β) (x:κ) (z:β):β:=(m.get x).getD z
def rdVal (v:Value):Option (DataW Value × List MemPlace):=some (.held v,[])
/-- A map type: its keys, its elements' zero value. -/
structure MapT (P:Program) (t k:TypeId) (key:κ→Value) (lit:κ→Lit) (good:κ→Prop) (z:Value):Prop where
  keyed:Keyed P k
  ty :∃e,P.underlying t=some (.map k e)∧∀w,(zeroValue e).run P w=.ok z w
  of :∀x,good x→keyOf P k (key x)=some (lit x)
  inj :∀x y,lit x=lit y→x=y
def OwM (P:Program) (k:TypeId) (lit:κ→Lit) (enc:β→Value) (w:World) (lo b:Nat) (m:MapM κ β):Prop:=
  lo≤b∧∃D,w.ownsMap P k rdVal b m.n D∧∀x zd,D.atKey (lit x) zd=match m.get x with|some v=>.held (enc v)|none=>zd
variable {P : Program} {t k : TypeId} {key : κ → Value} {lit : κ → Lit} {good : κ → Prop} {z : Value} {enc : β → Value} {w w' : World} {lo b : Nat} {m : MapM κ β}
theorem OwM.lt (h:OwM P k lit enc w lo b m):b < w.heap.size:=by obtain ⟨_,D,h,_⟩:=h; exact h.lt
theorem OwM.keep (h:OwM P k lit enc w lo b m) (hb:w'.heap[b]? = w.heap[b]?):OwM P k lit enc w' lo b m:=by
  obtain ⟨h0,D,⟨es,clock,h1,F,hs,hD⟩,h2⟩:=h
  exact ⟨h0,D,⟨es,clock,hb.trans h1,F,hs,hD⟩,h2⟩
theorem OwM.below (h:OwM P k lit enc w lo b m) (hb:Below w.heap.size w w'):OwM P k lit enc w' lo b m:=h.keep (hb.block b h.lt)
theorem OwM.only {bs:List Nat} (h:OwM P k lit enc w lo b m) (ho:Only bs w w') (hn:b ∉ bs):OwM P k lit enc w' lo b m:=h.keep (ho.block b hn)
theorem OwM.lower {lo':Nat} (h:OwM P k lit enc w lo b m) (hl:lo'≤lo):OwM P k lit enc w lo' b m:=⟨Nat.le_trans hl h.1,h.2⟩
theorem OwM.new:OwM P k lit enc (w.alloc (.map #[] 0)) w.heap.size w.heap.size (MapM.empty:MapM κ β):=
  ⟨Nat.le_refl _,.map [],World.ownsMap_made w P k rdVal,fun x zd=>rfl⟩
theorem OwM.look {zb:β} (h:OwM P k lit enc w lo b m) (T:MapT P t k key lit good (enc zb)) {x:κ} (hx:good x):(Instr.lookup t (.map (some b)) (key x) false).run P w=.ok (enc (m.look x zb)) w:=by
  obtain ⟨_,D,h1,h2⟩:=h
  obtain ⟨e,ht,hz⟩:=T.ty
  obtain ⟨v,ps,hr,hv⟩:=h1.lookup T.keyed ht (hz w) (zd:=.held (enc zb)) (zp:=[]) rfl (T.of x hx)
  rw [hr]
  have h3:=h2 x (.held (enc zb))
  rw [h3] at hv
  unfold MapM.look
  cases hg:m.get x with
  |none=>rw [hg] at hv; simp only [rdVal,Option.some.injEq,Prod.mk.injEq,DataW.held.injEq] at hv; rw [hv.1]; rfl
  |some u=>rw [hg] at hv; simp only [rdVal,Option.some.injEq,Prod.mk.injEq,DataW.held.injEq] at hv; rw [hv.1]; rfl
theorem OwM.set [DecidableEq κ] {v:β} (h:OwM P k lit enc w lo b m) (T:MapT P t k key lit good z) {x:κ} (hx:good x) (hn:m.n≤4294967296) :
    ∃w',(Instr.mapUpdate t (.map (some b)) (key x) (enc v)).run P w=.ok () w'∧OwM P k lit enc w' lo b (m.put x v)∧Only [b] w w':=by
  obtain ⟨h0,D,h1,h2⟩:=h
  obtain ⟨e,ht,hz⟩:=T.ty
  obtain ⟨w',hr,h3,h4⟩:=h1.store T.keyed ht (by unfold maxLen; omega) (T.of x hx) (d:=.held (enc v)) (ps:=[]) rfl
  refine ⟨w',hr,⟨h0,_,h3,fun y zd=>?_⟩,?_⟩
  · unfold MapM.put
    by_cases hy:y=x
    · subst hy
      simp only [if_true]
      exact atKey_put_same h1.isMap (T.keyed.key (T.of y hx)) _ _
    · simp only [if_neg hy]
      rw [atKey_put_other (fun e=>hy (T.inj _ _ e))]
      exact h2 y zd
  · obtain ⟨es,clock,es',clock',hb,rfl⟩:=h4
    refine ⟨rfl,rfl,rfl,by simp [ChangeMaps.setBlock],fun j hj=>?_⟩
    exact ChangeMaps.heap_setBlock_other hb _ (by simpa using hj)
end
section
variable {κ β : Type} [DecidableEq κ] {P : Program} {t k : TypeId} {key : κ → Value} {lit : κ → Lit} {good : κ → Prop} {enc : β → Value} {w : World} {lo b : Nat} {m : MapM κ β}
variable {C : World → Prop} {f : Nat → Value} {d : Option Tmp} {ty : TypeId} {pos : String} {af : Array Edge} {g : Option (Nat × Bool)} {x y u : Operand} {ops : Array Oper} {rest : List Oper} {Q : (Nat → Value) → World → Prop}
theorem Y.look {a:κ} {zb:β} (T:MapT P t k key lit good (enc zb)) (hx:ev f x=.map (some b)) (hy:ev f y=key a) (ha:good a) (hC :∀w,C w→OwM P k lit enc w lo b m):Y P C f ⟨d,.lookup t x y false,ty,pos,af,g⟩ (enc (m.look a zb)):=fun w hw=>by
  simp [execOp,hx,hy,(hC w hw).look T ha]
theorem RL.mapSet {a:κ} {v:β} {z:Value} (T:MapT P t k key lit good z) (hg:wantF f ops ⟨d,.mapUpdate t x y u,ty,pos,af,g⟩=true) (hx:ev f x=.map (some b)) (hy:ev f y=key a) (hu:ev f u=enc v) (ha:good a) (hm:OwM P k lit enc w lo b m) (hn:m.n≤4294967296)
    (h :∀w1,OwM P k lit enc w1 lo b (m.put a v)→Only [b] w w1→RL P ops Q rest (upo f d undef) w1):RL P ops Q (⟨d,.mapUpdate t x y u,ty,pos,af,g⟩ :: rest) f w:=by
  refine .inl ⟨hg,?_⟩
  obtain ⟨w1,hr,h1,h2⟩:=hm.set (v:=v) T ha hn
  have hr:(execOp (ev f) ⟨d,.mapUpdate t x y u,ty,pos,af,g⟩).run P w=.ok .skip w1:=by simp [execOp,hx,hy,hu,hr]
  rw [hr]
  exact h _ h1 h2
theorem RL.makeMap (k:TypeId) (lit:κ→Lit) (enc:β→Value) (hg:wantF f ops ⟨d,.makeMap t none,ty,pos,af,g⟩=true)
    (h :∀w1,OwM P k lit enc w1 w.heap.size w.heap.size (MapM.empty:MapM κ β)→Below w.heap.size w w1→w1.heap.size=w.heap.size+1→RL P ops Q rest (upo f d (.map (some w.heap.size))) w1):RL P ops Q (⟨d,.makeMap t none,ty,pos,af,g⟩ :: rest) f w:=by
  refine .inl ⟨hg,?_⟩
  have hr:(execOp (ev f) ⟨d,.makeMap t none,ty,pos,af,g⟩).run P w=.ok (.value (.map (some w.heap.size))) (w.alloc (.map #[] 0)):=by
    simp [execOp,run_makeMap]
  rw [hr]
  exact h _ OwM.new (below_alloc _ _) (World.size_alloc _ _)
end
section
variable {f : Nat → Value}
theorem pm8 {i1 i2 i3 i4 i5 i6 i7 i8:Nat} {x1 x2 x3 x4 x5 x6 x7 x8:Operand} {v1 v2 v3 v4 v5 v6 v7 v8:Value} (h1:ev f x1=v1) (h2:ev f x2=v2) (h3:ev f x3=v3) (h4:ev f x4=v4) (h5:ev f x5=v5) (h6:ev f x6=v6) (h7:ev f x7=v7) (h8:ev f x8=v8) : #[(i1,x1),(i2,x2),(i3,x3),(i4,x4),(i5,x5),(i6,x6),(i7,x7),(i8,x8)].map (fun p=>(p.1,ev f p.2)) = #[(i1,v1),(i2,v2),(i3,v3),(i4,v4),(i5,v5),(i6,v6),(i7,v7),(i8,v8)]:=by simp [h1,h2,h3,h4,h5,h6,h7,h8]
end
section
variable {P : Program} {C : World → Prop} {f : Nat → Value} {d : Option Tmp} {ty : TypeId} {pos : String} {af : Array Edge} {g : Option (Nat × Bool)} {x y : Operand} {ats : Array TypeId} {k : IntKind} {a b : Int}
theorem Y.max (hx:ev f x=.int k a) (hy:ev f y=.int k b):Y P C f ⟨d,.call ⟨.builtin .max,#[x,y],ats⟩,ty,pos,af,g⟩ (.int k (if b > a then b else a)):=fun w _=>by
  simp [execOp,resolve,invoke,builtin,hx,hy,Builtin.max_,Builtin.max2]
end
end
section
open Go.RowKit
set_option maxRecDepth 100000
def encVB (x:Bool):Value:=.bool x
end
section
open Go.RowKit
/-- A pointer at a part of a box. -/
theorem ptBoxS {α:Type} {R:Rd α} {w:World} {x:α} {g o:Nat} {t:TypeId} {pre cs post:List Value} (hb:Blk w g t (pre ++ cs ++ post).toArray) (hR:R w w.heap.size cs x) (ho:pre.length=o):Pt R w (.pointer (some ⟨g,o,none⟩)) x:=
  ⟨g,o,cs,rfl,hb.lt,hR,fun j v hj=>by
    subst ho
    rw [hb.cell]
    have hl:j < cs.length:=lt_of_some hj
    simp only [List.getElem?_toArray]
    rw [List.append_assoc,List.getElem?_append_right (by omega),Nat.add_sub_cancel_left,List.getElem?_append_left hl]
    exact hj⟩
theorem app_impl_Type:AppT Tryz.prog 36 114 (.agg #[.int .i64 0,.string ByteArray.empty,.slice none 0 0]) 3 48:=⟨by kernel_rfl,by kernel_rfl,rfl,by decide⟩
theorem app_impl_Type_:AppT Tryz.prog 43 36 (.slice none 0 0) 1 24:=⟨by kernel_rfl,by kernel_rfl,rfl,by decide⟩
theorem app_impl_Constructor:AppT Tryz.prog 165 173 (.agg #[.string ByteArray.empty,.slice none 0 0]) 2 40:=⟨by kernel_rfl,by kernel_rfl,rfl,by decide⟩
theorem app_impl_Data:AppT Tryz.prog 35 167 (.agg #[.string ByteArray.empty,.slice none 0 0]) 2 40:=⟨by kernel_rfl,by kernel_rfl,rfl,by decide⟩
theorem app_impl_TypedNet:AppT Tryz.prog 53 45 (.agg #[.slice none 0 0,.slice none 0 0]) 2 48:=⟨by kernel_rfl,by kernel_rfl,rfl,by decide⟩
end
section
open Go.RowKit
/-- The block of a slice's row. -/
def fb (v:Value):List Nat:=v.ownBlock.toList
/-- Two lists of blocks lie apart. -/
def Ap (l m:List Nat):Prop:=∀b∈l,b ∉ m
section
variable {l m x l' l2 : List Nat} {k g : Nat} {v u v' : Value}
theorem mem_fb {b:Nat} : b∈fb v↔v.ownBlock=some b:=by simp [fb]
theorem Ap.symm (h:Ap l m):Ap m l:=fun b h1 h2=>h b h2 h1
theorem Ap.nil:Ap [] m:=fun b h=>by simp at h
theorem Ap.new (h1 :∀b∈l,k≤b) (h2 :∀b∈x,b < k):Ap l x:=fun b h h'=>by have:=h1 b h; have:=h2 b h'; omega
theorem Ap.one (h:Ap l [g]):g ∉ l:=fun hg=>h g hg (by simp)
theorem Ap.far (h :∀b∈l,b < g):Ap l [g]:=fun b hb h'=>by simp at h'; subst h'; exact absurd (h b hb) (Nat.lt_irrefl _)
theorem Ap.cons (h1:Ap [g] x) (h2:Ap l x):Ap (g :: l) x:=fun b hb h'=>by
  rcases List.mem_cons.1 hb with rfl|hb
  · exact h1 b (by simp) h'
  · exact h2 b hb h'
theorem Ap.append (h1:Ap l x) (h2:Ap m x):Ap (l ++ m) x:=fun b hb h'=>by
  rcases List.mem_append.1 hb with hb|hb
  · exact h1 b hb h'
  · exact h2 b hb h'
theorem Dj.ap (h:Dj v u):Ap (fb v) (fb u):=fun b h1 h2=>h b (mem_fb.1 h1) (mem_fb.1 h2)
theorem Ap.dj (h:Ap (fb v) (fb u)):Dj v u:=fun b h1 h2=>h b (mem_fb.2 h1) (mem_fb.2 h2)
theorem ne_ap (h:v.ownBlock ≠ some g):Ap (fb v) [g]:=fun b h1 h2=>by simp at h2; subst h2; exact h (mem_fb.1 h1)
theorem ap_ne (h:Ap (fb v) [g]):v.ownBlock ≠ some g:=fun h1=>h g (mem_fb.2 h1) (by simp)
end
/-- Elements one behind the other, with what they own. -/
def Parts {α:Type} (O:Ow α) (w:World):List Value→List α→List Nat→Prop
  |cells,[],ib=>cells=[]∧ib=[]
  |cells,x :: xs,ib=>∃cs rest b1 b2,cells=cs ++ rest∧O w cs x b1∧ib=b1 ++ b2∧Parts O w rest xs b2
/-- A slice of the call's own: its row from block lo on, its elements' blocks (no two alike, none the row's), all among bs. -/
def OwN {α:Type} (e:TypeId) (O:Ow α) (sz:Nat) (w:World) (lo:Nat) (v:Value) (xs:List α) (bs:List Nat):Prop:=
  ∃cells ib,w.ownsRow lo e sz v xs.length cells∧Parts O w cells xs ib∧ib.Nodup∧(∀b∈ib,b∈bs)∧(∀b,v.ownBlock=some b→b∈bs∧b ∉ ib)∧(∀b∈bs,lo≤b∧b < w.heap.size)
/-- What an element's cells are: one value each. -/
def OneC {α:Type} (O:Ow α):Prop:=∀{w cs x bs},O w cs x bs→∀u∈cs,u.oneCell'=true
theorem agentOw_one:OneC agentOw:=fun ⟨A1,n1,c1,A2,n2,c2,b1,b2,e,_⟩ u hu=>by rw [e] at hu; simp at hu; rcases hu with rfl|rfl|rfl|rfl|rfl <;> rfl
theorem slOw_one {α:Type} {O:Ow α} {sz:Nat} : OneC (slOw O sz):=fun ⟨A,n,c,e,_⟩ u hu=>by rw [e] at hu; simp at hu; subst hu; rfl
section
variable {α : Type} {O : Ow α} {R : Rd α} {sz : Nat} {w w' : World} {lo lo' : Nat} {v : Value} {xs ys : List α} {x : α} {bs : List Nat} {e : TypeId}
theorem Parts.keep (ok:OwOk O sz) :∀{xs:List α} {cells:List Value} {ib:List Nat},(∀b∈ib,w'.heap[b]? = w.heap[b]?)→Parts O w cells xs ib→Parts O w' cells xs ib
  |[],_,_,_,h=>h
  |x :: xs,_,_,hb,⟨cs,rest,b1,b2,e1,hO,e2,hr⟩=>by
    subst e1 e2
    exact ⟨cs,rest,b1,b2,rfl,ok.keep (fun b h=>hb b (by simp [h])) hO,rfl,Parts.keep ok (fun b h=>hb b (by simp [h])) hr⟩
theorem Parts.append :∀{xs ys:List α} {c1 c2:List Value} {i1 i2:List Nat},Parts O w c1 xs i1→Parts O w c2 ys i2→Parts O w (c1 ++ c2) (xs ++ ys) (i1 ++ i2)
  |[],_,_,_,_,_,⟨e1,e2⟩,h2=>by subst e1 e2; exact h2
  |x :: xs,_,_,_,_,_,⟨cs,rest,b1,b2,e1,hO,e2,hr⟩,h2=>by
    subst e1 e2
    exact ⟨cs,_,b1,_,by rw [List.append_assoc],hO,by rw [List.append_assoc],Parts.append hr h2⟩
theorem Parts.one {cs:List Value} {b:List Nat} (h:O w cs x b):Parts O w cs [x] b:=⟨cs,[],b,[],by simp,h,by simp,rfl,rfl⟩
theorem Parts.len (ok:OwOk O sz) :∀{xs:List α} {cells:List Value} {ib:List Nat},Parts O w cells xs ib→cells.length=xs.length * sz
  |[],_,_,⟨e,_⟩=>by rw [e]; simp
  |x :: xs,_,_,⟨cs,rest,b1,b2,e1,hO,e2,hr⟩=>by
    subst e1
    rw [List.length_append,ok.len hO,Parts.len ok hr,List.length_cons,Nat.add_mul]; omega
theorem Parts.elAt (ok:OwOk O sz) {g:Nat} {cur:Array Value} (hb:Blk w g e cur) :∀{xs:List α} {cells:List Value} {ib:List Nat} (o:Nat),(∀(j:Nat) (u:Value),cells[j]? = some u→cur[o+j]? = some u)→Parts O w cells xs ib→ElAt O sz w g o xs ib
  |[],_,_,o,_,⟨_,e⟩=>e
  |x :: xs,_,_,o,hc,⟨cs,rest,b1,b2,e1,hO,e2,hr⟩=>by
    subst e1 e2
    have hl:=ok.len hO
    refine ⟨cs,b1,b2,hO,hb.csAt (fun j u hj=>hc j u ?_),rfl,Parts.elAt ok hb (o+sz) (fun j u hj=>?_) hr⟩
    · rw [List.getElem?_append_left (lt_of_some hj)]; exact hj
    · have:=hc (sz+j) u (by rw [List.getElem?_append_right (by omega),hl,show sz+j - sz=j by omega]; exact hj)
      rwa [show o+(sz+j)=o+sz+j by omega] at this
/-- One element of many. -/
theorem Parts.split (ok:OwOk O sz) :∀{xs:List α} {cells:List Value} {ib:List Nat} {k:Nat} {x:α},Parts O w cells xs ib→xs[k]? = some x→
    ∃c1 cs c2 i1 b1 i2,cells=c1 ++ cs ++ c2∧c1.length=k * sz∧O w cs x b1∧ib=i1 ++ (b1 ++ i2)∧∀w' cs' x' b1',(∀b∈i1 ++ i2,w'.heap[b]? = w.heap[b]?)→O w' cs' x' b1'→Parts O w' (c1 ++ cs' ++ c2) (xs.set k x') (i1 ++ (b1' ++ i2))
  |[],_,_,_,_,_,h=>by simp at h
  |y :: ys,_,_,0,x,⟨cs,rest,b1,b2,e1,hO,e2,hr⟩,h=>by
    have:y=x:=by simpa using h
    subst this
    subst e1 e2
    exact ⟨[],cs,rest,[],b1,b2,by simp,by simp,hO,by simp,fun w' cs' x' b1' hb hO'=>⟨cs',rest,b1',b2,by simp,hO',by simp,Parts.keep ok (fun b h=>hb b (by simp [h])) hr⟩⟩
  |y :: ys,_,_,k+1,x,⟨cs,rest,b1,b2,e1,hO,e2,hr⟩,h=>by
    subst e1 e2
    obtain ⟨c1,cs2,c2,i1,b3,i2,f1,f2,f3,f4,f5⟩:=Parts.split ok hr (by simpa using h)
    subst f1 f4
    refine ⟨cs ++ c1,cs2,c2,b1 ++ i1,b3,i2,by simp,by rw [List.length_append,ok.len hO,f2,Nat.add_mul]; omega,f3,by simp,fun w' cs' x' b1' hb hO'=>?_⟩
    refine ⟨cs,_,b1,_,by simp [List.append_assoc],ok.keep (fun b h=>hb b (by simp [h])) hO,by simp [List.append_assoc],f5 w' cs' x' b1' (fun b h=>hb b (by simp at h ⊢; rcases h with h|h <;> simp [h])) hO'⟩
theorem OwN.keep (ok:OwOk O sz) (h:OwN e O sz w lo v xs bs) (hk :∀b∈bs,w'.heap[b]? = w.heap[b]?) (hs:w.heap.size≤w'.heap.size):OwN e O sz w' lo v xs bs:=by
  obtain ⟨cells,ib,h1,h2,h3,h4,h5,h6⟩:=h
  refine ⟨cells,ib,?_,h2.keep ok (fun b hb=>hk b (h4 b hb)),h3,h4,h5,fun b hb=>by have:=h6 b hb; omega⟩
  refine ⟨h1.1,?_⟩
  rcases h1.2 with h|⟨g,cap,cur,hv,hg,hh,r⟩
  · exact .inl h
  · exact .inr ⟨g,cap,cur,hv,hg,(hk g (h5 g (by rw [hv]; rfl)).1).trans hh,r⟩
theorem OwN.hi (h:OwN e O sz w lo v xs bs) :∀b∈bs,b < w.heap.size:=by obtain ⟨cells,ib,h1,h2,h3,h4,h5,h6⟩:=h; exact fun b hb=>(h6 b hb).2
theorem OwN.lo_ (h:OwN e O sz w lo v xs bs) :∀b∈bs,lo≤b:=by obtain ⟨cells,ib,h1,h2,h3,h4,h5,h6⟩:=h; exact fun b hb=>(h6 b hb).1
theorem OwN.row (h:OwN e O sz w lo v xs bs) {b:Nat} (hb:v.ownBlock=some b):b∈bs:=by obtain ⟨cells,ib,h1,h2,h3,h4,h5,h6⟩:=h; exact (h5 b hb).1
theorem OwN.below (ok:OwOk O sz) (h:OwN e O sz w lo v xs bs) (hb:Below w.heap.size w w'):OwN e O sz w' lo v xs bs:=h.keep ok (fun b hin=>hb.block b (h.hi b hin)) hb.size
theorem OwN.only {b:Nat} (ok:OwOk O sz) (h:OwN e O sz w lo v xs bs) (ho:Only [b] w w') (hn:b ∉ bs):OwN e O sz w' lo v xs bs:=h.keep ok (fun k hk=>ho.block k (by intro hin; simp at hin; subst hin; exact hn hk)) (Nat.le_of_eq ho.size.symm)
theorem OwN.mono (h:OwN e O sz w lo v xs bs) (hl:lo'≤lo):OwN e O sz w lo' v xs bs:=by
  obtain ⟨cells,ib,h1,h2,h3,h4,h5,h6⟩:=h
  refine ⟨cells,ib,?_,h2,h3,h4,h5,fun b hb=>by have:=h6 b hb; omega⟩
  refine ⟨h1.1,?_⟩
  rcases h1.2 with h|⟨g,cap,cur,hv,hg,r⟩
  · exact .inl h
  · exact .inr ⟨g,cap,cur,hv,by omega,r⟩
theorem OwN.nil:OwN e O sz w lo (.slice none 0 0) ([] : List α) []:=⟨[],[],⟨by simp,.inl ⟨rfl,rfl⟩⟩,⟨rfl,rfl⟩,List.nodup_nil,fun b hb=>by simp at hb,fun b hb=>by simp [Value.ownBlock] at hb,fun b hb=>by simp at hb⟩
theorem OwN.form (h:OwN e O sz w lo v xs bs) :∃A c,v=.slice A xs.length c:=by
  obtain ⟨cells,ib,h1,_⟩:=h
  rcases h1.2 with ⟨rfl,h0⟩|⟨g,cap,cur,hv,_⟩
  · exact ⟨none,0,by rw [h0]⟩
  · exact ⟨_,_,hv⟩
theorem OwN.bound (h:OwN e O sz w lo v xs bs):xs.length≤9223372036854775807:=by
  obtain ⟨cells,ib,h1,_⟩:=h
  rcases h1.2 with ⟨_,h0⟩|⟨g,cap,cur,hv,hg,hh,h1,h2,_⟩
  · omega
  · unfold maxLen at h2; omega
theorem OwN.addr0 {A:Option Addr} {n c:Nat} (h:OwN e O sz w lo (.slice A n c) xs bs) (hn:0 < n) :∃b,A=some ⟨b,0,none⟩:=by
  obtain ⟨cells,ib,h1,_⟩:=h
  rcases h1.2 with ⟨h0,_⟩|⟨g,cap,cur,hv,_⟩
  · injection h0 with h1 h2; omega
  · injection hv with h1; exact ⟨g,h1⟩
theorem OwN.own1 (ok:OwOk O sz) (h:OwN e O sz w lo v xs bs) :∃A n c l,v=.slice A n c∧OwAt O sz w A n xs l∧l.Nodup∧(∀b∈l,b∈bs)∧n≤c∧c≤maxLen:=by
  obtain ⟨cells,ib,h1,h2,h3,h4,h5,h6⟩:=h
  rcases h1.2 with ⟨rfl,h0⟩|⟨g,cap,cur,rfl,hg,hh,k1,k2,k3,k4⟩
  · have:xs=[]:=List.eq_nil_of_length_eq_zero h0
    subst this
    exact ⟨none,0,0,[],rfl,⟨rfl,.inl ⟨rfl,rfl⟩⟩,List.nodup_nil,fun b hb=>by simp at hb,Nat.le_refl _,Nat.zero_le _⟩
  · obtain ⟨hg1,hg2⟩:=h5 g rfl
    refine ⟨some ⟨g,0,none⟩,_,cap,g :: ib,rfl,⟨rfl,.inr ⟨g,0,ib,rfl,rfl,?_⟩⟩,List.nodup_cons.2 ⟨hg2,h3⟩,fun b hb=>by
      rcases List.mem_cons.1 hb with rfl|hb
      · exact hg1
      · exact h4 b hb,k1,k2⟩
    refine h2.elAt (e:=e) ok (cur:=cur) hh 0 (fun j u hj=>?_)
    rw [← k4,List.getElem?_take] at hj
    split at hj
    · simpa using hj
    · cases hj
theorem OwN.own (ok:OwOk O sz) (h:OwN e O sz w lo v xs bs):OwS O sz w v xs lo w.heap.size:=by
  obtain ⟨A,n,c,l,e1,h1,h2,h3,r⟩:=h.own1 ok
  exact ⟨A,n,c,l,e1,h1,h2,fun b hb=>⟨h.lo_ b (h3 b hb),h.hi b (h3 b hb)⟩,r⟩
theorem OwN.rdS (ok:OwOk O sz) (hR:Gives O R w.heap.size) (h:OwN e O sz w lo v xs bs):RdS R sz w w.heap.size v xs:=(h.own ok).reads hR (Nat.le_refl _)
theorem OwN.arg (ok:OwOk O sz) (hR:Gives O R w.heap.size) (h:OwN e O sz w lo v xs bs):Sl R sz w v xs:=h.rdS ok hR
theorem nodup2 {l1 l2 m1 m2:List Nat} (h1:l1.Nodup) (h2:l2.Nodup) (s1 :∀b∈l1,b∈m1) (s2 :∀b∈l2,b∈m2) (D:Ap m1 m2):(l1 ++ l2).Nodup:=List.nodup_append.2 ⟨h1,h2,fun a ha b hb e=>by subst e; exact D a (s1 a ha) (s2 a hb)⟩
theorem sub2 {l1 l2 m1 m2:List Nat} (s1 :∀b∈l1,b∈m1) (s2 :∀b∈l2,b∈m2) :∀b∈l1 ++ l2,b∈m1 ++ m2:=fun b hb=>by
  rcases List.mem_append.1 hb with h|h
  · simp [s1 b h]
  · simp [s2 b h]
theorem all2 {p:Nat→Prop} {l1 l2:List Nat} (s1 :∀b∈l1,p b) (s2 :∀b∈l2,p b) :∀b∈l1 ++ l2,p b:=fun b hb=>by
  rcases List.mem_append.1 hb with h|h
  · exact s1 b h
  · exact s2 b h
end
theorem ptSub {α:Type} {R:Rd α} {sz:Nat} {w w':World} {x:α} (ok:RdOk R sz) {b o:Nat} {pre cs post:List Value} (hb:b < w.heap.size) (hR:R w w.heap.size cs x) (hc :∀j v,(pre ++ cs ++ post)[j]? = some v→w.cell? ⟨b,o+j,none⟩=some v) (T:Below w.heap.size w w'):Pt R w' (.pointer (some ⟨b,o+pre.length,none⟩)) x:=
  ptArg ok hb hR (fun j v hj=>by
    have h:=hc (pre.length+j) v (by rw [List.append_assoc,List.getElem?_append_right (by omega),show pre.length+j - pre.length=j by omega,List.getElem?_append_left (lt_of_some hj)]; exact hj)
    rwa [← Nat.add_assoc] at h) T
theorem toN {t:Int} {v:Value} (h:0≤t) (e:v=.int .i64 t):v=.int .i64 (t.toNat:Int):=by rw [e,Int.toNat_of_nonneg h]
theorem setI_at {α:Type} {xs:List α} {i:Int} {k:Nat} {x:α} (hi:i=(k:Int)) (hk:k < xs.length):(setI xs i x)[k]? = some x:=by
  subst hi
  rw [setI_nat,List.getElem?_set_self hk]
section
variable {α : Type} {R : Rd α} {O : Ow α} {enc : α → List Value} {sz : Nat} {w w' : World} {lo lo' : Nat} {v : Value} {xs ys : List α} {e : TypeId}
theorem OwF.own2 {A:Option Addr} {n c:Nat} (F:FlatT R O enc sz) (h:OwF e enc sz w lo (.slice A n c) xs) :∃l,OwAt O sz w A n xs l∧l.Nodup∧(∀b∈l,b∈fb (.slice A n c))∧n≤c∧c≤maxLen:=by
  rcases h.2 with ⟨hv,h0⟩|⟨g,cap,cur,hv,hg,hh,h1,h2,h3,h4⟩
  · injection hv with e1 e2 e3
    subst e1 e2 e3
    have:xs=[]:=List.eq_nil_of_length_eq_zero h0
    subst this
    exact ⟨[],⟨rfl,.inl ⟨rfl,rfl⟩⟩,List.nodup_nil,fun b hb=>by simp at hb,Nat.le_refl _,Nat.zero_le _⟩
  · injection hv with e1 e2 e3
    subst e1 e2 e3
    obtain ⟨A',n',c',l,he,hA,hn,hl,hc1,hc2⟩:=h.own F
    injection he with e1 e2 e3
    subst e1 e2 e3
    by_cases hx:xs=[]
    · subst hx; exact ⟨[],⟨rfl,.inl ⟨rfl,rfl⟩⟩,List.nodup_nil,fun b hb=>by simp at hb,hc1,hc2⟩
    · rcases hA.2 with ⟨h5,_⟩|⟨b,o,b2,h5,h6,h7⟩
      · exact absurd h5 hx
      · injection h5 with h5
        injection h5 with h5
        subst h5
        have hflat :∀(l:List α) (o:Nat) (k:List Nat),ElAt O sz w g o l k→k=[]→True:=fun _ _ _ _ _=>trivial
        refine ⟨[g],⟨hA.1,.inr ⟨g,0,[],rfl,rfl,?_⟩⟩,by simp,fun b hb=>by simpa [fb,Value.ownBlock] using hb,hc1,hc2⟩
        have hblk:Blk w g e cur:=hh
        have key :∀(l:List α) (o:Nat),(∀j u,(l.flatMap enc)[j]? = some u→cur[o+j]? = some u)→ElAt O sz w g o l []:=by
          intro l
          induction l with
          |nil=>intro o _; rfl
          |cons x l ih=>
            intro o hl
            refine ⟨enc x,[],[],F.ow,hblk.csAt (fun j u hj=>hl j u ?_),rfl,ih (o+sz) (fun j u hj=>?_)⟩
            · simp only [List.flatMap_cons]
              rw [List.getElem?_append_left (lt_of_some hj)]; exact hj
            · have:=hl (sz+j) u (by
                simp only [List.flatMap_cons]
                rw [List.getElem?_append_right (by rw [F.len]; omega),F.len,show sz+j - sz=j by omega]; exact hj)
              rwa [show o+(sz+j)=o+sz+j by omega] at this
        refine key xs 0 (fun j u hj=>?_)
        rw [← h4,List.getElem?_take] at hj
        split at hj
        · simpa using hj
        · cases hj
theorem OwF.fhi (h:OwF e enc sz w lo v xs) :∀b∈fb v,b < w.heap.size:=fun b hb=>h.hi b (mem_fb.1 hb)
theorem OwF.flo (h:OwF e enc sz w lo v xs) :∀b∈fb v,lo≤b:=fun b hb=>h.lo_ b (mem_fb.1 hb)
theorem OwF.fboth (h:OwF e enc sz w lo v xs) {g:Nat} (hg:w.heap.size≤g) :∀b∈fb v,lo≤b∧b < g:=fun b hb=>⟨h.flo b hb,Nat.lt_of_lt_of_le (h.fhi b hb) hg⟩
theorem one_hi {g:Nat} (h:g < w.heap.size) :∀b∈[g],b < w.heap.size:=fun b hb=>by simp at hb; subst hb; exact h
variable {O' : Ow α} {bs : List Nat} {u : Value}
/-- Another slice of the call's own, while the row of v grows or is written. -/
theorem OwN.dj (h:OwN e O' sz w lo v xs bs) (A:Ap bs (fb u)):Dj u v:=fun b h1 h2=>A b (h.row h2) (mem_fb.2 h1)
theorem OwN.both (h:OwN e O' sz w lo v xs bs) {g:Nat} (hg:w.heap.size≤g) :∀b∈bs,lo≤b∧b < g:=fun b hb=>⟨h.lo_ b hb,Nat.lt_of_lt_of_le (h.hi b hb) hg⟩
end
end
section
open Go.RowKit
section
variable {α : Type} {R : Rd α} {O : Ow α} {enc : α → List Value} {sz B n c l lo : Nat} {w w' : World} {A Av : Option Addr} {xs : List α} {bs : List Nat} {e : TypeId}
theorem SlAt.dropV (h:SlAt R sz w B A n xs) (r:n≤c∧c≤maxLen) (hl:l≤xs.length) (eA:(if c=l then A else A.map (·.add (l * sz)))=Av):SlAt R sz w B Av (xs.length - l) (xs.drop l)∧xs.length - l≤c - l∧c - l≤maxLen:=by
  have hn:=h.1
  refine ⟨⟨by rw [List.length_drop],fun h0=>?_⟩,by omega,by omega⟩
  obtain ⟨b,off,ea,hb,hc⟩:=h.2 (by omega)
  subst ea
  rw [if_neg (by omega)] at eA
  subst eA
  refine ⟨b,off+l * sz,by simp only [Option.map_some,Addr.add_eq],hb,fun i x hx=>?_⟩
  rw [List.getElem?_drop] at hx
  obtain ⟨cs,h1,h2⟩:=hc _ x hx
  refine ⟨cs,h1,fun j v hj=>?_⟩
  have:=h2 j v hj
  rwa [Nat.add_mul,← Nat.add_assoc] at this
end
section
variable {P : Program} {C : World → Prop} {f : Nat → Value} {d : Option Tmp} {ty : TypeId} {pos : String} {af : Array Edge} {g : Option (Nat × Bool)} {x y : Operand} {t : TypeId} {A Av : Option Addr} {n c : Nat}
theorem Y.sliceL {l sz N:Nat} {k:IntKind} {j:Int} (hx:ev f x=.slice A N c) (hy:ev f y=.int k j) (hj:j=(l:Int)) (hl:l≤N) (ht:elemO P t=some sz) (eA:(if c=l then A else A.map (·.add (l * sz)))=Av) :
    Y P C f ⟨d,.slice t x (some y) none none,ty,pos,af,g⟩ (.slice Av (N - l) (c - l)):=fun w _=>by
  subst hj
  unfold elemO at ht
  split at ht
  · rename_i e hu
    cases hinf:P.info? e with
    |none=>rw [hinf] at ht; cases ht
    |some inf=>
      rw [hinf] at ht
      simp at ht
      subst ht
      have he:P.elem t=e:=by simp [Program.elem,hu]
      have hu':P.underlying t=some (.slice (P.elem t)):=by rw [he]; exact hu
      have:=run_slice_l (P:=P) (w:=w) t A N c hu' k (l:Int) (by omega) (by omega)
      simp [execOp,hx,hy,run_sliceAt_slice,hu',this,he,sizeOf,typeInfo,hinf,sliced,eA]
  · cases ht
end
section
variable {C : World → Prop} {b o : Nat} {v0 v1 v2 : Value}
theorem cells3 (h0:CellIn C ⟨b,o+0,none⟩ v0) (h1:CellIn C ⟨b,o+1,none⟩ v1) (h2:CellIn C ⟨b,o+2,none⟩ v2):CellsIn C b o [v0,v1,v2]:=fun w hw j v hj=>by
  match j,hj with
  | 0, hj => obtain rfl : v0 = v := by simpa using hj
             exact h0 w hw
  | 1, hj => obtain rfl : v1 = v := by simpa using hj
             exact h1 w hw
  | 2, hj => obtain rfl : v2 = v := by simpa using hj
             exact h2 w hw
  |_+3,hj=>simp at hj
end
end
section
open Go.RowKit
theorem setI_eq {α:Type} {xs:List α} {i:Int} {k:Nat} {x:α} (h:i=(k:Int)):setI xs i x=xs.set k x:=by subst h; rfl
/-- Only the rows of v1 and v2 may have turned, of what was there. -/
structure KeepV (v1 v2:Value) (w w':World):Prop where
  size:w.heap.size≤w'.heap.size
  block :∀b,b < w.heap.size→v1.ownBlock ≠ some b→v2.ownBlock ≠ some b→w'.heap[b]? = w.heap[b]?
section
variable {v1 v2 v : Value} {w w' w2 : World} {b : Nat}
theorem KeepV.refl (v1 v2:Value) (w:World):KeepV v1 v2 w w:=⟨Nat.le_refl _,fun _ _ _ _=>rfl⟩
theorem KeepV.below (K:KeepV v1 v2 w w') (hb:Below w'.heap.size w' w2):KeepV v1 v2 w w2:=⟨Nat.le_trans K.size hb.size,fun b h1 h2 h3=>(hb.block b (Nat.lt_of_lt_of_le h1 K.size)).trans (K.block b h1 h2 h3)⟩
theorem KeepV.far (K:KeepV v1 v2 w w') (ho:Only [b] w' w2) (hg:w.heap.size≤b):KeepV v1 v2 w w2:=⟨Nat.le_trans K.size (Nat.le_of_eq ho.size.symm),fun k h1 h2 h3=>(ho.block k (by simp; omega)).trans (K.block k h1 h2 h3)⟩
end
end
section
open Go.RowKit
section
variable {P : Program} {C : World → Prop} {f : Nat → Value} {d : Option Tmp} {ty : TypeId} {pos : String} {af : Array Edge} {g : Option (Nat × Bool)} {x y : Operand} {t t' : TypeId} {a b : ByteArray}
theorem str_of {P:Program} {t:TypeId} (h:stringT P t=true):P.underlying t=some .string:=by
  unfold stringT at h
  split at h
  · assumption
  · cases h
theorem Y.eqStr (hx:ev f x=.string a) (hy:ev f y=.string b) (ht:stringT P t=true):Y P C f ⟨d,.binOp .eql t x y t',ty,pos,af,g⟩ (.bool (a.toList==b.toList)):=fun w _=>by
  simp only [execOp,hx,hy,Sem.run_bind,eqGuard,Result.andThen_ok]
  simp [binOp,Op.stringOp]
theorem Y.neStr (hx:ev f x=.string a) (hy:ev f y=.string b) (ht:stringT P t=true):Y P C f ⟨d,.binOp .neq t x y t',ty,pos,af,g⟩ (.bool (!(a.toList==b.toList))):=fun w _=>by
  simp only [execOp,hx,hy,Sem.run_bind,eqGuard,Result.andThen_ok]
  simp [binOp,Op.stringOp]
end
end
section
open Go.RowKit
theorem Parts.rep {α:Type} {O:Ow α} {w:World} {zc:List Value} {x0:α} (hO:O w zc x0 []) :∀n:Nat,Parts O w ((List.replicate n ()).flatMap fun _=>zc) (List.replicate n x0) []
  |0=>⟨rfl,rfl⟩
  |n+1=>⟨zc,(List.replicate n ()).flatMap fun _=>zc,[],[],by rw [List.replicate_succ,List.flatMap_cons],hO,rfl,Parts.rep hO n⟩
section
variable {P : Program} {ops : Array Oper} {f : Nat → Value} {rest : List Oper} {Q : (Nat → Value) → World → Prop} {w : World} {d : Option Tmp} {ty : TypeId} {pos : String} {af : Array Edge} {g : Option (Nat × Bool)} {x y : Operand} {t e : TypeId} {z : Value} {sz bb : Nat}
theorem RL.makeN {α:Type} {O:Ow α} {x0:α} {n:Nat} (A:AppT P t e z sz bb) (hp:0 < sz) (hO :∀w,O w z.cells.toList x0 []) (hg:wantF f ops ⟨d,.makeSlice t x y,ty,pos,af,g⟩=true)
    (hx:ev f x=.int .i64 n) (hy:ev f y=.int .i64 n) (hn:n≤4294967296)
    (h :∀w1,OwN e O sz w1 w.heap.size (.slice (some ⟨w.heap.size,0,none⟩) n n) (List.replicate n x0) [w.heap.size]→Below w.heap.size w w1→w1.heap.size=w.heap.size+1→RL P ops Q rest (upo f d (.slice (some ⟨w.heap.size,0,none⟩) n n)) w1):RL P ops Q (⟨d,.makeSlice t x y,ty,pos,af,g⟩ :: rest) f w:=by
  refine .inl ⟨hg,?_⟩
  have hb:bb * n≤281474976710656:=Nat.le_trans (Nat.mul_le_mul A.bb hn) (by decide)
  have hr:(execOp (ev f) ⟨d,.makeSlice t x y,ty,pos,af,g⟩).run P w=.ok (.value (.slice (some ⟨w.heap.size,0,none⟩) n n)) (w.alloc (.cells (madeCells z.cells (n * sz)) e)):=by
    simp [execOp,hx,hy,run_make_sz t e A.und A.info n hb hn w]
  rw [hr]
  have hB:=Blk.new w e (madeCells z.cells (n * sz))
  have hF:=flat_replicate (enc:=fun _:Unit=>z.cells.toList) (z0:=()) (z:=z) rfl A.zs hp n
  refine h _ ?_ (below_alloc _ _) (World.size_alloc _ _)
  refine ⟨(List.replicate n ()).flatMap fun _=>z.cells.toList,[],⟨?_,.inr ⟨w.heap.size,n,_,by simp,Nat.le_refl _,hB,by simp,by unfold maxLen; omega,madeCells_size _ _,?_⟩⟩,Parts.rep (hO _) n,List.nodup_nil,fun b hb=>by simp at hb,fun b hb=>?_,fun b hb=>?_⟩
  · rw [← hF]; simp [madeCells]
  · rw [← hF,List.take_of_length_le (by simp [madeCells])]
  · simp [Value.ownBlock] at hb; subst hb; simp
  · simp at hb; subst hb; rw [World.size_alloc]; omega
theorem RL.storeNW {α:Type} {O:Ow α} {v:Value} {xs:List α} {lo k n c b:Nat} {a a':α} {bs l fp:List Nat} (ok:OwOk O sz) (one:OneC O) (hg:wantF f ops ⟨d,.store t x y,ty,pos,af,g⟩=true) (hx:ev f x=.pointer (some ⟨b,0+k * sz,none⟩)) (hy:ev f y=v)
    (hv:OwN e O sz w lo (.slice (some ⟨b,0,none⟩) n c) xs bs) (hk:xs[k]? = some a) (hO:O w v.cells.toList a' l) (nd:l.Nodup) (sub :∀q∈l,q∈fp) (D:Ap bs fp) (hf :∀q∈fp,lo≤q∧q < w.heap.size) (hs:(P.info? t).map (·.size)=some sz)
    (h :∀w1,OwN e O sz w1 lo (.slice (some ⟨b,0,none⟩) n c) (xs.set k a') (bs ++ fp)→Only [b] w w1→RL P ops Q rest (upo f d undef) w1):RL P ops Q (⟨d,.store t x y,ty,pos,af,g⟩ :: rest) f w:=by
  refine .inl ⟨hg,?_⟩
  cases hi:P.info? t with
  |none=>rw [hi] at hs; cases hs
  |some inf=>
    rw [hi] at hs
    simp only [Option.map_some,Option.some.injEq] at hs
    obtain ⟨cells,ib,q1,q2,q3,q4,q5,q6⟩:=hv
    rcases q1.2 with ⟨h0,hl0⟩|⟨b',cap,cur,hv,hlo,hh,m1,m2,m3,m4⟩
    · cases h0
    · injection hv with e1 e2 e3
      injection e1 with e1
      injection e1 with e1
      subst e1 e2 e3
      obtain ⟨c1,cs,c2,i1,b1,i2,f1,f2,f3,f4,f5⟩:=q2.split ok hk
      have hkl:=lt_of_some hk
      have hcl:=ok.len f3
      have hlen:v.cells.toList.length=sz:=ok.len hO
      have hcs:cells.length=xs.length * sz:=q1.1
      have hkc:k * sz+sz≤xs.length * sz:=by
        have:=Nat.mul_le_mul_right sz (show k+1≤xs.length from hkl)
        rw [Nat.add_mul] at this; omega
      have hcc:xs.length * sz≤cur.size:=by rw [m3]; exact Nat.mul_le_mul_right _ m1
      have hst:=run_storeCells_at (P:=P) b (k * sz) e v.cells.toList 0 cur w hh (by rw [hlen]; omega) (fun u hu=>one hO u hu)
      have hr:(execOp (ev f) ⟨d,.store t x y,ty,pos,af,g⟩).run P w=.ok .skip (w.setRow b (cur.toList.take (k * sz) ++ v.cells.toList ++ cur.toList.drop (k * sz+v.cells.toList.length)).toArray):=by
        simp only [Nat.add_zero] at hst
        have hsz:v.cells.size=inf.size:=by rw [hs,← hlen]; simp
        simp [execOp,hx,hy,Instr.storeAt,Instr.sureAddr,storeVar,sizeOf,typeInfo,hi,hsz,hst]
      rw [hr]
      have hb0:=q5 b rfl
      have hon:=setRow_only w b (cur.toList.take (k * sz) ++ v.cells.toList ++ cur.toList.drop (k * sz+v.cells.toList.length)).toArray
      have hbl:b ∉ l:=fun hin=>D b hb0.1 (sub b hin)
      rw [f4] at q3 q4
      have hi1 :∀q∈i1,q∈bs:=fun q hq=>q4 q (by simp [hq])
      have hi2 :∀q∈i2,q∈bs:=fun q hq=>q4 q (by simp [hq])
      obtain ⟨n1,n2,n3⟩:=List.nodup_append.1 q3
      obtain ⟨n4,n5,n6⟩:=List.nodup_append.1 n2
      have hbb:b ∉ i1∧b ∉ i2:=by
        have:=hb0.2
        rw [f4] at this
        simp at this
        exact ⟨this.1,this.2.2⟩
      refine h _ ⟨c1 ++ v.cells.toList ++ c2,i1 ++ (l ++ i2),⟨?_,.inr ⟨b,c,_,by rw [List.length_set],hlo,setRow_heap w b cur _ e _ hh,by rw [List.length_set]; exact m1,m2,?_,?_⟩⟩,?_,?_,?_,?_,?_⟩ hon
      · rw [f1] at hcs
        simp only [List.length_append,List.length_set] at hcs ⊢
        omega
      · simp only [List.size_toArray,List.length_append,List.length_take,List.length_drop,Array.length_toList,hlen]
        rw [← m3]; omega
      · rw [List.length_set]
        have hsp:=splice_take (A:=cur.toList) (E:=v.cells.toList) (p:=k * sz) (L:=xs.length * sz) (by rw [hlen]; omega) (by simpa using hcc)
        rw [hlen] at hsp ⊢
        show List.take (xs.length * sz) (cur.toList.take (k * sz) ++ v.cells.toList ++ cur.toList.drop (k * sz+sz))=_
        rw [hsp,m4,f1]
        have e5:(c1 ++ cs ++ c2).take (k * sz)=c1:=by
          rw [List.append_assoc,← f2,List.take_left]
        have e6:(c1 ++ cs ++ c2).drop (k * sz+sz)=c2:=by
          rw [← f2,← hcl,← List.length_append,List.drop_left]
        rw [e5,e6]
      · refine f5 _ _ _ _ (fun b' hb'=>hon.block b' (by
          intro hin; simp at hin; subst hin
          rcases List.mem_append.1 hb' with h|h
          · exact hbb.1 h
          · exact hbb.2 h)) (ok.keep (fun b' hb'=>hon.block b' (by intro hin; simp at hin; subst hin; exact hbl hb')) hO)
      · refine List.nodup_append.2 ⟨n1,List.nodup_append.2 ⟨nd,n5,fun a ha b hb e=>?_⟩,fun a ha b hb e=>?_⟩
        · subst e; exact D a (hi2 a hb) (sub a ha)
        · subst e
          rcases List.mem_append.1 hb with h|h
          · exact D a (hi1 a ha) (sub a h)
          · exact n3 a ha a (by simp [h]) rfl
      · intro q hq
        rcases List.mem_append.1 hq with h|h
        · exact List.mem_append.2 (.inl (hi1 q h))
        · rcases List.mem_append.1 h with h|h
          · exact List.mem_append.2 (.inr (sub q h))
          · exact List.mem_append.2 (.inl (hi2 q h))
      · intro q hq
        have hqb:q=b:=by simp [Value.ownBlock] at hq; exact hq.symm
        subst hqb
        refine ⟨List.mem_append.2 (.inl hb0.1),fun hin=>?_⟩
        rcases List.mem_append.1 hin with h|h
        · exact hbb.1 h
        · rcases List.mem_append.1 h with h|h
          · exact hbl h
          · exact hbb.2 h
      · intro q hq
        rw [hon.size]
        rcases List.mem_append.1 hq with h|h
        · exact q6 q h
        · exact hf q h
end
end
section
open Go.RowKit
section
variable {α : Type} {R R' : Rd α} {O O' : Ow α} {sz : Nat} {w : World} {B n b : Nat} {A : Option Addr}
theorem SlAt.congr {xs:List α} (hc :∀y∈xs,∀cs,R w B cs y→R' w B cs y) (h:SlAt R sz w B A n xs):SlAt R' sz w B A n xs:=
  ⟨h.1,fun hn=>by
    obtain ⟨b,off,e,hb,hs⟩:=h.2 hn
    exact ⟨b,off,e,hb,fun i x hx=>by
      obtain ⟨cs,hR,hv⟩:=hs i x hx
      exact ⟨cs,hc x (List.mem_of_getElem? hx) cs hR,hv⟩⟩⟩
theorem ElAt.congr :∀{xs:List α} {o:Nat} {bs:List Nat},(∀y∈xs,∀cs bs,O w cs y bs→O' w cs y bs)→ElAt O sz w b o xs bs→ElAt O' sz w b o xs bs
  |[],_,_,_,h=>h
  |x :: xs,o,_,hc,⟨cs,b1,b2,hO,hcs,e,hr⟩=>⟨cs,b1,b2,hc x (by simp) cs b1 hO,hcs,e,ElAt.congr (fun y hy=>hc y (by simp [hy])) hr⟩
theorem OwAt.congr {xs:List α} {bs:List Nat} (hc :∀y∈xs,∀cs bs,O w cs y bs→O' w cs y bs) (h:OwAt O sz w A n xs bs):OwAt O' sz w A n xs bs:=by
  refine ⟨h.1,?_⟩
  rcases h.2 with h2|⟨b,o,b2,e,e2,h2⟩
  · exact .inl h2
  · exact .inr ⟨b,o,b2,e,e2,h2.congr hc⟩
end
structure DType where
  kind:Int
  name:ByteArray
  kids:List DType
instance:Inhabited DType:=⟨⟨0,ByteArray.empty,[]⟩⟩
def typeRdN:Nat→Rd DType
  |0=>fun _ _ _ _=>False
  |n+1=>fun w B cs x=>∃(A1:Option Addr) (n1 c1:Nat),cs=[.int .i64 x.kind,.string x.name,.slice A1 n1 c1]∧(SlAt (typeRdN n) 3 w B A1 n1 x.kids∧n1≤c1∧c1≤maxLen)
def typeRd:Rd DType:=fun w B cs x=>typeRdN (SizeOf.sizeOf x) w B cs x
def typeOwN:Nat→Ow DType
  |0=>fun _ _ _ _=>False
  |n+1=>fun w cs x bs=>∃(A1:Option Addr) (n1 c1:Nat) (b1:List Nat),cs=[.int .i64 x.kind,.string x.name,.slice A1 n1 c1]∧(OwAt (typeOwN n) 3 w A1 n1 x.kids b1∧n1≤c1∧c1≤maxLen)∧bs=b1
def typeOw:Ow DType:=fun w cs x bs=>typeOwN (SizeOf.sizeOf x) w cs x bs
theorem DType.kid_lt {x y:DType} (h:y∈x.kids):SizeOf.sizeOf y < SizeOf.sizeOf x:=by
  have h1:=List.sizeOf_lt_of_mem h
  obtain ⟨a0,a1,a2⟩:=x
  simp only [DType.mk.sizeOf_spec] at *
  omega
theorem DType.pos (x:DType):0 < SizeOf.sizeOf x:=by
  obtain ⟨a0,a1,a2⟩:=x
  simp only [DType.mk.sizeOf_spec]
  omega
theorem typeRdN_same {w:World} {B:Nat} :∀(n m:Nat) (cs:List Value) (x:DType),SizeOf.sizeOf x≤n→SizeOf.sizeOf x≤m→typeRdN n w B cs x→typeRdN m w B cs x
  |0,_,_,x,h,_,_=>by have:=x.pos; omega
  |_+1,0,_,x,_,h,_=>by have:=x.pos; omega
  |n+1,m+1,cs,x,h,h',⟨A1,n1,c1,e,⟨h1,r1⟩⟩=>⟨A1,n1,c1,e,⟨SlAt.congr (fun y hy cs hR=>typeRdN_same n m cs y (by have:=DType.kid_lt hy; omega) (by have:=DType.kid_lt hy; omega) hR) h1,r1⟩⟩
theorem typeOwN_same {w:World} :∀(n m:Nat) (cs:List Value) (x:DType) (bs:List Nat),SizeOf.sizeOf x≤n→SizeOf.sizeOf x≤m→typeOwN n w cs x bs→typeOwN m w cs x bs
  |0,_,_,x,_,h,_,_=>by have:=x.pos; omega
  |_+1,0,_,x,_,_,h,_=>by have:=x.pos; omega
  |n+1,m+1,cs,x,bs,h,h',⟨A1,n1,c1,b1,e,⟨h1,r1⟩,eb⟩=>⟨A1,n1,c1,b1,e,⟨OwAt.congr (fun y hy cs bs hR=>typeOwN_same n m cs y bs (by have:=DType.kid_lt hy; omega) (by have:=DType.kid_lt hy; omega) hR) h1,r1⟩,eb⟩
section
variable {w : World} {B : Nat} {cs : List Value} {x : DType} {bs : List Nat}
theorem typeRd_out (h:typeRd w B cs x) :∃(A1:Option Addr) (n1 c1:Nat),cs=[.int .i64 x.kind,.string x.name,.slice A1 n1 c1]∧(SlAt typeRd 3 w B A1 n1 x.kids∧n1≤c1∧c1≤maxLen):=by
  obtain ⟨A1,n1,c1,e,⟨h1,r1⟩⟩:=typeRdN_same (SizeOf.sizeOf x) (SizeOf.sizeOf x+1) cs x (Nat.le_refl _) (Nat.le_succ _) h
  exact ⟨A1,n1,c1,e,⟨SlAt.congr (fun y hy cs hR=>typeRdN_same _ _ cs y (Nat.le_of_lt (DType.kid_lt hy)) (Nat.le_refl _) hR) h1,r1⟩⟩
theorem typeRd_in (h :∃(A1:Option Addr) (n1 c1:Nat),cs=[.int .i64 x.kind,.string x.name,.slice A1 n1 c1]∧(SlAt typeRd 3 w B A1 n1 x.kids∧n1≤c1∧c1≤maxLen)):typeRd w B cs x:=by
  obtain ⟨A1,n1,c1,e,⟨h1,r1⟩⟩:=h
  have h:typeRdN (SizeOf.sizeOf x+1) w B cs x:=⟨A1,n1,c1,e,⟨SlAt.congr (fun y hy cs hR=>typeRdN_same _ _ cs y (Nat.le_refl _) (Nat.le_of_lt (DType.kid_lt hy)) hR) h1,r1⟩⟩
  exact typeRdN_same _ _ cs x (Nat.le_succ _) (Nat.le_refl _) h
theorem typeOw_out (h:typeOw w cs x bs) :∃(A1:Option Addr) (n1 c1:Nat) (b1:List Nat),cs=[.int .i64 x.kind,.string x.name,.slice A1 n1 c1]∧(OwAt typeOw 3 w A1 n1 x.kids b1∧n1≤c1∧c1≤maxLen)∧bs=b1:=by
  obtain ⟨A1,n1,c1,b1,e,⟨h1,r1⟩,eb⟩:=typeOwN_same (SizeOf.sizeOf x) (SizeOf.sizeOf x+1) cs x bs (Nat.le_refl _) (Nat.le_succ _) h
  exact ⟨A1,n1,c1,b1,e,⟨OwAt.congr (fun y hy cs bs hR=>typeOwN_same _ _ cs y bs (Nat.le_of_lt (DType.kid_lt hy)) (Nat.le_refl _) hR) h1,r1⟩,eb⟩
theorem typeOw_in (h :∃(A1:Option Addr) (n1 c1:Nat) (b1:List Nat),cs=[.int .i64 x.kind,.string x.name,.slice A1 n1 c1]∧(OwAt typeOw 3 w A1 n1 x.kids b1∧n1≤c1∧c1≤maxLen)∧bs=b1):typeOw w cs x bs:=by
  obtain ⟨A1,n1,c1,b1,e,⟨h1,r1⟩,eb⟩:=h
  have h:typeOwN (SizeOf.sizeOf x+1) w cs x bs:=⟨A1,n1,c1,b1,e,⟨OwAt.congr (fun y hy cs bs hR=>typeOwN_same _ _ cs y bs (Nat.le_refl _) (Nat.le_of_lt (DType.kid_lt hy)) hR) h1,r1⟩,eb⟩
  exact typeOwN_same _ _ cs x bs (Nat.le_succ _) (Nat.le_refl _) h
end
theorem typeRdN_ok :∀n,RdOk (typeRdN n) 3
  |0=>⟨fun h=>h.elim,fun _ h=>h.elim,fun _ h=>h.elim⟩
  | n + 1 => ⟨fun ⟨A1, n1, c1, e, _⟩ => by rw [e]; rfl,
   fun hk ⟨A1,n1,c1,e,⟨h1,r1⟩⟩=>⟨A1,n1,c1,e,⟨h1.keep (typeRdN_ok n) hk,r1⟩⟩,
   fun hB ⟨A1,n1,c1,e,⟨h1,r1⟩⟩=>⟨A1,n1,c1,e,⟨h1.more (typeRdN_ok n) hB,r1⟩⟩⟩
theorem typeRd_ok:RdOk typeRd 3:=⟨fun h=>(typeRdN_ok _).len h,fun hk h=>(typeRdN_ok _).keep hk h,fun hB h=>(typeRdN_ok _).more hB h⟩
theorem typeOwN_ok :∀n,OwOk (typeOwN n) 3
  |0=>⟨fun h=>h.elim,fun _ h=>h.elim⟩
  | n + 1 => ⟨fun ⟨A1, n1, c1, b1, e, _⟩ => by rw [e]; rfl,
   fun hb ⟨A1,n1,c1,b1,e,⟨h1,r1⟩,eb⟩=>⟨A1,n1,c1,b1,e,⟨h1.keep (typeOwN_ok n) (fun k hk=>hb k (by rw [eb]; simp [hk])),r1⟩,eb⟩⟩
theorem typeOw_ok:OwOk typeOw 3:=⟨fun h=>(typeOwN_ok _).len h,fun hb h=>(typeOwN_ok _).keep hb h⟩
theorem typeOwN_reads (B:Nat) :∀n,Gives (typeOwN n) (typeRdN n) B
  |0=>fun _ _ _ _ h _=>h.elim
  |n+1=>fun _ _ _ _ ⟨A1,n1,c1,b1,e,⟨h1,r1⟩,eb⟩ hb=>⟨A1,n1,c1,e,⟨h1.reads (typeOwN_reads B n) (fun k hk=>hb k (by rw [eb]; simp [hk])),r1⟩⟩
theorem typeOw_reads (B:Nat):Gives typeOw typeRd B:=fun w cs x bs h hb=>typeOwN_reads B _ w cs x bs h hb
theorem typeOw_one:OneC typeOw:=fun h u hu=>by
  obtain ⟨A1,n1,c1,b1,e,_⟩:=(typeOw_out h)
  rw [e] at hu
  simp at hu
  rcases hu with rfl|rfl|rfl <;> rfl
structure DConstructor where
  name:ByteArray
  fields:List DType
instance:Inhabited DConstructor:=⟨⟨ByteArray.empty,[]⟩⟩
def constructorRd:Rd DConstructor:=fun w B cs x=>∃(A1:Option Addr) (n1 c1:Nat),cs=[.string x.name,.slice A1 n1 c1]∧(SlAt typeRd 3 w B A1 n1 x.fields∧n1≤c1∧c1≤maxLen)
def constructorOw:Ow DConstructor:=fun w cs x bs=>∃(A1:Option Addr) (n1 c1:Nat) (b1:List Nat),cs=[.string x.name,.slice A1 n1 c1]∧(OwAt typeOw 3 w A1 n1 x.fields b1∧n1≤c1∧c1≤maxLen)∧bs=b1
theorem constructorRd_ok:RdOk constructorRd 2:=
  ⟨fun h => by obtain ⟨A1, n1, c1, e, _⟩ := h; rw [e]; rfl,
   fun hk h=>by obtain ⟨A1,n1,c1,e,⟨h1,r1⟩⟩:=h; exact  ⟨A1,n1,c1,e,⟨h1.keep typeRd_ok hk,r1⟩⟩,
   fun hB h=>by obtain ⟨A1,n1,c1,e,⟨h1,r1⟩⟩:=h; exact  ⟨A1,n1,c1,e,⟨h1.more typeRd_ok hB,r1⟩⟩⟩
theorem constructorOw_ok:OwOk constructorOw 2:=
  ⟨fun h => by obtain ⟨A1, n1, c1, b1, e, _⟩ := h; rw [e]; rfl,
   fun hb h=>by obtain ⟨A1,n1,c1,b1,e,⟨h1,r1⟩,eb⟩:=h; exact  ⟨A1,n1,c1,b1,e,⟨h1.keep typeOw_ok (fun k hk=>hb k (by rw [eb]; simp [hk])),r1⟩,eb⟩⟩
theorem constructorOw_reads (B:Nat):Gives constructorOw constructorRd B:=fun _ _ _ _ h hb=>by
  obtain ⟨A1,n1,c1,b1,e,⟨h1,r1⟩,eb⟩:=h
  exact  ⟨A1,n1,c1,e,⟨h1.reads (typeOw_reads B) (fun k hk=>hb k (by rw [eb]; simp [hk])),r1⟩⟩
theorem constructorOw_one:OneC constructorOw:=fun h u hu=>by
  obtain ⟨A1,n1,c1,b1,e,_⟩:=h
  rw [e] at hu
  simp at hu
  rcases hu with rfl|rfl <;> rfl
structure DData where
  name:ByteArray
  cons:List DConstructor
instance:Inhabited DData:=⟨⟨ByteArray.empty,[]⟩⟩
def dataRd:Rd DData:=fun w B cs x=>∃(A1:Option Addr) (n1 c1:Nat),cs=[.string x.name,.slice A1 n1 c1]∧(SlAt constructorRd 2 w B A1 n1 x.cons∧n1≤c1∧c1≤maxLen)
def dataOw:Ow DData:=fun w cs x bs=>∃(A1:Option Addr) (n1 c1:Nat) (b1:List Nat),cs=[.string x.name,.slice A1 n1 c1]∧(OwAt constructorOw 2 w A1 n1 x.cons b1∧n1≤c1∧c1≤maxLen)∧bs=b1
theorem dataRd_ok:RdOk dataRd 2:=
  ⟨fun h => by obtain ⟨A1, n1, c1, e, _⟩ := h; rw [e]; rfl,
   fun hk h=>by obtain ⟨A1,n1,c1,e,⟨h1,r1⟩⟩:=h; exact  ⟨A1,n1,c1,e,⟨h1.keep constructorRd_ok hk,r1⟩⟩,
   fun hB h=>by obtain ⟨A1,n1,c1,e,⟨h1,r1⟩⟩:=h; exact  ⟨A1,n1,c1,e,⟨h1.more constructorRd_ok hB,r1⟩⟩⟩
theorem dataOw_ok:OwOk dataOw 2:=
  ⟨fun h => by obtain ⟨A1, n1, c1, b1, e, _⟩ := h; rw [e]; rfl,
   fun hb h=>by obtain ⟨A1,n1,c1,b1,e,⟨h1,r1⟩,eb⟩:=h; exact  ⟨A1,n1,c1,b1,e,⟨h1.keep constructorOw_ok (fun k hk=>hb k (by rw [eb]; simp [hk])),r1⟩,eb⟩⟩
theorem dataOw_reads (B:Nat):Gives dataOw dataRd B:=fun _ _ _ _ h hb=>by
  obtain ⟨A1,n1,c1,b1,e,⟨h1,r1⟩,eb⟩:=h
  exact  ⟨A1,n1,c1,e,⟨h1.reads (constructorOw_reads B) (fun k hk=>hb k (by rw [eb]; simp [hk])),r1⟩⟩
theorem dataOw_one:OneC dataOw:=fun h u hu=>by
  obtain ⟨A1,n1,c1,b1,e,_⟩:=h
  rw [e] at hu
  simp at hu
  rcases hu with rfl|rfl <;> rfl
structure DSignature where
  datas:List DData
  defs:List DType
instance:Inhabited DSignature:=⟨⟨[],[]⟩⟩
def signatureRd:Rd DSignature:=fun w B cs x=>∃(A1:Option Addr) (n1 c1:Nat) (A2:Option Addr) (n2 c2:Nat),cs=[.slice A1 n1 c1,.slice A2 n2 c2]∧(SlAt dataRd 2 w B A1 n1 x.datas∧n1≤c1∧c1≤maxLen)∧(SlAt typeRd 3 w B A2 n2 x.defs∧n2≤c2∧c2≤maxLen)
def signatureOw:Ow DSignature:=fun w cs x bs=>∃(A1:Option Addr) (n1 c1:Nat) (A2:Option Addr) (n2 c2:Nat) (b1 b2:List Nat),cs=[.slice A1 n1 c1,.slice A2 n2 c2]∧(OwAt dataOw 2 w A1 n1 x.datas b1∧n1≤c1∧c1≤maxLen)∧(OwAt typeOw 3 w A2 n2 x.defs b2∧n2≤c2∧c2≤maxLen)∧bs=b1 ++ b2
theorem signatureRd_ok:RdOk signatureRd 2:=
  ⟨fun h => by obtain ⟨A1, n1, c1, A2, n2, c2, e, _⟩ := h; rw [e]; rfl,
   fun hk h=>by obtain ⟨A1,n1,c1,A2,n2,c2,e,⟨h1,r1⟩,⟨h2,r2⟩⟩:=h; exact  ⟨A1,n1,c1,A2,n2,c2,e,⟨h1.keep dataRd_ok hk,r1⟩,⟨h2.keep typeRd_ok hk,r2⟩⟩,
   fun hB h=>by obtain ⟨A1,n1,c1,A2,n2,c2,e,⟨h1,r1⟩,⟨h2,r2⟩⟩:=h; exact  ⟨A1,n1,c1,A2,n2,c2,e,⟨h1.more dataRd_ok hB,r1⟩,⟨h2.more typeRd_ok hB,r2⟩⟩⟩
theorem signatureOw_ok:OwOk signatureOw 2:=
  ⟨fun h => by obtain ⟨A1, n1, c1, A2, n2, c2, b1, b2, e, _⟩ := h; rw [e]; rfl,
   fun hb h=>by obtain ⟨A1,n1,c1,A2,n2,c2,b1,b2,e,⟨h1,r1⟩,⟨h2,r2⟩,eb⟩:=h; exact  ⟨A1,n1,c1,A2,n2,c2,b1,b2,e,⟨h1.keep dataOw_ok (fun k hk=>hb k (by rw [eb]; simp [hk])),r1⟩,⟨h2.keep typeOw_ok (fun k hk=>hb k (by rw [eb]; simp [hk])),r2⟩,eb⟩⟩
theorem signatureOw_reads (B:Nat):Gives signatureOw signatureRd B:=fun _ _ _ _ h hb=>by
  obtain ⟨A1,n1,c1,A2,n2,c2,b1,b2,e,⟨h1,r1⟩,⟨h2,r2⟩,eb⟩:=h
  exact  ⟨A1,n1,c1,A2,n2,c2,e,⟨h1.reads (dataOw_reads B) (fun k hk=>hb k (by rw [eb]; simp [hk])),r1⟩,⟨h2.reads (typeOw_reads B) (fun k hk=>hb k (by rw [eb]; simp [hk])),r2⟩⟩
structure DTypedNet where
  net:DNet
  types:List (List DType)
instance:Inhabited DTypedNet:=⟨⟨⟨[]⟩,[]⟩⟩
def typedNetRd:Rd DTypedNet:=fun w B cs x=>∃(A1:Option Addr) (n1 c1:Nat) (A2:Option Addr) (n2 c2:Nat),cs=[.slice A1 n1 c1,.slice A2 n2 c2]∧(SlAt agentRd 5 w B A1 n1 x.net.agents∧n1≤c1∧c1≤maxLen)∧(SlAt (slRd typeRd 3) 1 w B A2 n2 x.types∧n2≤c2∧c2≤maxLen)
def typedNetOw:Ow DTypedNet:=fun w cs x bs=>∃(A1:Option Addr) (n1 c1:Nat) (A2:Option Addr) (n2 c2:Nat) (b1 b2:List Nat),cs=[.slice A1 n1 c1,.slice A2 n2 c2]∧(OwAt agentOw 5 w A1 n1 x.net.agents b1∧n1≤c1∧c1≤maxLen)∧(OwAt (slOw typeOw 3) 1 w A2 n2 x.types b2∧n2≤c2∧c2≤maxLen)∧bs=b1 ++ b2
theorem typedNetRd_ok:RdOk typedNetRd 2:=
  ⟨fun h => by obtain ⟨A1, n1, c1, A2, n2, c2, e, _⟩ := h; rw [e]; rfl,
   fun hk h=>by obtain ⟨A1,n1,c1,A2,n2,c2,e,⟨h1,r1⟩,⟨h2,r2⟩⟩:=h; exact  ⟨A1,n1,c1,A2,n2,c2,e,⟨h1.keep agentRd_ok hk,r1⟩,⟨h2.keep (slRd_ok typeRd_ok) hk,r2⟩⟩,
   fun hB h=>by obtain ⟨A1,n1,c1,A2,n2,c2,e,⟨h1,r1⟩,⟨h2,r2⟩⟩:=h; exact  ⟨A1,n1,c1,A2,n2,c2,e,⟨h1.more agentRd_ok hB,r1⟩,⟨h2.more (slRd_ok typeRd_ok) hB,r2⟩⟩⟩
theorem typedNetOw_ok:OwOk typedNetOw 2:=
  ⟨fun h => by obtain ⟨A1, n1, c1, A2, n2, c2, b1, b2, e, _⟩ := h; rw [e]; rfl,
   fun hb h=>by obtain ⟨A1,n1,c1,A2,n2,c2,b1,b2,e,⟨h1,r1⟩,⟨h2,r2⟩,eb⟩:=h; exact  ⟨A1,n1,c1,A2,n2,c2,b1,b2,e,⟨h1.keep agentOw_ok (fun k hk=>hb k (by rw [eb]; simp [hk])),r1⟩,⟨h2.keep (slOw_ok typeOw_ok) (fun k hk=>hb k (by rw [eb]; simp [hk])),r2⟩,eb⟩⟩
theorem typedNetOw_reads (B:Nat):Gives typedNetOw typedNetRd B:=fun _ _ _ _ h hb=>by
  obtain ⟨A1,n1,c1,A2,n2,c2,b1,b2,e,⟨h1,r1⟩,⟨h2,r2⟩,eb⟩:=h
  exact  ⟨A1,n1,c1,A2,n2,c2,e,⟨h1.reads (agentOw_reads B) (fun k hk=>hb k (by rw [eb]; simp [hk])),r1⟩,⟨h2.reads (slOw_reads (typeOw_reads B)) (fun k hk=>hb k (by rw [eb]; simp [hk])),r2⟩⟩
theorem typedNetOw_one:OneC typedNetOw:=fun h u hu=>by
  obtain ⟨A1,n1,c1,A2,n2,c2,b1,b2,e,_⟩:=h
  rw [e] at hu
  simp at hu
  rcases hu with rfl|rfl <;> rfl
structure DCore where
  kind:Int
  value:Int
  data:List Int
  kids:List DCore
instance:Inhabited DCore:=⟨⟨0,0,[],[]⟩⟩
theorem DCore.kid_lt {x y:DCore} (h:y∈x.kids):SizeOf.sizeOf y < SizeOf.sizeOf x:=by
  have h1:=List.sizeOf_lt_of_mem h
  obtain ⟨a0,a1,a2,a3⟩:=x
  simp only [DCore.mk.sizeOf_spec] at *
  omega
theorem DCore.pos (x:DCore):0 < SizeOf.sizeOf x:=by
  obtain ⟨a0,a1,a2,a3⟩:=x
  simp only [DCore.mk.sizeOf_spec]
  omega
end
section
open Go.RowKit
set_option maxRecDepth 100000
noncomputable def m_laws_szTypeS_A1 (i3:Int):Option Int:=
  some i3
noncomputable def m_laws_szTypeS_B1 (self1:DType→Int→Option Int) (d0:List DType) (rec1:Int→Int→Option Int) (K1:Int→Option Int) (i5:Int) (i6:Int):Option Int:=
  (bif (decide (i6 < (d0.length:Int))) then ((getI d0 i6).bind fun x9=>((self1 x9 i5).bind fun y19=>(bif (decide (y19 < 0)) then some (-1) else (rec1 y19 (i6+1))))) else (K1 i5))
noncomputable def m_laws_szTypeS_L1 (self1:DType→Int→Option Int) (d0:List DType) (K1:Int→Option Int):Nat→Int→Int→Option Int
  |0,_,_=>none
  |g+1,i5,i6=>m_laws_szTypeS_B1 self1 d0 (m_laws_szTypeS_L1 self1 d0 K1 g) K1 i5 i6
noncomputable def m_laws_szTypeS_R (self0:(List DType)→Int→Option Int) (self1:DType→Int→Option Int) (d0:List DType) (d1:Int):Option Int:=
  ((ck (d1 - (d0.length:Int))).bind fun s1=>(bif (decide (s1 < 0)) then some (-1) else (m_laws_szTypeS_L1 self1 d0 m_laws_szTypeS_A1 (d0.length+1) s1 0)))
set_option maxHeartbeats 2000000 in
theorem c_m_laws_szTypeS_S (self0:(List DType)→Int→Option Int) (self1:DType→Int→Option Int) (ih0 :∀(d0:List DType) (d1:Int) (r:Int) (hm:self0 d0 d1=some r) (v0:Value) (w:World) (hv0:Sl typeRd 3 w v0 d0),Calls Tryz.prog 37 #[v0,.int .i64 d1] w fun e w'=>e=.returned (.int .i64 r)∧Below w.heap.size w w') (ih1 :∀(d0:DType) (d1:Int) (r:Int) (hm:self1 d0 d1=some r) (v0:Value) (w:World) (hv0:St typeRd w v0 d0),Calls Tryz.prog 81 #[v0,.int .i64 d1] w fun e w'=>e=.returned (.int .i64 r)∧Below w.heap.size w w') :∀(d0:List DType) (d1:Int) (r:Int) (hm:m_laws_szTypeS_R self0 self1 d0 d1=some r) (v0:Value) (w:World) (hv0:Sl typeRd 3 w v0 d0),
    Calls Tryz.prog 37 #[v0,.int .i64 d1] w fun e w'=>e=.returned (.int .i64 r)∧Below w.heap.size w w':=by
  intro d0 d1 r hm v0 w hv0
  obtain ⟨Aa0,na0,ca0,rfl,ha0,ra0⟩:=hv0
  have ea0:=ha0.len; subst ea0
  have qa0:=len_le ra0
  have T:=Below.refl w.heap.size w
  unfold m_laws_szTypeS_R at hm
  refine enter 27 Tryz.func37 rfl rfl rfl ?_
  intro f hf
  have s0:f 0=.slice Aa0 d0.length ca0:=hf 0 _ rfl
  have s1:f 1=.int .i64 d1:=hf 1 _ rfl
  refine wp_seq<|wp_rs rfl<|RQ.y rfl (Y.assign (v:=.int .i64 0) rfl)<|RQ.nil<|then_n<|wp_seq<|wp_rs rfl<|RQ.y rfl (Y.move (v:=.int .i64 d1) s1)<|RQ.y rfl (Y.move (v:=.slice Aa0 d0.length ca0) s0)<|RQ.y rfl (Y.len (by kernel_rfl) rfl) ?_
  obtain ⟨s1,ks1,hm⟩:=bnd hm
  replace ks1:=ck_some ks1
  refine RQ.y rfl (Y.binI (v:=.int .i64 s1) rfl rfl (by rw [binI_sub ks1.2,ks1.1]))<|RQ.y rfl (Y.assign (v:=.int .i64 s1) rfl)<|RQ.nil<|then_n<|wp_seq<|wp_seq<|wp_rs rfl<|RQ.y rfl (Y.move (v:=.int .i64 s1) rfl)<|RQ.y rfl (Y.binI (v:=.bool (decide (s1 < 0))) rfl rfl rfl)<|RQ.nil<|then_n ?_
  rcases bcases (decide (s1 < 0)) with c2|c2
  ·replace hm:=cF c2 hm
   have pc2:=of_decide_eq_false c2
   refine cond_f rfl (vb rfl c2)<|wp_skip<|then_n<|wp_seq<|wp_seq<|wp_rs rfl<|RQ.y rfl (Y.assign (v:=.int .i64 0) rfl)<|RQ.nil<|then_n<|wp_block ?_
   obtain ⟨K1,hK1,hm⟩ :∃K,K=m_laws_szTypeS_A1∧m_laws_szTypeS_L1 self1 d0 K (d0.length+1) s1 0=some r:=⟨_,rfl,hm⟩
   refine wp_loopX (fun g f w'=>∃(i5:Int) (i6:Int),f 0=.slice Aa0 d0.length ca0∧f 1=.int .i64 i5∧f 5=.int .i64 i6∧0≤i6∧Below w.heap.size w w'∧m_laws_szTypeS_L1 self1 d0 K1 g i5 i6=some r) 0 (fun f w'=>∃(i3:Int),f 1=.int .i64 i3∧Below w.heap.size w w'∧m_laws_szTypeS_A1 i3=some r) (d0.length+1) ⟨s1,0,s0,rfl,rfl,(by omega),T,hm⟩ ?_ ?_
   ·rintro f w4 ⟨i3,s1_1x,T,hm⟩
    unfold m_laws_szTypeS_A1 at hm
    refine blk_hit (then_n ?_)
    refine wp_seq<|wp_rs rfl<|RQ.y rfl (Y.move (v:=.int .i64 i3) s1_1x)<|RQ.y rfl (Y.assign (v:=.int .i64 i3) rfl)<|RQ.nil<|then_n<|wp_ret ?_
    obtain rfl:=sj hm
    exact (ret1 rfl rfl rfl ⟨rfl,T⟩)
   rintro g f w7 ⟨i5,i6,s0_1,s1_1,s5_1,nn5_1,T,hm⟩
   rcases g with _|g
   ·simp only [m_laws_szTypeS_L1] at hm; cases hm
   obtain ⟨rec1,hrec1,hm⟩ :∃z,z=m_laws_szTypeS_L1 self1 d0 K1 g∧m_laws_szTypeS_B1 self1 d0 z K1 i5 i6=some r:=⟨_,rfl,hm⟩
   unfold m_laws_szTypeS_B1 at hm
   refine wp_seq<|wp_seq<|wp_rs rfl<|RQ.y rfl (Y.move (v:=.int .i64 i6) s5_1)<|RQ.y rfl (Y.move (v:=.slice Aa0 d0.length ca0) s0_1)<|RQ.y rfl (Y.len (by kernel_rfl) rfl)<|RQ.y rfl (Y.binI (v:=.bool (decide (i6 < (d0.length:Int)))) rfl rfl rfl)<|RQ.nil<|then_n ?_
   rcases bcases (decide (i6 < (d0.length:Int))) with c8|c8
   ·replace hm:=cF c8 hm
    have pc8:=of_decide_eq_false c8
    refine cond_f rfl (vb rfl c8)<|wp_exit ?_
    exact (then_x (then_x (hit_x ⟨_,rfl,⟨i5,s1_1,T,(by rw [hK1] at hm; exact hm)⟩⟩)))
   replace hm:=cT c8 hm
   have pc8:=of_decide_eq_true c8
   refine cond_t rfl (vb rfl c8)<|wp_skip<|then_n<|wp_seq<|wp_block<|wp_seq<|wp_rb rfl<|RQ.y rfl (Y.move (v:=.slice Aa0 d0.length ca0) s0_1)<|RQ.y rfl (Y.move (v:=.int .i64 i6) s5_1) ?_
   obtain ⟨x9,hx12,hm⟩:=bnd hm
   obtain ⟨k10,hk13,hl14,hx12⟩:=getI_some hx12
   obtain ⟨b16,o17,rfl,hbb16⟩:=ha0.addr (by omega)
   obtain ⟨cs11,hRcs11,hc15⟩:=ha0.el hx12
   have hScs11:=hRcs11
   obtain ⟨A18,n18,c18,rfl,⟨h18,r18⟩⟩:=(typeRd_out hRcs11)
   have e18:=h18.len; subst e18
   have q18:=len_le r18
   refine RQ.y rfl (Y.indexAddr (m:=k10) (sz:=3) rfl rfl hk13 hl14 (by kernel_rfl))<|RQ.y rfl (Y.loadN (cs:=[.int .i64 x9.kind,.string x9.name,.slice A18 x9.kids.length c18]) rfl (by kernel_rfl) (cells3 (beC (cellT T (hc15 0 _ rfl))) (beC (cellT T (hc15 1 _ rfl))) (beC (cellT T (hc15 2 _ rfl)))))<|RQ.y rfl (Y.move (v:=.int .i64 i5) s1_1) ?_
   obtain ⟨y19,e20,hm⟩:=bnd hm
   refine RQ.call rfl (am2 rfl rfl) (by kernel_rfl) (v:=.int .i64 y19) (bel (K:=fun _=>True) fun w' hb'=>(ih1 x9 i5 _ e20 _ w' (stArg (R:=typeRd) (typeRd_in ⟨_,_,_,rfl,⟨SlAt.now typeRd_ok h18 (Nat.le_refl _) (Tt T hb'),r18⟩⟩))))<|RQ.y rfl (Y.assign (v:=.int .i64 y19) rfl)<|RQ.nil ?_
   intro w21 hb22
   have szw21:=hb22.size
   have T:=Tt T hb22
   refine then_n<|wp_seq<|wp_rs rfl<|RQ.y rfl (Y.move (v:=.int .i64 y19) rfl)<|RQ.y rfl (Y.binI (v:=.bool (decide (y19 < 0))) rfl rfl rfl)<|RQ.nil<|then_n ?_
   rcases bcases (decide (y19 < 0)) with c23|c23
   ·replace hm:=cF c23 hm
    have pc23:=of_decide_eq_false c23
    refine cond_f rfl (vb rfl c23)<|wp_skip ?_
    refine blk_n (then_n ?_)
    refine wp_rs rfl<|RQ.y rfl (Y.move (v:=.int .i64 i6) s5_1)<|RQ.y rfl (Y.binI rfl rfl (binI_add (m:=i6) (by omega)))<|RQ.y rfl (Y.assign (v:=.int .i64 (i6+1)) rfl)<|RQ.nil ?_
    exact (then_n ⟨g,_,Nat.lt_succ_self _,rfl,⟨y19,(i6+1),s0_1,rfl,rfl,(by omega),T,(by rw [← hrec1]; exact hm)⟩⟩)
   replace hm:=cT c23 hm
   have pc23:=of_decide_eq_true c23
   refine cond_t rfl (vb rfl c23)<|wp_seq<|wp_rs rfl<|RQ.y rfl (Y.assign (v:=.int .i64 (-1)) rfl)<|RQ.nil<|then_n<|wp_ret ?_
   obtain rfl:=sj hm
   exact (blk_r (then_r (then_r (hit_r (blk_r (then_r (ret1 rfl rfl rfl ⟨rfl,T⟩)))))))
  replace hm:=cT c2 hm
  have pc2:=of_decide_eq_true c2
  refine cond_t rfl (vb rfl c2)<|wp_seq<|wp_rs rfl<|RQ.y rfl (Y.assign (v:=.int .i64 (-1)) rfl)<|RQ.nil<|then_n<|wp_ret ?_
  obtain rfl:=sj hm
  exact (then_r (ret1 rfl rfl rfl ⟨rfl,T⟩))
noncomputable def m_laws_szType_R (self0:(List DType)→Int→Option Int) (self1:DType→Int→Option Int) (d0:DType) (d1:Int):Option Int:=
  ((ck (d1 - (d0.name.size:Int))).bind fun s6=>(bif (decide (s6 < 0)) then some (-1) else ((self0 d0.kids s6).bind fun y8=>(bif (decide (y8 < 0)) then some (-1) else some y8))))
set_option maxHeartbeats 2000000 in
theorem c_m_laws_szType_S (self0:(List DType)→Int→Option Int) (self1:DType→Int→Option Int) (ih0 :∀(d0:List DType) (d1:Int) (r:Int) (hm:self0 d0 d1=some r) (v0:Value) (w:World) (hv0:Sl typeRd 3 w v0 d0),Calls Tryz.prog 37 #[v0,.int .i64 d1] w fun e w'=>e=.returned (.int .i64 r)∧Below w.heap.size w w') (ih1 :∀(d0:DType) (d1:Int) (r:Int) (hm:self1 d0 d1=some r) (v0:Value) (w:World) (hv0:St typeRd w v0 d0),Calls Tryz.prog 81 #[v0,.int .i64 d1] w fun e w'=>e=.returned (.int .i64 r)∧Below w.heap.size w w') :∀(d0:DType) (d1:Int) (r:Int) (hm:m_laws_szType_R self0 self1 d0 d1=some r) (v0:Value) (w:World) (hv0:St typeRd w v0 d0),
    Calls Tryz.prog 81 #[v0,.int .i64 d1] w fun e w'=>e=.returned (.int .i64 r)∧Below w.heap.size w w':=by
  intro d0 d1 r hm v0 w hv0
  obtain ⟨csa0,rfl,hRR0⟩:=hv0
  obtain ⟨A1,n1,c1,rfl,⟨h1,r1⟩⟩:=(typeRd_out hRR0)
  have e1:=h1.len; subst e1
  have q1:=len_le r1
  have T:=Below.refl w.heap.size w
  unfold m_laws_szType_R at hm
  refine enter 19 Tryz.func81 rfl rfl rfl ?_
  intro f hf
  have s0:f 0=.agg #[.int .i64 d0.kind,.string d0.name,.slice A1 d0.kids.length c1]:=hf 0 _ rfl
  have s1:f 1=.int .i64 d1:=hf 1 _ rfl
  refine wp_seq<|wp_rl rfl ?_
  refine RL.box rfl s0 (fun w2 B3 hb4 szw2=>?_)
  replace B3:Blk w2 w.heap.size 152 #[.int .i64 d0.kind,.string d0.name,.slice A1 d0.kids.length c1]:=B3
  have GB3:w.heap.size≤w.heap.size:=T.size
  have T:=Tt T hb4
  refine RL.y rfl (Y.assign (v:=.int .i64 0) rfl)<|RL.nil<|then_n<|wp_seq<|wp_rs rfl<|RQ.y rfl (Y.move (v:=.int .i64 d1) s1)<|RQ.y rfl (Y.fieldAddr (off:=1) rfl (by kernel_rfl))<|RQ.y rfl (Y.load (v:=.string d0.name) rfl (by kernel_rfl) (eqC (blkCell B3 (i:=1) rfl)))<|RQ.y rfl (Y.lenS (by kernel_rfl) rfl) ?_
  obtain ⟨s6,ks6,hm⟩:=bnd hm
  replace ks6:=ck_some ks6
  refine RQ.y rfl (Y.binI (v:=.int .i64 s6) rfl rfl (by rw [binI_sub ks6.2,ks6.1]))<|RQ.y rfl (Y.assign (v:=.int .i64 s6) rfl)<|RQ.nil<|then_n<|wp_seq<|wp_seq<|wp_rs rfl<|RQ.y rfl (Y.move (v:=.int .i64 s6) rfl)<|RQ.y rfl (Y.binI (v:=.bool (decide (s6 < 0))) rfl rfl rfl)<|RQ.nil<|then_n ?_
  rcases bcases (decide (s6 < 0)) with c7|c7
  ·replace hm:=cF c7 hm
   have pc7:=of_decide_eq_false c7
   refine cond_f rfl (vb rfl c7)<|wp_skip<|then_n<|wp_seq<|wp_rb rfl<|RQ.y rfl (Y.fieldAddr (off:=2) rfl (by kernel_rfl))<|RQ.y rfl (Y.load (v:=.slice A1 d0.kids.length c1) rfl (by kernel_rfl) (beC (blkCell B3 (i:=2) rfl)))<|RQ.y rfl (Y.move (v:=.int .i64 s6) rfl) ?_
   obtain ⟨y8,e9,hm⟩:=bnd hm
   refine RQ.call rfl (am2 rfl rfl) (by kernel_rfl) (v:=.int .i64 y8) (bel (K:=fun _=>True) fun w' hb'=>(ih0 d0.kids s6 _ e9 _ w' (slArg typeRd_ok h1 r1 (Tt T hb'))))<|RQ.y rfl (Y.assign (v:=.int .i64 y8) rfl)<|RQ.nil ?_
   intro w10 hb11
   have szw10:=hb11.size
   have T:=Tt T hb11
   refine then_n<|wp_seq<|wp_seq<|wp_rs rfl<|RQ.y rfl (Y.move (v:=.int .i64 y8) rfl)<|RQ.y rfl (Y.binI (v:=.bool (decide (y8 < 0))) rfl rfl rfl)<|RQ.nil<|then_n ?_
   rcases bcases (decide (y8 < 0)) with c12|c12
   ·replace hm:=cF c12 hm
    have pc12:=of_decide_eq_false c12
    refine cond_f rfl (vb rfl c12)<|wp_skip<|then_n<|wp_seq<|wp_rs rfl<|RQ.y rfl (Y.move (v:=.int .i64 y8) rfl)<|RQ.y rfl (Y.assign (v:=.int .i64 y8) rfl)<|RQ.nil<|then_n<|wp_ret ?_
    obtain rfl:=sj hm
    exact (ret1 rfl rfl rfl ⟨rfl,T⟩)
   replace hm:=cT c12 hm
   have pc12:=of_decide_eq_true c12
   refine cond_t rfl (vb rfl c12)<|wp_seq<|wp_rs rfl<|RQ.y rfl (Y.assign (v:=.int .i64 (-1)) rfl)<|RQ.nil<|then_n<|wp_ret ?_
   obtain rfl:=sj hm
   exact (then_r (ret1 rfl rfl rfl ⟨rfl,T⟩))
  replace hm:=cT c7 hm
  have pc7:=of_decide_eq_true c7
  refine cond_t rfl (vb rfl c7)<|wp_seq<|wp_rs rfl<|RQ.y rfl (Y.assign (v:=.int .i64 (-1)) rfl)<|RQ.nil<|then_n<|wp_ret ?_
  obtain rfl:=sj hm
  exact (then_r (ret1 rfl rfl rfl ⟨rfl,T⟩))
noncomputable def g_m_laws_szTypeS:Nat→((List DType)→Int→Option Int) × (DType→Int→Option Int)
  |0=>(fun _ _=>none,fun _ _=>none)
  |gas+1=>(m_laws_szTypeS_R (g_m_laws_szTypeS gas).1 (g_m_laws_szTypeS gas).2,m_laws_szType_R (g_m_laws_szTypeS gas).1 (g_m_laws_szTypeS gas).2)
noncomputable def m_laws_szTypeS (gas:Nat):(List DType)→Int→Option Int:=(g_m_laws_szTypeS gas).1
noncomputable def m_laws_szType (gas:Nat):DType→Int→Option Int:=(g_m_laws_szTypeS gas).2
theorem c_g_m_laws_szTypeS :∀gas:Nat,(∀(d0:List DType) (d1:Int) (r:Int) (hm:m_laws_szTypeS gas d0 d1=some r) (v0:Value) (w:World) (hv0:Sl typeRd 3 w v0 d0),Calls Tryz.prog 37 #[v0,.int .i64 d1] w fun e w'=>e=.returned (.int .i64 r)∧Below w.heap.size w w')∧(∀(d0:DType) (d1:Int) (r:Int) (hm:m_laws_szType gas d0 d1=some r) (v0:Value) (w:World) (hv0:St typeRd w v0 d0),Calls Tryz.prog 81 #[v0,.int .i64 d1] w fun e w'=>e=.returned (.int .i64 r)∧Below w.heap.size w w'):=by
  intro gas
  induction gas with
  |zero=>exact ⟨(fun _ _ r hm=>by have h0:(none:Option _)=some r:=hm; cases h0),(fun _ _ r hm=>by have h0:(none:Option _)=some r:=hm; cases h0)⟩
  |succ gas ih=>exact ⟨c_m_laws_szTypeS_S _ _ (ih).1 (ih).2,c_m_laws_szType_S _ _ (ih).1 (ih).2⟩
theorem c_m_laws_szTypeS (gas : Nat) : ∀ (d0 : List DType) (d1 : Int) (r : Int) (hm : m_laws_szTypeS gas d0 d1 = some r) (v0 : Value) (w : World) (hv0 : Sl typeRd 3 w v0 d0), Calls Tryz.prog 37 #[v0, .int .i64 d1] w fun e w' => e = .returned (.int .i64 r) ∧ Below w.heap.size w w' := (c_g_m_laws_szTypeS gas).1
noncomputable def m_laws_eqTypeS_A1:Option Bool:=
  some true
noncomputable def m_laws_eqTypeS_B1 (self1:DType→DType→Option Bool) (d0:List DType) (d1:List DType) (rec1:Int→Option Bool) (K1:Option Bool) (i3:Int):Option Bool:=
  (bif (decide (i3 < (d0.length:Int))) then ((getI d0 i3).bind fun x6=>((getI d1 i3).bind fun x16=>((self1 x6 x16).bind fun y26=>(bif y26 then (rec1 (i3+1)) else some false)))) else (K1))
noncomputable def m_laws_eqTypeS_L1 (self1:DType→DType→Option Bool) (d0:List DType) (d1:List DType) (K1:Option Bool):Nat→Int→Option Bool
  |0,_=>none
  |g+1,i3=>m_laws_eqTypeS_B1 self1 d0 d1 (m_laws_eqTypeS_L1 self1 d0 d1 K1 g) K1 i3
noncomputable def m_laws_eqTypeS_R (self0:(List DType)→(List DType)→Option Bool) (self1:DType→DType→Option Bool) (d0:List DType) (d1:List DType):Option Bool:=
  (bif ((d0.length:Int) != (d1.length:Int)) then some false else (m_laws_eqTypeS_L1 self1 d0 d1 m_laws_eqTypeS_A1 (d0.length+1) 0))
set_option maxHeartbeats 2000000 in
theorem c_m_laws_eqTypeS_S (self0:(List DType)→(List DType)→Option Bool) (self1:DType→DType→Option Bool) (ih0 :∀(d0:List DType) (d1:List DType) (r:Bool) (hm:self0 d0 d1=some r) (v0:Value) (v1:Value) (w:World) (hv0:Sl typeRd 3 w v0 d0) (hv1:Sl typeRd 3 w v1 d1),Calls Tryz.prog 48 #[v0,v1] w fun e w'=>e=.returned (.bool r)∧Below w.heap.size w w') (ih1 :∀(d0:DType) (d1:DType) (r:Bool) (hm:self1 d0 d1=some r) (v0:Value) (v1:Value) (w:World) (hv0:St typeRd w v0 d0) (hv1:St typeRd w v1 d1),Calls Tryz.prog 102 #[v0,v1] w fun e w'=>e=.returned (.bool r)∧Below w.heap.size w w') :∀(d0:List DType) (d1:List DType) (r:Bool) (hm:m_laws_eqTypeS_R self0 self1 d0 d1=some r) (v0:Value) (v1:Value) (w:World) (hv0:Sl typeRd 3 w v0 d0) (hv1:Sl typeRd 3 w v1 d1),
    Calls Tryz.prog 48 #[v0,v1] w fun e w'=>e=.returned (.bool r)∧Below w.heap.size w w':=by
  intro d0 d1 r hm v0 v1 w hv0 hv1
  obtain ⟨Aa0,na0,ca0,rfl,ha0,ra0⟩:=hv0
  have ea0:=ha0.len; subst ea0
  have qa0:=len_le ra0
  obtain ⟨Aa1,na1,ca1,rfl,ha1,ra1⟩:=hv1
  have ea1:=ha1.len; subst ea1
  have qa1:=len_le ra1
  have T:=Below.refl w.heap.size w
  unfold m_laws_eqTypeS_R at hm
  refine enter 27 Tryz.func48 rfl rfl rfl ?_
  intro f hf
  have s0:f 0=.slice Aa0 d0.length ca0:=hf 0 _ rfl
  have s1:f 1=.slice Aa1 d1.length ca1:=hf 1 _ rfl
  refine wp_seq<|wp_rs rfl<|RQ.y rfl (Y.assign (v:=.bool false) rfl)<|RQ.nil<|then_n<|wp_seq<|wp_seq<|wp_rs rfl<|RQ.y rfl (Y.move (v:=.slice Aa0 d0.length ca0) s0)<|RQ.y rfl (Y.len (by kernel_rfl) rfl)<|RQ.y rfl (Y.move (v:=.slice Aa1 d1.length ca1) s1)<|RQ.y rfl (Y.len (by kernel_rfl) rfl)<|RQ.y rfl (Y.binI (v:=.bool ((d0.length:Int) != (d1.length:Int))) rfl rfl rfl)<|RQ.nil<|then_n ?_
  rcases bcases ((d0.length:Int) != (d1.length:Int)) with c1|c1
  ·replace hm:=cF c1 hm
   refine cond_f rfl (vb rfl c1)<|wp_skip<|then_n<|wp_seq<|wp_seq<|wp_rs rfl<|RQ.y rfl (Y.assign (v:=.int .i64 0) rfl)<|RQ.nil<|then_n<|wp_block ?_
   obtain ⟨K1,hK1,hm⟩ :∃K,K=m_laws_eqTypeS_A1∧m_laws_eqTypeS_L1 self1 d0 d1 K (d0.length+1) 0=some r:=⟨_,rfl,hm⟩
   refine wp_loopX (fun g f w'=>∃(i3:Int),f 0=.slice Aa0 d0.length ca0∧f 1=.slice Aa1 d1.length ca1∧f 5=.int .i64 i3∧0≤i3∧Below w.heap.size w w'∧m_laws_eqTypeS_L1 self1 d0 d1 K1 g i3=some r) 0 (fun f w'=>Below w.heap.size w w'∧m_laws_eqTypeS_A1  = some r) (d0.length+1) ⟨0,s0,s1,rfl,(by omega),T,hm⟩ ?_ ?_
   ·rintro f w2 ⟨T,hm⟩
    unfold m_laws_eqTypeS_A1 at hm
    refine blk_hit (then_n ?_)
    refine wp_seq<|wp_rs rfl<|RQ.y rfl (Y.assign (v:=.bool true) rfl)<|RQ.nil<|then_n<|wp_ret ?_
    obtain rfl:=sj hm
    exact (ret1 rfl rfl rfl ⟨rfl,T⟩)
   rintro g f w4 ⟨i3,s0_1,s1_1,s5_1,nn5_1,T,hm⟩
   rcases g with _|g
   ·simp only [m_laws_eqTypeS_L1] at hm; cases hm
   obtain ⟨rec1,hrec1,hm⟩ :∃z,z=m_laws_eqTypeS_L1 self1 d0 d1 K1 g∧m_laws_eqTypeS_B1 self1 d0 d1 z K1 i3=some r:=⟨_,rfl,hm⟩
   unfold m_laws_eqTypeS_B1 at hm
   refine wp_seq<|wp_seq<|wp_rs rfl<|RQ.y rfl (Y.move (v:=.int .i64 i3) s5_1)<|RQ.y rfl (Y.move (v:=.slice Aa0 d0.length ca0) s0_1)<|RQ.y rfl (Y.len (by kernel_rfl) rfl)<|RQ.y rfl (Y.binI (v:=.bool (decide (i3 < (d0.length:Int)))) rfl rfl rfl)<|RQ.nil<|then_n ?_
   rcases bcases (decide (i3 < (d0.length:Int))) with c5|c5
   ·replace hm:=cF c5 hm
    have pc5:=of_decide_eq_false c5
    refine cond_f rfl (vb rfl c5)<|wp_exit ?_
    exact (then_x (then_x (hit_x ⟨_,rfl,⟨T,(by rw [hK1] at hm; exact hm)⟩⟩)))
   replace hm:=cT c5 hm
   have pc5:=of_decide_eq_true c5
   refine cond_t rfl (vb rfl c5)<|wp_skip<|then_n<|wp_seq<|wp_block<|wp_seq<|wp_rbd (by kernel_rfl) (by kernel_rfl)<|RQ.y rfl (Y.move (v:=.slice Aa0 d0.length ca0) s0_1)<|RQ.y rfl (Y.move (v:=.int .i64 i3) s5_1) ?_
   obtain ⟨x6,hx9,hm⟩:=bnd hm
   obtain ⟨k7,hk10,hl11,hx9⟩:=getI_some hx9
   obtain ⟨b13,o14,rfl,hbb13⟩:=ha0.addr (by omega)
   obtain ⟨cs8,hRcs8,hc12⟩:=ha0.el hx9
   have hScs8:=hRcs8
   obtain ⟨A15,n15,c15,rfl,⟨h15,r15⟩⟩:=(typeRd_out hRcs8)
   have e15:=h15.len; subst e15
   have q15:=len_le r15
   refine RQ.y rfl (Y.indexAddr (m:=k7) (sz:=3) rfl rfl hk10 hl11 (by kernel_rfl))<|RQ.y rfl (Y.loadN (cs:=[.int .i64 x6.kind,.string x6.name,.slice A15 x6.kids.length c15]) rfl (by kernel_rfl) (cells3 (beC (cellT T (hc12 0 _ rfl))) (beC (cellT T (hc12 1 _ rfl))) (beC (cellT T (hc12 2 _ rfl)))))<|RQ.y rfl (Y.move (v:=.slice Aa1 d1.length ca1) s1_1)<|RQ.y rfl (Y.move (v:=.int .i64 i3) s5_1) ?_
   obtain ⟨x16,hx19,hm⟩:=bnd hm
   obtain ⟨k17,hk20,hl21,hx19⟩:=getI_some hx19
   obtain ⟨b23,o24,rfl,hbb23⟩:=ha1.addr (by omega)
   obtain ⟨cs18,hRcs18,hc22⟩:=ha1.el hx19
   have hScs18:=hRcs18
   obtain ⟨A25,n25,c25,rfl,⟨h25,r25⟩⟩:=(typeRd_out hRcs18)
   have e25:=h25.len; subst e25
   have q25:=len_le r25
   refine RQ.y rfl (Y.indexAddr (m:=k17) (sz:=3) rfl rfl hk20 hl21 (by kernel_rfl))<|RQ.y rfl (Y.loadN (cs:=[.int .i64 x16.kind,.string x16.name,.slice A25 x16.kids.length c25]) rfl (by kernel_rfl) (cells3 (beC (cellT T (hc22 0 _ rfl))) (beC (cellT T (hc22 1 _ rfl))) (beC (cellT T (hc22 2 _ rfl))))) ?_
   obtain ⟨y26,e27,hm⟩:=bnd hm
   refine RQ.call rfl (am2 rfl rfl) (by kernel_rfl) (v:=.bool y26) (bel (K:=fun _=>True) fun w' hb'=>(ih1 x6 x16 _ e27 _ _ w' (stArg (R:=typeRd) (typeRd_in ⟨_,_,_,rfl,⟨SlAt.now typeRd_ok h15 (Nat.le_refl _) (Tt T hb'),r15⟩⟩)) (stArg (R:=typeRd) (typeRd_in ⟨_,_,_,rfl,⟨SlAt.now typeRd_ok h25 (Nat.le_refl _) (Tt T hb'),r25⟩⟩))))<|RQ.y rfl (Y.not (b':=(!y26)) rfl rfl)<|RQ.nil ?_
   intro w28 hb29
   have szw28:=hb29.size
   have T:=Tt T hb29
   refine then_n ?_
   rcases bcases y26 with c30|c30
   ·replace hm:=cF c30 hm
    refine cond_t rfl (vbn rfl c30 rfl)<|wp_seq<|wp_rs rfl<|RQ.y rfl (Y.assign (v:=.bool false) rfl)<|RQ.nil<|then_n<|wp_ret ?_
    obtain rfl:=sj hm
    exact (blk_r (then_r (then_r (hit_r (blk_r (then_r (ret1 rfl rfl rfl ⟨rfl,T⟩)))))))
   replace hm:=cT c30 hm
   refine cond_f rfl (vbn rfl c30 rfl)<|wp_skip ?_
   refine blk_n (then_n ?_)
   refine wp_rs rfl<|RQ.y rfl (Y.move (v:=.int .i64 i3) s5_1)<|RQ.y rfl (Y.binI rfl rfl (binI_add (m:=i3) (by omega)))<|RQ.y rfl (Y.assign (v:=.int .i64 (i3+1)) rfl)<|RQ.nil ?_
   exact (then_n ⟨g,_,Nat.lt_succ_self _,rfl,⟨(i3+1),s0_1,s1_1,rfl,(by omega),T,(by rw [← hrec1]; exact hm)⟩⟩)
  replace hm:=cT c1 hm
  refine cond_t rfl (vb rfl c1)<|wp_seq<|wp_rs rfl<|RQ.y rfl (Y.assign (v:=.bool false) rfl)<|RQ.nil<|then_n<|wp_ret ?_
  obtain rfl:=sj hm
  exact (then_r (ret1 rfl rfl rfl ⟨rfl,T⟩))
noncomputable def m_laws_eqType_R (self0:(List DType)→(List DType)→Option Bool) (self1:DType→DType→Option Bool) (d0:DType) (d1:DType):Option Bool:=
  (bif (d0.kind != d1.kind) then some false else (bif (d0.name.toList==d1.name.toList) then ((self0 d0.kids d1.kids).bind fun y13=>(bif y13 then some true else some false)) else some false))
set_option maxHeartbeats 2000000 in
theorem c_m_laws_eqType_S (self0:(List DType)→(List DType)→Option Bool) (self1:DType→DType→Option Bool) (ih0 :∀(d0:List DType) (d1:List DType) (r:Bool) (hm:self0 d0 d1=some r) (v0:Value) (v1:Value) (w:World) (hv0:Sl typeRd 3 w v0 d0) (hv1:Sl typeRd 3 w v1 d1),Calls Tryz.prog 48 #[v0,v1] w fun e w'=>e=.returned (.bool r)∧Below w.heap.size w w') (ih1 :∀(d0:DType) (d1:DType) (r:Bool) (hm:self1 d0 d1=some r) (v0:Value) (v1:Value) (w:World) (hv0:St typeRd w v0 d0) (hv1:St typeRd w v1 d1),Calls Tryz.prog 102 #[v0,v1] w fun e w'=>e=.returned (.bool r)∧Below w.heap.size w w') :∀(d0:DType) (d1:DType) (r:Bool) (hm:m_laws_eqType_R self0 self1 d0 d1=some r) (v0:Value) (v1:Value) (w:World) (hv0:St typeRd w v0 d0) (hv1:St typeRd w v1 d1),
    Calls Tryz.prog 102 #[v0,v1] w fun e w'=>e=.returned (.bool r)∧Below w.heap.size w w':=by
  intro d0 d1 r hm v0 v1 w hv0 hv1
  obtain ⟨csa0,rfl,hRR0⟩:=hv0
  obtain ⟨A1,n1,c1,rfl,⟨h1,r1⟩⟩:=(typeRd_out hRR0)
  have e1:=h1.len; subst e1
  have q1:=len_le r1
  obtain ⟨csa1,rfl,hRR1⟩:=hv1
  obtain ⟨A2,n2,c2,rfl,⟨h2,r2⟩⟩:=(typeRd_out hRR1)
  have e2:=h2.len; subst e2
  have q2:=len_le r2
  have T:=Below.refl w.heap.size w
  unfold m_laws_eqType_R at hm
  refine enter 21 Tryz.func102 rfl rfl rfl ?_
  intro f hf
  have s0:f 0=.agg #[.int .i64 d0.kind,.string d0.name,.slice A1 d0.kids.length c1]:=hf 0 _ rfl
  have s1:f 1=.agg #[.int .i64 d1.kind,.string d1.name,.slice A2 d1.kids.length c2]:=hf 1 _ rfl
  refine wp_seq<|wp_rl rfl ?_
  refine RL.box rfl s0 (fun w3 B4 hb5 szw3=>?_)
  replace B4:Blk w3 w.heap.size 114 #[.int .i64 d0.kind,.string d0.name,.slice A1 d0.kids.length c1]:=B4
  have GB4:w.heap.size≤w.heap.size:=T.size
  have T:=Tt T hb5
  refine RL.box rfl s1 (fun w7 B8 hb9 szw7=>?_)
  replace B8:Blk w7 w3.heap.size 114 #[.int .i64 d1.kind,.string d1.name,.slice A2 d1.kids.length c2]:=B8
  have GB8:w.heap.size≤w3.heap.size:=T.size
  have Eob10_ob6:=Nat.ne_of_lt B4.lt
  have B4:=blkT B4 hb9
  have T:=Tt T hb9
  refine RL.y rfl (Y.assign (v:=.bool false) rfl)<|RL.nil<|then_n<|wp_seq<|wp_seq<|wp_rs rfl<|RQ.y rfl (Y.fieldAddr (off:=0) rfl (by kernel_rfl))<|RQ.y rfl (Y.load (v:=.int .i64 d0.kind) rfl (by kernel_rfl) (eqC (blkCell B4 (i:=0) rfl)))<|RQ.y rfl (Y.fieldAddr (off:=0) rfl (by kernel_rfl))<|RQ.y rfl (Y.load (v:=.int .i64 d1.kind) rfl (by kernel_rfl) (eqC (blkCell B8 (i:=0) rfl)))<|RQ.y rfl (Y.binI (v:=.bool (d0.kind != d1.kind)) rfl rfl rfl)<|RQ.nil<|then_n ?_
  rcases bcases (d0.kind != d1.kind) with c11|c11
  ·replace hm:=cF c11 hm
   refine cond_f rfl (vb rfl c11)<|wp_skip<|then_n<|wp_seq<|wp_seq<|wp_rs rfl<|RQ.y rfl (Y.fieldAddr (off:=1) rfl (by kernel_rfl))<|RQ.y rfl (Y.load (v:=.string d0.name) rfl (by kernel_rfl) (eqC (blkCell B4 (i:=1) rfl)))<|RQ.y rfl (Y.fieldAddr (off:=1) rfl (by kernel_rfl))<|RQ.y rfl (Y.load (v:=.string d1.name) rfl (by kernel_rfl) (eqC (blkCell B8 (i:=1) rfl)))<|RQ.y rfl (Y.neStr rfl rfl (by kernel_rfl))<|RQ.nil<|then_n ?_
   rcases bcases (d0.name.toList==d1.name.toList) with c12|c12
   ·replace hm:=cF c12 hm
    refine cond_t rfl (vbn rfl c12 rfl)<|wp_seq<|wp_rs rfl<|RQ.y rfl (Y.assign (v:=.bool false) rfl)<|RQ.nil<|then_n<|wp_ret ?_
    obtain rfl:=sj hm
    exact (then_r (ret1 rfl rfl rfl ⟨rfl,T⟩))
   replace hm:=cT c12 hm
   refine cond_f rfl (vbn rfl c12 rfl)<|wp_skip<|then_n<|wp_seq<|wp_seq<|wp_rb rfl<|RQ.y rfl (Y.fieldAddr (off:=2) rfl (by kernel_rfl))<|RQ.y rfl (Y.load (v:=.slice A1 d0.kids.length c1) rfl (by kernel_rfl) (beC (blkCell B4 (i:=2) rfl)))<|RQ.y rfl (Y.fieldAddr (off:=2) rfl (by kernel_rfl))<|RQ.y rfl (Y.load (v:=.slice A2 d1.kids.length c2) rfl (by kernel_rfl) (beC (blkCell B8 (i:=2) rfl))) ?_
   obtain ⟨y13,e14,hm⟩:=bnd hm
   refine RQ.call rfl (am2 rfl rfl) (by kernel_rfl) (v:=.bool y13) (bel (K:=fun _=>True) fun w' hb'=>(ih0 d0.kids d1.kids _ e14 _ _ w' (slArg typeRd_ok h1 r1 (Tt T hb')) (slArg typeRd_ok h2 r2 (Tt T hb'))))<|RQ.y rfl (Y.not (b':=(!y13)) rfl rfl)<|RQ.nil ?_
   intro w15 hb16
   have szw15:=hb16.size
   have T:=Tt T hb16
   refine then_n ?_
   rcases bcases y13 with c17|c17
   ·replace hm:=cF c17 hm
    refine cond_t rfl (vbn rfl c17 rfl)<|wp_seq<|wp_rs rfl<|RQ.y rfl (Y.assign (v:=.bool false) rfl)<|RQ.nil<|then_n<|wp_ret ?_
    obtain rfl:=sj hm
    exact (then_r (ret1 rfl rfl rfl ⟨rfl,T⟩))
   replace hm:=cT c17 hm
   refine cond_f rfl (vbn rfl c17 rfl)<|wp_skip<|then_n<|wp_seq<|wp_rs rfl<|RQ.y rfl (Y.assign (v:=.bool true) rfl)<|RQ.nil<|then_n<|wp_ret ?_
   obtain rfl:=sj hm
   exact (ret1 rfl rfl rfl ⟨rfl,T⟩)
  replace hm:=cT c11 hm
  refine cond_t rfl (vb rfl c11)<|wp_seq<|wp_rs rfl<|RQ.y rfl (Y.assign (v:=.bool false) rfl)<|RQ.nil<|then_n<|wp_ret ?_
  obtain rfl:=sj hm
  exact (then_r (ret1 rfl rfl rfl ⟨rfl,T⟩))
noncomputable def g_m_laws_eqTypeS:Nat→((List DType)→(List DType)→Option Bool) × (DType→DType→Option Bool)
  |0=>(fun _ _=>none,fun _ _=>none)
  |gas+1=>(m_laws_eqTypeS_R (g_m_laws_eqTypeS gas).1 (g_m_laws_eqTypeS gas).2,m_laws_eqType_R (g_m_laws_eqTypeS gas).1 (g_m_laws_eqTypeS gas).2)
noncomputable def m_laws_eqTypeS (gas:Nat):(List DType)→(List DType)→Option Bool:=(g_m_laws_eqTypeS gas).1
noncomputable def m_laws_eqType (gas:Nat):DType→DType→Option Bool:=(g_m_laws_eqTypeS gas).2
theorem c_g_m_laws_eqTypeS :∀gas:Nat,(∀(d0:List DType) (d1:List DType) (r:Bool) (hm:m_laws_eqTypeS gas d0 d1=some r) (v0:Value) (v1:Value) (w:World) (hv0:Sl typeRd 3 w v0 d0) (hv1:Sl typeRd 3 w v1 d1),Calls Tryz.prog 48 #[v0,v1] w fun e w'=>e=.returned (.bool r)∧Below w.heap.size w w')∧(∀(d0:DType) (d1:DType) (r:Bool) (hm:m_laws_eqType gas d0 d1=some r) (v0:Value) (v1:Value) (w:World) (hv0:St typeRd w v0 d0) (hv1:St typeRd w v1 d1),Calls Tryz.prog 102 #[v0,v1] w fun e w'=>e=.returned (.bool r)∧Below w.heap.size w w'):=by
  intro gas
  induction gas with
  |zero=>exact ⟨(fun _ _ r hm=>by have h0:(none:Option _)=some r:=hm; cases h0),(fun _ _ r hm=>by have h0:(none:Option _)=some r:=hm; cases h0)⟩
  |succ gas ih=>exact ⟨c_m_laws_eqTypeS_S _ _ (ih).1 (ih).2,c_m_laws_eqType_S _ _ (ih).1 (ih).2⟩
theorem c_m_laws_eqTypeS (gas : Nat) : ∀ (d0 : List DType) (d1 : List DType) (r : Bool) (hm : m_laws_eqTypeS gas d0 d1 = some r) (v0 : Value) (v1 : Value) (w : World) (hv0 : Sl typeRd 3 w v0 d0) (hv1 : Sl typeRd 3 w v1 d1), Calls Tryz.prog 48 #[v0, v1] w fun e w' => e = .returned (.bool r) ∧ Below w.heap.size w w' := (c_g_m_laws_eqTypeS gas).1
noncomputable def m_spec_SameType_A1:Option Bool:=
  some true
noncomputable def m_spec_SameType_B1 (d0:DType) (d1:DType) (self:DType→DType→Option Bool) (rec1:Int→Option Bool) (K1:Option Bool) (i15:Int):Option Bool:=
  (bif (decide (i15 < (d0.kids.length:Int))) then ((getI d0.kids i15).bind fun x18=>((getI d1.kids i15).bind fun x28=>((self x18 x28).bind fun y38=>(bif y38 then (rec1 (i15+1)) else some false)))) else (K1))
noncomputable def m_spec_SameType_L1 (d0:DType) (d1:DType) (self:DType→DType→Option Bool) (K1:Option Bool):Nat→Int→Option Bool
  |0,_=>none
  |g+1,i15=>m_spec_SameType_B1 d0 d1 self (m_spec_SameType_L1 d0 d1 self K1 g) K1 i15
noncomputable def m_spec_SameType_R (self:DType→DType→Option Bool) (d0:DType) (d1:DType):Option Bool:=
  (bif (d0.kind != d1.kind) then some false else (bif (d0.name.toList==d1.name.toList) then (bif ((d0.kids.length:Int) != (d1.kids.length:Int)) then some false else (m_spec_SameType_L1 d0 d1 self m_spec_SameType_A1 (d0.kids.length+1) 0)) else some false))
noncomputable def m_spec_SameType:Nat→DType→DType→Option Bool
  |0,_,_=>none
  |gas+1,d0,d1=>m_spec_SameType_R (m_spec_SameType gas) d0 d1
set_option maxHeartbeats 2000000 in
theorem c_m_spec_SameType :∀(gas:Nat) (d0:DType) (d1:DType) (r:Bool) (hm:m_spec_SameType gas d0 d1=some r) (v0:Value) (v1:Value) (w:World) (hv0:St typeRd w v0 d0) (hv1:St typeRd w v1 d1),
    Calls Tryz.prog 86 #[v0,v1] w fun e w'=>e=.returned (.bool r)∧Below w.heap.size w w':=by
  intro gas
  induction gas with
  |zero=>
   intro d0 d1 r hm v0 v1 w hv0 hv1
   cases hm
  |succ gas ih=>
   intro d0 d1 r hm v0 v1 w hv0 hv1
   obtain ⟨csa0,rfl,hRR0⟩:=hv0
   obtain ⟨A1,n1,c1,rfl,⟨h1,r1⟩⟩:=(typeRd_out hRR0)
   have e1:=h1.len; subst e1
   have q1:=len_le r1
   obtain ⟨csa1,rfl,hRR1⟩:=hv1
   obtain ⟨A2,n2,c2,rfl,⟨h2,r2⟩⟩:=(typeRd_out hRR1)
   have e2:=h2.len; subst e2
   have q2:=len_le r2
   have T:=Below.refl w.heap.size w
   obtain ⟨self,hself,hm⟩ :∃s,s=m_spec_SameType gas∧m_spec_SameType_R s d0 d1=some r:=⟨_,rfl,hm⟩
   unfold m_spec_SameType_R at hm
   refine enter 46 Tryz.func86 rfl rfl rfl ?_
   intro f hf
   have s0:f 0=.agg #[.int .i64 d0.kind,.string d0.name,.slice A1 d0.kids.length c1]:=hf 0 _ rfl
   have s1:f 1=.agg #[.int .i64 d1.kind,.string d1.name,.slice A2 d1.kids.length c2]:=hf 1 _ rfl
   refine wp_seq<|wp_rl rfl ?_
   refine RL.box rfl s0 (fun w3 B4 hb5 szw3=>?_)
   replace B4:Blk w3 w.heap.size 114 #[.int .i64 d0.kind,.string d0.name,.slice A1 d0.kids.length c1]:=B4
   have GB4:w.heap.size≤w.heap.size:=T.size
   have T:=Tt T hb5
   refine RL.box rfl s1 (fun w7 B8 hb9 szw7=>?_)
   replace B8:Blk w7 w3.heap.size 114 #[.int .i64 d1.kind,.string d1.name,.slice A2 d1.kids.length c2]:=B8
   have GB8:w.heap.size≤w3.heap.size:=T.size
   have Eob10_ob6:=Nat.ne_of_lt B4.lt
   have B4:=blkT B4 hb9
   have T:=Tt T hb9
   refine RL.y rfl (Y.assign (v:=.bool false) rfl)<|RL.nil<|then_n<|wp_seq<|wp_seq<|wp_rs rfl<|RQ.y rfl (Y.fieldAddr (off:=0) rfl (by kernel_rfl))<|RQ.y rfl (Y.load (v:=.int .i64 d0.kind) rfl (by kernel_rfl) (eqC (blkCell B4 (i:=0) rfl)))<|RQ.y rfl (Y.fieldAddr (off:=0) rfl (by kernel_rfl))<|RQ.y rfl (Y.load (v:=.int .i64 d1.kind) rfl (by kernel_rfl) (eqC (blkCell B8 (i:=0) rfl)))<|RQ.y rfl (Y.binI (v:=.bool (d0.kind != d1.kind)) rfl rfl rfl)<|RQ.y rfl (Y.move (v:=.bool (d0.kind != d1.kind)) rfl) ?_
   rcases bcases (d0.kind != d1.kind) with c11|c11
   ·replace hm:=cF c11 hm
    refine RQ.y (wantT (dj:=11) rfl (vb rfl c11)) (Y.fieldAddr (off:=1) rfl (by kernel_rfl))<|RQ.y (wantT (dj:=11) rfl (vb rfl c11)) (Y.load (v:=.string d0.name) rfl (by kernel_rfl) (eqC (blkCell B4 (i:=1) rfl)))<|RQ.y (wantT (dj:=11) rfl (vb rfl c11)) (Y.fieldAddr (off:=1) rfl (by kernel_rfl))<|RQ.y (wantT (dj:=11) rfl (vb rfl c11)) (Y.load (v:=.string d1.name) rfl (by kernel_rfl) (eqC (blkCell B8 (i:=1) rfl)))<|RQ.y (wantT (dj:=11) rfl (vb rfl c11)) (Y.neStr rfl rfl (by kernel_rfl))<|RQ.y rfl (Y.pick (b:=false) (v:=.bool (!(d0.name.toList==d1.name.toList))) (vb rfl c11) rfl)<|RQ.y rfl (Y.move (v:=.bool (!(d0.name.toList==d1.name.toList))) rfl) ?_
    rcases bcases (d0.name.toList==d1.name.toList) with c12|c12
    ·replace hm:=cF c12 hm
     iterate 7 refine RQ.skip (wantN (dj:=18) rfl (vbn rfl c12 rfl) rfl) ?_
     refine RQ.y rfl (Y.pick (b:=true) (v:=.bool true) (vbn rfl c12 rfl) rfl)<|RQ.nil<|then_n<|cond_t rfl rfl<|wp_seq<|wp_rs rfl<|RQ.y rfl (Y.assign (v:=.bool false) rfl)<|RQ.nil<|then_n<|wp_ret ?_
     obtain rfl:=sj hm
     exact (then_r (ret1 rfl rfl rfl ⟨rfl,T⟩))
    replace hm:=cT c12 hm
    refine RQ.y (wantT (dj:=18) rfl (vbn rfl c12 rfl)) (Y.fieldAddr (off:=2) rfl (by kernel_rfl))<|RQ.y (wantT (dj:=18) rfl (vbn rfl c12 rfl)) (Y.load (v:=.slice A1 d0.kids.length c1) rfl (by kernel_rfl) (eqC (blkCell B4 (i:=2) rfl)))<|RQ.y (wantT (dj:=18) rfl (vbn rfl c12 rfl)) (Y.len (by kernel_rfl) rfl)<|RQ.y (wantT (dj:=18) rfl (vbn rfl c12 rfl)) (Y.fieldAddr (off:=2) rfl (by kernel_rfl))<|RQ.y (wantT (dj:=18) rfl (vbn rfl c12 rfl)) (Y.load (v:=.slice A2 d1.kids.length c2) rfl (by kernel_rfl) (eqC (blkCell B8 (i:=2) rfl)))<|RQ.y (wantT (dj:=18) rfl (vbn rfl c12 rfl)) (Y.len (by kernel_rfl) rfl)<|RQ.y (wantT (dj:=18) rfl (vbn rfl c12 rfl)) (Y.binI (v:=.bool ((d0.kids.length:Int) != (d1.kids.length:Int))) rfl rfl rfl)<|RQ.y rfl (Y.pick (b:=false) (v:=.bool ((d0.kids.length:Int) != (d1.kids.length:Int))) (vbn rfl c12 rfl) rfl)<|RQ.nil<|then_n ?_
    rcases bcases ((d0.kids.length:Int) != (d1.kids.length:Int)) with c13|c13
    ·replace hm:=cF c13 hm
     refine cond_f rfl (vb rfl c13)<|wp_skip<|then_n<|wp_seq<|wp_seq<|wp_rs rfl<|RQ.y rfl (Y.assign (v:=.int .i64 0) rfl)<|RQ.nil<|then_n<|wp_block ?_
     obtain ⟨K1,hK1,hm⟩ :∃K,K=m_spec_SameType_A1∧m_spec_SameType_L1 d0 d1 self K (d0.kids.length+1) 0=some r:=⟨_,rfl,hm⟩
     refine wp_loopX (fun g f w'=>∃(i15:Int),f 2=.pointer (some ⟨w.heap.size,0,none⟩)∧f 3=.pointer (some ⟨w3.heap.size,0,none⟩)∧f 5=.int .i64 i15∧0≤i15∧Blk w' w.heap.size 114 #[.int .i64 d0.kind,.string d0.name,.slice A1 d0.kids.length c1]∧Blk w' w3.heap.size 114 #[.int .i64 d1.kind,.string d1.name,.slice A2 d1.kids.length c2]∧Below w.heap.size w w'∧m_spec_SameType_L1 d0 d1 self K1 g i15=some r) 0 (fun f w'=>Blk w' w.heap.size 114 #[.int .i64 d0.kind,.string d0.name,.slice A1 d0.kids.length c1]∧Blk w' w3.heap.size 114 #[.int .i64 d1.kind,.string d1.name,.slice A2 d1.kids.length c2]∧Below w.heap.size w w'∧m_spec_SameType_A1  = some r) (d0.kids.length+1) ⟨0,rfl,rfl,rfl,(by omega),B4,B8,T,hm⟩ ?_ ?_
     ·rintro f w14 ⟨B4,B8,T,hm⟩
      unfold m_spec_SameType_A1 at hm
      refine blk_hit (then_n ?_)
      refine wp_seq<|wp_rs rfl<|RQ.y rfl (Y.assign (v:=.bool true) rfl)<|RQ.nil<|then_n<|wp_ret ?_
      obtain rfl:=sj hm
      exact (ret1 rfl rfl rfl ⟨rfl,T⟩)
     rintro g f w16 ⟨i15,s2_1,s3_1,s5_1,nn5_1,B4,B8,T,hm⟩
     rcases g with _|g
     ·simp only [m_spec_SameType_L1] at hm; cases hm
     obtain ⟨rec1,hrec1,hm⟩ :∃z,z=m_spec_SameType_L1 d0 d1 self K1 g∧m_spec_SameType_B1 d0 d1 self z K1 i15=some r:=⟨_,rfl,hm⟩
     unfold m_spec_SameType_B1 at hm
     refine wp_seq<|wp_seq<|wp_rs rfl<|RQ.y rfl (Y.move (v:=.int .i64 i15) s5_1)<|RQ.y rfl (Y.fieldAddr (off:=2) s2_1 (by kernel_rfl))<|RQ.y rfl (Y.load (v:=.slice A1 d0.kids.length c1) rfl (by kernel_rfl) (eqC (blkCell B4 (i:=2) rfl)))<|RQ.y rfl (Y.len (by kernel_rfl) rfl)<|RQ.y rfl (Y.binI (v:=.bool (decide (i15 < (d0.kids.length:Int)))) rfl rfl rfl)<|RQ.nil<|then_n ?_
     rcases bcases (decide (i15 < (d0.kids.length:Int))) with c17|c17
     ·replace hm:=cF c17 hm
      have pc17:=of_decide_eq_false c17
      refine cond_f rfl (vb rfl c17)<|wp_exit ?_
      exact (then_x (then_x (hit_x ⟨_,rfl,⟨B4,B8,T,(by rw [hK1] at hm; exact hm)⟩⟩)))
     replace hm:=cT c17 hm
     have pc17:=of_decide_eq_true c17
     refine cond_t rfl (vb rfl c17)<|wp_skip<|then_n<|wp_seq<|wp_block<|wp_seq<|wp_rbd (by kernel_rfl) (by kernel_rfl)<|RQ.y rfl (Y.fieldAddr (off:=2) s2_1 (by kernel_rfl))<|RQ.y rfl (Y.load (v:=.slice A1 d0.kids.length c1) rfl (by kernel_rfl) (beC (blkCell B4 (i:=2) rfl)))<|RQ.y rfl (Y.move (v:=.int .i64 i15) s5_1) ?_
     obtain ⟨x18,hx21,hm⟩:=bnd hm
     obtain ⟨k19,hk22,hl23,hx21⟩:=getI_some hx21
     obtain ⟨b25,o26,rfl,hbb25⟩:=h1.addr (by omega)
     obtain ⟨cs20,hRcs20,hc24⟩:=h1.el hx21
     have hScs20:=hRcs20
     obtain ⟨A27,n27,c27,rfl,⟨h27,r27⟩⟩:=(typeRd_out hRcs20)
     have e27:=h27.len; subst e27
     have q27:=len_le r27
     refine RQ.y rfl (Y.indexAddr (m:=k19) (sz:=3) rfl rfl hk22 hl23 (by kernel_rfl))<|RQ.y rfl (Y.loadN (cs:=[.int .i64 x18.kind,.string x18.name,.slice A27 x18.kids.length c27]) rfl (by kernel_rfl) (cells3 (beC (cellT T (hc24 0 _ rfl))) (beC (cellT T (hc24 1 _ rfl))) (beC (cellT T (hc24 2 _ rfl)))))<|RQ.y rfl (Y.fieldAddr (off:=2) s3_1 (by kernel_rfl))<|RQ.y rfl (Y.load (v:=.slice A2 d1.kids.length c2) rfl (by kernel_rfl) (beC (blkCell B8 (i:=2) rfl)))<|RQ.y rfl (Y.move (v:=.int .i64 i15) s5_1) ?_
     obtain ⟨x28,hx31,hm⟩:=bnd hm
     obtain ⟨k29,hk32,hl33,hx31⟩:=getI_some hx31
     obtain ⟨b35,o36,rfl,hbb35⟩:=h2.addr (by omega)
     obtain ⟨cs30,hRcs30,hc34⟩:=h2.el hx31
     have hScs30:=hRcs30
     obtain ⟨A37,n37,c37,rfl,⟨h37,r37⟩⟩:=(typeRd_out hRcs30)
     have e37:=h37.len; subst e37
     have q37:=len_le r37
     refine RQ.y rfl (Y.indexAddr (m:=k29) (sz:=3) rfl rfl hk32 hl33 (by kernel_rfl))<|RQ.y rfl (Y.loadN (cs:=[.int .i64 x28.kind,.string x28.name,.slice A37 x28.kids.length c37]) rfl (by kernel_rfl) (cells3 (beC (cellT T (hc34 0 _ rfl))) (beC (cellT T (hc34 1 _ rfl))) (beC (cellT T (hc34 2 _ rfl))))) ?_
     obtain ⟨y38,e39,hm⟩:=bnd hm
     refine RQ.call rfl (am2 rfl rfl) (by kernel_rfl) (v:=.bool y38) (bel (K:=fun _=>True) fun w' hb'=>(ih x18 x28 _ (by rw [← hself]; exact e39) _ _ w' (stArg (R:=typeRd) (typeRd_in ⟨_,_,_,rfl,⟨SlAt.now typeRd_ok h27 (Nat.le_refl _) (Tt T hb'),r27⟩⟩)) (stArg (R:=typeRd) (typeRd_in ⟨_,_,_,rfl,⟨SlAt.now typeRd_ok h37 (Nat.le_refl _) (Tt T hb'),r37⟩⟩))))<|RQ.y rfl (Y.not (b':=(!y38)) rfl rfl)<|RQ.nil ?_
     intro w40 hb41
     have szw40:=hb41.size
     have B4:=blkT B4 hb41
     have B8:=blkT B8 hb41
     have T:=Tt T hb41
     refine then_n ?_
     rcases bcases y38 with c42|c42
     ·replace hm:=cF c42 hm
      refine cond_t rfl (vbn rfl c42 rfl)<|wp_seq<|wp_rs rfl<|RQ.y rfl (Y.assign (v:=.bool false) rfl)<|RQ.nil<|then_n<|wp_ret ?_
      obtain rfl:=sj hm
      exact (blk_r (then_r (then_r (hit_r (blk_r (then_r (ret1 rfl rfl rfl ⟨rfl,T⟩)))))))
     replace hm:=cT c42 hm
     refine cond_f rfl (vbn rfl c42 rfl)<|wp_skip ?_
     refine blk_n (then_n ?_)
     refine wp_rs rfl<|RQ.y rfl (Y.move (v:=.int .i64 i15) s5_1)<|RQ.y rfl (Y.binI rfl rfl (binI_add (m:=i15) (by omega)))<|RQ.y rfl (Y.assign (v:=.int .i64 (i15+1)) rfl)<|RQ.nil ?_
     exact (then_n ⟨g,_,Nat.lt_succ_self _,rfl,⟨(i15+1),s2_1,s3_1,rfl,(by omega),B4,B8,T,(by rw [← hrec1]; exact hm)⟩⟩)
    replace hm:=cT c13 hm
    refine cond_t rfl (vb rfl c13)<|wp_seq<|wp_rs rfl<|RQ.y rfl (Y.assign (v:=.bool false) rfl)<|RQ.nil<|then_n<|wp_ret ?_
    obtain rfl:=sj hm
    exact (then_r (ret1 rfl rfl rfl ⟨rfl,T⟩))
   replace hm:=cT c11 hm
   iterate 5 refine RQ.skip (wantN (dj:=11) rfl (vb rfl c11) rfl) ?_
   refine RQ.y rfl (Y.pick (b:=true) (v:=.bool true) (vb rfl c11) rfl)<|RQ.y rfl (Y.move (v:=.bool true) rfl) ?_
   iterate 7 refine RQ.skip (wantN (dj:=18) rfl rfl rfl) ?_
   refine RQ.y rfl (Y.pick (b:=true) (v:=.bool true) rfl rfl)<|RQ.nil<|then_n<|cond_t rfl rfl<|wp_seq<|wp_rs rfl<|RQ.y rfl (Y.assign (v:=.bool false) rfl)<|RQ.nil<|then_n<|wp_ret ?_
   obtain rfl:=sj hm
   exact (then_r (ret1 rfl rfl rfl ⟨rfl,T⟩))
noncomputable def m_spec_l03SameTypes_A1:Option Bool:=
  some true
noncomputable def m_spec_l03SameTypes_B1 (d0:List DType) (d1:List DType) (rec1:Int→Option Bool) (K1:Option Bool) (i3:Int):Option Bool:=
  (bif (decide (i3 < (d0.length:Int))) then ((getI d0 i3).bind fun x6=>((getI d1 i3).bind fun x16=>((m_spec_SameType (SizeOf.sizeOf x6) x6 x16).bind fun y26=>(bif y26 then (rec1 (i3+1)) else some false)))) else (K1))
noncomputable def m_spec_l03SameTypes_L1 (d0:List DType) (d1:List DType) (K1:Option Bool):Nat→Int→Option Bool
  |0,_=>none
  |g+1,i3=>m_spec_l03SameTypes_B1 d0 d1 (m_spec_l03SameTypes_L1 d0 d1 K1 g) K1 i3
noncomputable def m_spec_l03SameTypes (d0:List DType) (d1:List DType):Option Bool:=
  (bif ((d0.length:Int) != (d1.length:Int)) then some false else (m_spec_l03SameTypes_L1 d0 d1 m_spec_l03SameTypes_A1 (d0.length+1) 0))
set_option maxHeartbeats 2000000 in
theorem c_m_spec_l03SameTypes (d0:List DType) (d1:List DType) (r:Bool) (hm:m_spec_l03SameTypes d0 d1=some r) (v0:Value) (v1:Value) (w:World) (hv0:Sl typeRd 3 w v0 d0) (hv1:Sl typeRd 3 w v1 d1) :
    Calls Tryz.prog 142 #[v0,v1] w fun e w'=>e=.returned (.bool r)∧Below w.heap.size w w':=by
  obtain ⟨Aa0,na0,ca0,rfl,ha0,ra0⟩:=hv0
  have ea0:=ha0.len; subst ea0
  have qa0:=len_le ra0
  obtain ⟨Aa1,na1,ca1,rfl,ha1,ra1⟩:=hv1
  have ea1:=ha1.len; subst ea1
  have qa1:=len_le ra1
  have T:=Below.refl w.heap.size w
  unfold m_spec_l03SameTypes at hm
  refine enter 27 Tryz.func142 rfl rfl rfl ?_
  intro f hf
  have s0:f 0=.slice Aa0 d0.length ca0:=hf 0 _ rfl
  have s1:f 1=.slice Aa1 d1.length ca1:=hf 1 _ rfl
  refine wp_seq<|wp_rs rfl<|RQ.y rfl (Y.assign (v:=.bool false) rfl)<|RQ.nil<|then_n<|wp_seq<|wp_seq<|wp_rs rfl<|RQ.y rfl (Y.move (v:=.slice Aa0 d0.length ca0) s0)<|RQ.y rfl (Y.len (by kernel_rfl) rfl)<|RQ.y rfl (Y.move (v:=.slice Aa1 d1.length ca1) s1)<|RQ.y rfl (Y.len (by kernel_rfl) rfl)<|RQ.y rfl (Y.binI (v:=.bool ((d0.length:Int) != (d1.length:Int))) rfl rfl rfl)<|RQ.nil<|then_n ?_
  rcases bcases ((d0.length:Int) != (d1.length:Int)) with c1|c1
  ·replace hm:=cF c1 hm
   refine cond_f rfl (vb rfl c1)<|wp_skip<|then_n<|wp_seq<|wp_seq<|wp_rs rfl<|RQ.y rfl (Y.assign (v:=.int .i64 0) rfl)<|RQ.nil<|then_n<|wp_block ?_
   obtain ⟨K1,hK1,hm⟩ :∃K,K=m_spec_l03SameTypes_A1∧m_spec_l03SameTypes_L1 d0 d1 K (d0.length+1) 0=some r:=⟨_,rfl,hm⟩
   refine wp_loopX (fun g f w'=>∃(i3:Int),f 0=.slice Aa0 d0.length ca0∧f 1=.slice Aa1 d1.length ca1∧f 5=.int .i64 i3∧0≤i3∧Below w.heap.size w w'∧m_spec_l03SameTypes_L1 d0 d1 K1 g i3=some r) 0 (fun f w'=>Below w.heap.size w w'∧m_spec_l03SameTypes_A1  = some r) (d0.length+1) ⟨0,s0,s1,rfl,(by omega),T,hm⟩ ?_ ?_
   ·rintro f w2 ⟨T,hm⟩
    unfold m_spec_l03SameTypes_A1 at hm
    refine blk_hit (then_n ?_)
    refine wp_seq<|wp_rs rfl<|RQ.y rfl (Y.assign (v:=.bool true) rfl)<|RQ.nil<|then_n<|wp_ret ?_
    obtain rfl:=sj hm
    exact (ret1 rfl rfl rfl ⟨rfl,T⟩)
   rintro g f w4 ⟨i3,s0_1,s1_1,s5_1,nn5_1,T,hm⟩
   rcases g with _|g
   ·simp only [m_spec_l03SameTypes_L1] at hm; cases hm
   obtain ⟨rec1,hrec1,hm⟩ :∃z,z=m_spec_l03SameTypes_L1 d0 d1 K1 g∧m_spec_l03SameTypes_B1 d0 d1 z K1 i3=some r:=⟨_,rfl,hm⟩
   unfold m_spec_l03SameTypes_B1 at hm
   refine wp_seq<|wp_seq<|wp_rs rfl<|RQ.y rfl (Y.move (v:=.int .i64 i3) s5_1)<|RQ.y rfl (Y.move (v:=.slice Aa0 d0.length ca0) s0_1)<|RQ.y rfl (Y.len (by kernel_rfl) rfl)<|RQ.y rfl (Y.binI (v:=.bool (decide (i3 < (d0.length:Int)))) rfl rfl rfl)<|RQ.nil<|then_n ?_
   rcases bcases (decide (i3 < (d0.length:Int))) with c5|c5
   ·replace hm:=cF c5 hm
    have pc5:=of_decide_eq_false c5
    refine cond_f rfl (vb rfl c5)<|wp_exit ?_
    exact (then_x (then_x (hit_x ⟨_,rfl,⟨T,(by rw [hK1] at hm; exact hm)⟩⟩)))
   replace hm:=cT c5 hm
   have pc5:=of_decide_eq_true c5
   refine cond_t rfl (vb rfl c5)<|wp_skip<|then_n<|wp_seq<|wp_block<|wp_seq<|wp_rbd (by kernel_rfl) (by kernel_rfl)<|RQ.y rfl (Y.move (v:=.slice Aa0 d0.length ca0) s0_1)<|RQ.y rfl (Y.move (v:=.int .i64 i3) s5_1) ?_
   obtain ⟨x6,hx9,hm⟩:=bnd hm
   obtain ⟨k7,hk10,hl11,hx9⟩:=getI_some hx9
   obtain ⟨b13,o14,rfl,hbb13⟩:=ha0.addr (by omega)
   obtain ⟨cs8,hRcs8,hc12⟩:=ha0.el hx9
   have hScs8:=hRcs8
   obtain ⟨A15,n15,c15,rfl,⟨h15,r15⟩⟩:=(typeRd_out hRcs8)
   have e15:=h15.len; subst e15
   have q15:=len_le r15
   refine RQ.y rfl (Y.indexAddr (m:=k7) (sz:=3) rfl rfl hk10 hl11 (by kernel_rfl))<|RQ.y rfl (Y.loadN (cs:=[.int .i64 x6.kind,.string x6.name,.slice A15 x6.kids.length c15]) rfl (by kernel_rfl) (cells3 (beC (cellT T (hc12 0 _ rfl))) (beC (cellT T (hc12 1 _ rfl))) (beC (cellT T (hc12 2 _ rfl)))))<|RQ.y rfl (Y.move (v:=.slice Aa1 d1.length ca1) s1_1)<|RQ.y rfl (Y.move (v:=.int .i64 i3) s5_1) ?_
   obtain ⟨x16,hx19,hm⟩:=bnd hm
   obtain ⟨k17,hk20,hl21,hx19⟩:=getI_some hx19
   obtain ⟨b23,o24,rfl,hbb23⟩:=ha1.addr (by omega)
   obtain ⟨cs18,hRcs18,hc22⟩:=ha1.el hx19
   have hScs18:=hRcs18
   obtain ⟨A25,n25,c25,rfl,⟨h25,r25⟩⟩:=(typeRd_out hRcs18)
   have e25:=h25.len; subst e25
   have q25:=len_le r25
   refine RQ.y rfl (Y.indexAddr (m:=k17) (sz:=3) rfl rfl hk20 hl21 (by kernel_rfl))<|RQ.y rfl (Y.loadN (cs:=[.int .i64 x16.kind,.string x16.name,.slice A25 x16.kids.length c25]) rfl (by kernel_rfl) (cells3 (beC (cellT T (hc22 0 _ rfl))) (beC (cellT T (hc22 1 _ rfl))) (beC (cellT T (hc22 2 _ rfl))))) ?_
   obtain ⟨y26,e27,hm⟩:=bnd hm
   refine RQ.call rfl (am2 rfl rfl) (by kernel_rfl) (v:=.bool y26) (bel (K:=fun _=>True) fun w' hb'=>(c_m_spec_SameType (SizeOf.sizeOf x6) x6 x16 _ e27 _ _ w' (stArg (R:=typeRd) (typeRd_in ⟨_,_,_,rfl,⟨SlAt.now typeRd_ok h15 (Nat.le_refl _) (Tt T hb'),r15⟩⟩)) (stArg (R:=typeRd) (typeRd_in ⟨_,_,_,rfl,⟨SlAt.now typeRd_ok h25 (Nat.le_refl _) (Tt T hb'),r25⟩⟩))))<|RQ.y rfl (Y.not (b':=(!y26)) rfl rfl)<|RQ.nil ?_
   intro w28 hb29
   have szw28:=hb29.size
   have T:=Tt T hb29
   refine then_n ?_
   rcases bcases y26 with c30|c30
   ·replace hm:=cF c30 hm
    refine cond_t rfl (vbn rfl c30 rfl)<|wp_seq<|wp_rs rfl<|RQ.y rfl (Y.assign (v:=.bool false) rfl)<|RQ.nil<|then_n<|wp_ret ?_
    obtain rfl:=sj hm
    exact (blk_r (then_r (then_r (hit_r (blk_r (then_r (ret1 rfl rfl rfl ⟨rfl,T⟩)))))))
   replace hm:=cT c30 hm
   refine cond_f rfl (vbn rfl c30 rfl)<|wp_skip ?_
   refine blk_n (then_n ?_)
   refine wp_rs rfl<|RQ.y rfl (Y.move (v:=.int .i64 i3) s5_1)<|RQ.y rfl (Y.binI rfl rfl (binI_add (m:=i3) (by omega)))<|RQ.y rfl (Y.assign (v:=.int .i64 (i3+1)) rfl)<|RQ.nil ?_
   exact (then_n ⟨g,_,Nat.lt_succ_self _,rfl,⟨(i3+1),s0_1,s1_1,rfl,(by omega),T,(by rw [← hrec1]; exact hm)⟩⟩)
  replace hm:=cT c1 hm
  refine cond_t rfl (vb rfl c1)<|wp_seq<|wp_rs rfl<|RQ.y rfl (Y.assign (v:=.bool false) rfl)<|RQ.nil<|then_n<|wp_ret ?_
  obtain rfl:=sj hm
  exact (then_r (ret1 rfl rfl rfl ⟨rfl,T⟩))
noncomputable def m_slices_EqualFunc_impl_Type_impl_Type_impl_Type_impl_Type_A1:Option Bool:=
  some true
noncomputable def m_slices_EqualFunc_impl_Type_impl_Type_impl_Type_impl_Type_B1 (d0:List DType) (d1:List DType) (d2:DType→DType→Option Bool) (rec1:Int→Option Bool) (K1:Option Bool) (i3:Int):Option Bool:=
  (bif (decide (i3 < (d0.length:Int))) then ((getI d0 i3).bind fun x6=>((getI d1 i3).bind fun x23=>((d2 x6 x23).bind fun y40=>(bif y40 then (rec1 (i3+1)) else some false)))) else (K1))
noncomputable def m_slices_EqualFunc_impl_Type_impl_Type_impl_Type_impl_Type_L1 (d0:List DType) (d1:List DType) (d2:DType→DType→Option Bool) (K1:Option Bool):Nat→Int→Option Bool
  |0,_=>none
  |g+1,i3=>m_slices_EqualFunc_impl_Type_impl_Type_impl_Type_impl_Type_B1 d0 d1 d2 (m_slices_EqualFunc_impl_Type_impl_Type_impl_Type_impl_Type_L1 d0 d1 d2 K1 g) K1 i3
noncomputable def m_slices_EqualFunc_impl_Type_impl_Type_impl_Type_impl_Type (d0:List DType) (d1:List DType) (d2:DType→DType→Option Bool):Option Bool:=
  (bif ((d0.length:Int) != (d1.length:Int)) then some false else (m_slices_EqualFunc_impl_Type_impl_Type_impl_Type_impl_Type_L1 d0 d1 d2 m_slices_EqualFunc_impl_Type_impl_Type_impl_Type_impl_Type_A1 (d0.length+1) 0))
set_option maxHeartbeats 2000000 in
theorem c_m_slices_EqualFunc_impl_Type_impl_Type_impl_Type_impl_Type (d0:List DType) (d1:List DType) (d2:DType→DType→Option Bool) (r:Bool) (hm:m_slices_EqualFunc_impl_Type_impl_Type_impl_Type_impl_Type d0 d1 d2=some r) (v0:Value) (v1:Value) (gf2:FuncId) (caps2:Array Value) (w:World) (hv0:Sl typeRd 3 w v0 d0) (hv1:Sl typeRd 3 w v1 d1) (hgo2:isGo Tryz.prog gf2=true) (hf2 :∀(x0:DType) (x1:DType) (b:Bool),d2 x0 x1=some b→∀w1,Below w.heap.size w w1→∀y0,St typeRd w1 y0 x0→∀y1,St typeRd w1 y1 x1→Calls Tryz.prog gf2 (#[y0,y1] ++ caps2) w1 fun e w2=>e=.returned (.bool b)∧Below w1.heap.size w1 w2) :
    Calls Tryz.prog 104 #[v0,v1,.func (.func gf2) #[] caps2] w fun e w'=>e=.returned (.bool r)∧Below w.heap.size w w':=by
  obtain ⟨Aa0,na0,ca0,rfl,ha0,ra0⟩:=hv0
  have ea0:=ha0.len; subst ea0
  have qa0:=len_le ra0
  obtain ⟨Aa1,na1,ca1,rfl,ha1,ra1⟩:=hv1
  have ea1:=ha1.len; subst ea1
  have qa1:=len_le ra1
  have T:=Below.refl w.heap.size w
  unfold m_slices_EqualFunc_impl_Type_impl_Type_impl_Type_impl_Type at hm
  refine enter 32 Tryz.func104 rfl rfl rfl ?_
  intro f hf
  have s0:f 0=.slice Aa0 d0.length ca0:=hf 0 _ rfl
  have s1:f 1=.slice Aa1 d1.length ca1:=hf 1 _ rfl
  have s2:f 2=.func (.func gf2) #[] caps2:=hf 2 _ rfl
  refine wp_seq<|wp_rs rfl<|RQ.y rfl (Y.assign (v:=.bool false) rfl)<|RQ.nil<|then_n<|wp_seq<|wp_seq<|wp_rs rfl<|RQ.y rfl (Y.move (v:=.slice Aa0 d0.length ca0) s0)<|RQ.y rfl (Y.len (by kernel_rfl) rfl)<|RQ.y rfl (Y.move (v:=.slice Aa1 d1.length ca1) s1)<|RQ.y rfl (Y.len (by kernel_rfl) rfl)<|RQ.y rfl (Y.binI (v:=.bool ((d0.length:Int) != (d1.length:Int))) rfl rfl rfl)<|RQ.nil<|then_n ?_
  rcases bcases ((d0.length:Int) != (d1.length:Int)) with c1|c1
  ·replace hm:=cF c1 hm
   refine cond_f rfl (vb rfl c1)<|wp_skip<|then_n<|wp_seq<|wp_seq<|wp_rs rfl<|RQ.y rfl (Y.move (v:=.slice Aa0 d0.length ca0) s0)<|RQ.y rfl (Y.len (by kernel_rfl) rfl)<|RQ.y rfl (Y.move (v:=.int .i64 0) rfl)<|RQ.nil<|then_n<|wp_block ?_
   obtain ⟨K1,hK1,hm⟩ :∃K,K=m_slices_EqualFunc_impl_Type_impl_Type_impl_Type_impl_Type_A1∧m_slices_EqualFunc_impl_Type_impl_Type_impl_Type_impl_Type_L1 d0 d1 d2 K (d0.length+1) 0=some r:=⟨_,rfl,hm⟩
   refine wp_loopX (fun g f w'=>∃(i3:Int),f 1=.slice Aa1 d1.length ca1∧f 2=.func (.func gf2) #[] caps2∧f 15=.slice Aa0 d0.length ca0∧f 16=.int .i64 (d0.length:Int)∧f 17=.int .i64 i3∧0≤i3∧Below w.heap.size w w'∧m_slices_EqualFunc_impl_Type_impl_Type_impl_Type_impl_Type_L1 d0 d1 d2 K1 g i3=some r) 0 (fun f w'=>Below w.heap.size w w'∧m_slices_EqualFunc_impl_Type_impl_Type_impl_Type_impl_Type_A1  = some r) (d0.length+1) ⟨0,s1,s2,rfl,rfl,rfl,(by omega),T,hm⟩ ?_ ?_
   ·rintro f w2 ⟨T,hm⟩
    unfold m_slices_EqualFunc_impl_Type_impl_Type_impl_Type_impl_Type_A1 at hm
    refine blk_hit (then_n ?_)
    refine wp_seq<|wp_rs rfl<|RQ.y rfl (Y.assign (v:=.bool true) rfl)<|RQ.nil<|then_n<|wp_ret ?_
    obtain rfl:=sj hm
    exact (ret1 rfl rfl rfl ⟨rfl,T⟩)
   rintro g f w4 ⟨i3,s1_1,s2_1,s15_1,s16_1,s17_1,nn17_1,T,hm⟩
   rcases g with _|g
   ·simp only [m_slices_EqualFunc_impl_Type_impl_Type_impl_Type_impl_Type_L1] at hm; cases hm
   obtain ⟨rec1,hrec1,hm⟩ :∃z,z=m_slices_EqualFunc_impl_Type_impl_Type_impl_Type_impl_Type_L1 d0 d1 d2 K1 g∧m_slices_EqualFunc_impl_Type_impl_Type_impl_Type_impl_Type_B1 d0 d1 d2 z K1 i3=some r:=⟨_,rfl,hm⟩
   unfold m_slices_EqualFunc_impl_Type_impl_Type_impl_Type_impl_Type_B1 at hm
   refine wp_seq<|wp_rs rfl<|RQ.y rfl (Y.binI (v:=.bool (decide (i3 < (d0.length:Int)))) s17_1 s16_1 rfl)<|RQ.nil<|then_n<|wp_seq ?_
   rcases bcases (decide (i3 < (d0.length:Int))) with c5|c5
   ·replace hm:=cF c5 hm
    have pc5:=of_decide_eq_false c5
    refine cond_f rfl (vb rfl c5)<|wp_exit ?_
    exact (then_x (then_x (hit_x ⟨_,rfl,⟨T,(by rw [hK1] at hm; exact hm)⟩⟩)))
   replace hm:=cT c5 hm
   have pc5:=of_decide_eq_true c5
   refine cond_t rfl (vb rfl c5)<|wp_skip<|then_n<|wp_seq<|wp_block<|wp_seq<|wp_rl rfl<|RL.y rfl (Y.move (v:=.int .i64 i3) s17_1) ?_
   obtain ⟨x6,hx9,hm⟩:=bnd hm
   obtain ⟨k7,hk10,hl11,hx9⟩:=getI_some hx9
   obtain ⟨b13,o14,rfl,hbb13⟩:=ha0.addr (by omega)
   obtain ⟨cs8,hRcs8,hc12⟩:=ha0.el hx9
   have hScs8:=hRcs8
   obtain ⟨A15,n15,c15,rfl,⟨h15,r15⟩⟩:=(typeRd_out hRcs8)
   have e15:=h15.len; subst e15
   have q15:=len_le r15
   refine RL.y rfl (Y.indexAddr (m:=k7) (sz:=3) s15_1 s17_1 hk10 hl11 (by kernel_rfl))<|RL.y rfl (Y.loadN (cs:=[.int .i64 x6.kind,.string x6.name,.slice A15 x6.kids.length c15]) rfl (by kernel_rfl) (cells3 (eqC (cellT T (hc12 0 _ rfl))) (eqC (cellT T (hc12 1 _ rfl))) (eqC (cellT T (hc12 2 _ rfl))))) ?_
   refine RL.alloc (z:=.agg #[.int .i64 0,.string ByteArray.empty,.slice none 0 0]) rfl (by kernel_rfl) (fun w16 B17 hb18 szw16=>?_)
   replace B17:Blk w16 w4.heap.size 114 #[.int .i64 0,.string ByteArray.empty,.slice none 0 0]:=B17
   have GB17:w.heap.size≤w4.heap.size:=T.size
   have T:=Tt T hb18
   refine RL.y rfl (Y.assign (v:=.int .i64 i3) rfl) ?_
   refine RL.store (v:=.agg #[.int .i64 x6.kind,.string x6.name,.slice A15 x6.kids.length c15]) (cs':=#[.int .i64 x6.kind,.string x6.name,.slice A15 x6.kids.length c15]) rfl rfl rfl B17 (by kernel_rfl) (by rfl) (by rfl) (by rfl) (fun w20 B21 ho22=>?_)
   have szw20:=ho22.size
   have T:=T.trans (ho22.below (by first|(simp; done)|(simp; omega)))
   refine RL.nil<|then_n<|wp_seq<|wp_rl rfl<|RL.y rfl (Y.move (v:=.slice Aa1 d1.length ca1) s1_1)<|RL.y rfl (Y.move (v:=.int .i64 i3) rfl) ?_
   obtain ⟨x23,hx26,hm⟩:=bnd hm
   obtain ⟨k24,hk27,hl28,hx26⟩:=getI_some hx26
   obtain ⟨b30,o31,rfl,hbb30⟩:=ha1.addr (by omega)
   obtain ⟨cs25,hRcs25,hc29⟩:=ha1.el hx26
   have hScs25:=hRcs25
   obtain ⟨A32,n32,c32,rfl,⟨h32,r32⟩⟩:=(typeRd_out hRcs25)
   have e32:=h32.len; subst e32
   have q32:=len_le r32
   refine RL.y rfl (Y.indexAddr (m:=k24) (sz:=3) rfl rfl hk27 hl28 (by kernel_rfl))<|RL.y rfl (Y.loadN (cs:=[.int .i64 x23.kind,.string x23.name,.slice A32 x23.kids.length c32]) rfl (by kernel_rfl) (cells3 (eqC (cellT T (hc29 0 _ rfl))) (eqC (cellT T (hc29 1 _ rfl))) (eqC (cellT T (hc29 2 _ rfl))))) ?_
   refine RL.alloc (z:=.agg #[.int .i64 0,.string ByteArray.empty,.slice none 0 0]) rfl (by kernel_rfl) (fun w33 B34 hb35 szw33=>?_)
   replace B34:Blk w33 w20.heap.size 114 #[.int .i64 0,.string ByteArray.empty,.slice none 0 0]:=B34
   have GB34:w.heap.size≤w20.heap.size:=T.size
   have Eob36_ob19:=Nat.ne_of_lt B21.lt
   have B21:=blkT B21 hb35
   have T:=Tt T hb35
   refine RL.store (v:=.agg #[.int .i64 x23.kind,.string x23.name,.slice A32 x23.kids.length c32]) (cs':=#[.int .i64 x23.kind,.string x23.name,.slice A32 x23.kids.length c32]) rfl rfl rfl B34 (by kernel_rfl) (by rfl) (by rfl) (by rfl) (fun w37 B38 ho39=>?_)
   have szw37:=ho39.size
   have B21:=B21.only_ ho39 (by intro hin; simp at hin; exact Eob36_ob19 hin)
   have T:=T.trans (ho39.below (by first|(simp; done)|(simp; omega)))
   refine RL.nil<|then_n<|wp_seq<|wp_rb rfl<|RQ.y rfl (Y.move (v:=.func (.func gf2) #[] caps2) s2_1)<|RQ.y rfl (Y.loadN (cs:=[.int .i64 x6.kind,.string x6.name,.slice A15 x6.kids.length c15]) rfl (by kernel_rfl) (cells3 (beC (blkCell B21 (i:=0) rfl)) (beC (blkCell B21 (i:=1) rfl)) (beC (blkCell B21 (i:=2) rfl))))<|RQ.y rfl (Y.loadN (cs:=[.int .i64 x23.kind,.string x23.name,.slice A32 x23.kids.length c32]) rfl (by kernel_rfl) (cells3 (beC (blkCell B38 (i:=0) rfl)) (beC (blkCell B38 (i:=1) rfl)) (beC (blkCell B38 (i:=2) rfl)))) ?_
   obtain ⟨y40,e41,hm⟩:=bnd hm
   refine RQ.callV rfl rfl (am2 rfl rfl) hgo2 (v:=.bool y40) (bel (K:=fun _=>True) fun w' hb'=>hf2 x6 x23 y40 e41 w' (Tt T hb') _ (stArg (R:=typeRd) (typeRd_in ⟨_,_,_,rfl,⟨SlAt.now typeRd_ok h15 (Nat.le_refl _) (Tt T hb'),r15⟩⟩)) _ (stArg (R:=typeRd) (typeRd_in ⟨_,_,_,rfl,⟨SlAt.now typeRd_ok h32 (Nat.le_refl _) (Tt T hb'),r32⟩⟩)))<|RQ.y rfl (Y.not (b':=(!y40)) rfl rfl)<|RQ.nil ?_
   intro w42 hb43
   have szw42:=hb43.size
   have T:=Tt T hb43
   refine then_n ?_
   rcases bcases y40 with c44|c44
   ·replace hm:=cF c44 hm
    refine cond_t rfl (vbn rfl c44 rfl)<|wp_seq<|wp_rs rfl<|RQ.y rfl (Y.assign (v:=.bool false) rfl)<|RQ.nil<|then_n<|wp_ret ?_
    obtain rfl:=sj hm
    exact (blk_r (then_r (then_r (hit_r (blk_r (then_r (ret1 rfl rfl rfl ⟨rfl,T⟩)))))))
   replace hm:=cT c44 hm
   refine cond_f rfl (vbn rfl c44 rfl)<|wp_skip ?_
   refine blk_n (then_n ?_)
   refine wp_rs rfl<|RQ.y rfl (Y.binI s17_1 rfl (binI_add (m:=i3) (by omega)))<|RQ.y rfl (Y.move (v:=.int .i64 (i3+1)) rfl)<|RQ.nil ?_
   exact (then_n ⟨g,_,Nat.lt_succ_self _,rfl,⟨(i3+1),s1_1,s2_1,s15_1,s16_1,rfl,(by omega),T,(by rw [← hrec1]; exact hm)⟩⟩)
  replace hm:=cT c1 hm
  refine cond_t rfl (vb rfl c1)<|wp_seq<|wp_rs rfl<|RQ.y rfl (Y.assign (v:=.bool false) rfl)<|RQ.nil<|then_n<|wp_ret ?_
  obtain rfl:=sj hm
  exact (then_r (ret1 rfl rfl rfl ⟨rfl,T⟩))
noncomputable def m_impl_SameType_R (self:DType→DType→Option Bool) (d0:DType) (d1:DType):Option Bool:=
  (bif (d0.kind==d1.kind) then (bif (d0.name.toList==d1.name.toList) then ((m_slices_EqualFunc_impl_Type_impl_Type_impl_Type_impl_Type d0.kids d1.kids (fun x0 x1=>self x0 x1)).bind fun y17=>some y17) else some false) else some false)
noncomputable def m_impl_SameType:Nat→DType→DType→Option Bool
  |0,_,_=>none
  |gas+1,d0,d1=>m_impl_SameType_R (m_impl_SameType gas) d0 d1
set_option maxHeartbeats 2000000 in
theorem c_m_impl_SameType :∀(gas:Nat) (d0:DType) (d1:DType) (r:Bool) (hm:m_impl_SameType gas d0 d1=some r) (v0:Value) (v1:Value) (w:World) (hv0:St typeRd w v0 d0) (hv1:St typeRd w v1 d1),
    Calls Tryz.prog 52 #[v0,v1] w fun e w'=>e=.returned (.bool r)∧Below w.heap.size w w':=by
  intro gas
  induction gas with
  |zero=>
   intro d0 d1 r hm v0 v1 w hv0 hv1
   cases hm
  |succ gas ih=>
   intro d0 d1 r hm v0 v1 w hv0 hv1
   obtain ⟨csa0,rfl,hRR0⟩:=hv0
   obtain ⟨A1,n1,c1,rfl,⟨h1,r1⟩⟩:=(typeRd_out hRR0)
   have e1:=h1.len; subst e1
   have q1:=len_le r1
   obtain ⟨csa1,rfl,hRR1⟩:=hv1
   obtain ⟨A2,n2,c2,rfl,⟨h2,r2⟩⟩:=(typeRd_out hRR1)
   have e2:=h2.len; subst e2
   have q2:=len_le r2
   have T:=Below.refl w.heap.size w
   obtain ⟨self,hself,hm⟩ :∃s,s=m_impl_SameType gas∧m_impl_SameType_R s d0 d1=some r:=⟨_,rfl,hm⟩
   unfold m_impl_SameType_R at hm
   refine enter 24 Tryz.func52 rfl rfl rfl ?_
   intro f hf
   have s0:f 0=.agg #[.int .i64 d0.kind,.string d0.name,.slice A1 d0.kids.length c1]:=hf 0 _ rfl
   have s1:f 1=.agg #[.int .i64 d1.kind,.string d1.name,.slice A2 d1.kids.length c2]:=hf 1 _ rfl
   refine wp_seq<|wp_rl rfl ?_
   refine RL.box rfl s0 (fun w3 B4 hb5 szw3=>?_)
   replace B4:Blk w3 w.heap.size 114 #[.int .i64 d0.kind,.string d0.name,.slice A1 d0.kids.length c1]:=B4
   have GB4:w.heap.size≤w.heap.size:=T.size
   have T:=Tt T hb5
   refine RL.box rfl s1 (fun w7 B8 hb9 szw7=>?_)
   replace B8:Blk w7 w3.heap.size 114 #[.int .i64 d1.kind,.string d1.name,.slice A2 d1.kids.length c2]:=B8
   have GB8:w.heap.size≤w3.heap.size:=T.size
   have Eob10_ob6:=Nat.ne_of_lt B4.lt
   have B4:=blkT B4 hb9
   have T:=Tt T hb9
   refine RL.y rfl (Y.assign (v:=.bool false) rfl)<|RL.nil<|then_n<|wp_seq<|wp_rb rfl<|RQ.y rfl (Y.fieldAddr (off:=0) rfl (by kernel_rfl))<|RQ.y rfl (Y.load (v:=.int .i64 d0.kind) rfl (by kernel_rfl) (beC (blkCell B4 (i:=0) rfl)))<|RQ.y rfl (Y.fieldAddr (off:=0) rfl (by kernel_rfl))<|RQ.y rfl (Y.load (v:=.int .i64 d1.kind) rfl (by kernel_rfl) (beC (blkCell B8 (i:=0) rfl)))<|RQ.y rfl (Y.binI (v:=.bool (d0.kind==d1.kind)) rfl rfl rfl)<|RQ.y rfl (Y.move (v:=.bool (d0.kind==d1.kind)) rfl) ?_
   rcases bcases (d0.kind==d1.kind) with c11|c11
   ·replace hm:=cF c11 hm
    iterate 5 refine RQ.skip (wantN (dj:=10) rfl (vb rfl c11) rfl) ?_
    refine RQ.y rfl (Y.pick (b:=false) (v:=.bool false) (vb rfl c11) rfl)<|RQ.y rfl (Y.move (v:=.bool false) rfl) ?_
    iterate 5 refine RQ.skip (wantN (dj:=17) rfl rfl rfl) ?_
    refine RQ.y rfl (Y.pick (b:=false) (v:=.bool false) rfl rfl)<|RQ.y rfl (Y.assign (v:=.bool false) rfl)<|RQ.nil ?_
    intro w12 hb13
    have szw12:=hb13.size
    have T:=Tt T hb13
    refine then_n<|wp_ret ?_
    obtain rfl:=sj hm
    exact (ret1 rfl rfl rfl ⟨rfl,T⟩)
   replace hm:=cT c11 hm
   refine RQ.y (wantT (dj:=10) rfl (vb rfl c11)) (Y.fieldAddr (off:=1) rfl (by kernel_rfl))<|RQ.y (wantT (dj:=10) rfl (vb rfl c11)) (Y.load (v:=.string d0.name) rfl (by kernel_rfl) (beC (blkCell B4 (i:=1) rfl)))<|RQ.y (wantT (dj:=10) rfl (vb rfl c11)) (Y.fieldAddr (off:=1) rfl (by kernel_rfl))<|RQ.y (wantT (dj:=10) rfl (vb rfl c11)) (Y.load (v:=.string d1.name) rfl (by kernel_rfl) (beC (blkCell B8 (i:=1) rfl)))<|RQ.y (wantT (dj:=10) rfl (vb rfl c11)) (Y.eqStr rfl rfl (by kernel_rfl))<|RQ.y rfl (Y.pick (b:=true) (v:=.bool (d0.name.toList==d1.name.toList)) (vb rfl c11) rfl)<|RQ.y rfl (Y.move (v:=.bool (d0.name.toList==d1.name.toList)) rfl) ?_
   rcases bcases (d0.name.toList==d1.name.toList) with c14|c14
   ·replace hm:=cF c14 hm
    iterate 5 refine RQ.skip (wantN (dj:=17) rfl (vb rfl c14) rfl) ?_
    refine RQ.y rfl (Y.pick (b:=false) (v:=.bool false) (vb rfl c14) rfl)<|RQ.y rfl (Y.assign (v:=.bool false) rfl)<|RQ.nil ?_
    intro w15 hb16
    have szw15:=hb16.size
    have T:=Tt T hb16
    refine then_n<|wp_ret ?_
    obtain rfl:=sj hm
    exact (ret1 rfl rfl rfl ⟨rfl,T⟩)
   replace hm:=cT c14 hm
   refine RQ.y (wantT (dj:=17) rfl (vb rfl c14)) (Y.fieldAddr (off:=2) rfl (by kernel_rfl))<|RQ.y (wantT (dj:=17) rfl (vb rfl c14)) (Y.load (v:=.slice A1 d0.kids.length c1) rfl (by kernel_rfl) (beC (blkCell B4 (i:=2) rfl)))<|RQ.y (wantT (dj:=17) rfl (vb rfl c14)) (Y.fieldAddr (off:=2) rfl (by kernel_rfl))<|RQ.y (wantT (dj:=17) rfl (vb rfl c14)) (Y.load (v:=.slice A2 d1.kids.length c2) rfl (by kernel_rfl) (beC (blkCell B8 (i:=2) rfl))) ?_
   obtain ⟨y17,e18,hm⟩:=bnd hm
   refine RQ.call (wantT (dj:=17) rfl (vb rfl c14)) (am3 rfl rfl rfl) (by kernel_rfl) (v:=.bool y17) (bel (K:=fun _=>True) fun w' hb'=>(c_m_slices_EqualFunc_impl_Type_impl_Type_impl_Type_impl_Type d0.kids d1.kids (fun x0 x1=>self x0 x1) _ e18 _ _ _ _ w' (slArg typeRd_ok h1 r1 (Tt T hb')) (slArg typeRd_ok h2 r2 (Tt T hb')) (by kernel_rfl) (fun x0 x1 b hx w1 hb1 y0 hy0 y1 hy1=>Calls.arr (by simp) (ih x0 x1 _ (by rw [← hself]; exact hx) _ _  w1 hy0 hy1 ))))<|RQ.y rfl (Y.pick (b:=true) (v:=.bool y17) (vb rfl c14) rfl)<|RQ.y rfl (Y.assign (v:=.bool y17) rfl)<|RQ.nil ?_
   intro w19 hb20
   have szw19:=hb20.size
   have T:=Tt T hb20
   refine then_n<|wp_ret ?_
   obtain rfl:=sj hm
   exact (ret1 rfl rfl rfl ⟨rfl,T⟩)
noncomputable def m_impl_sameTypes (d0:List DType) (d1:List DType):Option Bool:=
  ((m_slices_EqualFunc_impl_Type_impl_Type_impl_Type_impl_Type d0 d1 (fun x0 x1=>m_impl_SameType (SizeOf.sizeOf x0) x0 x1)).bind fun y1=>some y1)
set_option maxHeartbeats 2000000 in
theorem c_m_impl_sameTypes (d0:List DType) (d1:List DType) (r:Bool) (hm:m_impl_sameTypes d0 d1=some r) (v0:Value) (v1:Value) (w:World) (hv0:Sl typeRd 3 w v0 d0) (hv1:Sl typeRd 3 w v1 d1) :
    Calls Tryz.prog 161 #[v0,v1] w fun e w'=>e=.returned (.bool r)∧Below w.heap.size w w':=by
  obtain ⟨Aa0,na0,ca0,rfl,ha0,ra0⟩:=hv0
  have ea0:=ha0.len; subst ea0
  have qa0:=len_le ra0
  obtain ⟨Aa1,na1,ca1,rfl,ha1,ra1⟩:=hv1
  have ea1:=ha1.len; subst ea1
  have qa1:=len_le ra1
  have T:=Below.refl w.heap.size w
  unfold m_impl_sameTypes at hm
  refine enter 8 Tryz.func161 rfl rfl rfl ?_
  intro f hf
  have s0:f 0=.slice Aa0 d0.length ca0:=hf 0 _ rfl
  have s1:f 1=.slice Aa1 d1.length ca1:=hf 1 _ rfl
  refine wp_seq<|wp_rs rfl<|RQ.y rfl (Y.assign (v:=.bool false) rfl)<|RQ.nil<|then_n<|wp_seq<|wp_rb rfl<|RQ.y rfl (Y.move (v:=.slice Aa0 d0.length ca0) s0)<|RQ.y rfl (Y.move (v:=.slice Aa1 d1.length ca1) s1) ?_
  obtain ⟨y1,e2,hm⟩:=bnd hm
  refine RQ.call rfl (am3 rfl rfl rfl) (by kernel_rfl) (v:=.bool y1) (bel (K:=fun _=>True) fun w' hb'=>(c_m_slices_EqualFunc_impl_Type_impl_Type_impl_Type_impl_Type d0 d1 (fun x0 x1=>m_impl_SameType (SizeOf.sizeOf x0) x0 x1) _ e2 _ _ _ _ w' (slArg typeRd_ok ha0 ra0 (Tt T hb')) (slArg typeRd_ok ha1 ra1 (Tt T hb')) (by kernel_rfl) (fun x0 x1 b hx w1 hb1 y0 hy0 y1 hy1=>Calls.arr (by simp) (c_m_impl_SameType (SizeOf.sizeOf x0) x0 x1 _ hx _ _  w1 hy0 hy1 ))))<|RQ.y rfl (Y.assign (v:=.bool y1) rfl)<|RQ.nil ?_
  intro w3 hb4
  have szw3:=hb4.size
  have T:=Tt T hb4
  refine then_n<|wp_ret ?_
  obtain rfl:=sj hm
  exact (ret1 rfl rfl rfl ⟨rfl,T⟩)
noncomputable def m_laws_toTypeS_A1 (xs8:List DType):Option (List DType):=
  some xs8
noncomputable def m_laws_toTypeS_B1 (self1:DType→Option DType) (d0:List DType) (rec1:List DType→Int→Option (List DType)) (K1:List DType→Option (List DType)) (xs10:List DType) (i11:Int):Option (List DType):=
  (bif (decide (i11 < (d0.length:Int))) then ((getI d0 i11).bind fun x14=>((self1 x14).bind fun y24=>((getI xs10 i11).bind fun x34=>(rec1 (setI xs10 i11 y24) (i11+1))))) else (K1 xs10))
noncomputable def m_laws_toTypeS_L1 (self1:DType→Option DType) (d0:List DType) (K1:List DType→Option (List DType)):Nat→List DType→Int→Option (List DType)
  |0,_,_=>none
  |g+1,xs10,i11=>m_laws_toTypeS_B1 self1 d0 (m_laws_toTypeS_L1 self1 d0 K1 g) K1 xs10 i11
noncomputable def m_laws_toTypeS_R (self0:(List DType)→Option (List DType)) (self1:DType→Option DType) (d0:List DType):Option (List DType):=
  ((mustP (d0.length≤4294967296)).bind fun _=>(m_laws_toTypeS_L1 self1 d0 m_laws_toTypeS_A1 (d0.length+1) (List.replicate d0.length ((⟨0,ByteArray.empty,[]⟩:DType):DType)) 0))
set_option maxHeartbeats 2000000 in
theorem c_m_laws_toTypeS_S (self0:(List DType)→Option (List DType)) (self1:DType→Option DType) (ih0 :∀(d0:List DType) (r:List DType) (hm:self0 d0=some r) (v0:Value) (w:World) (hv0:Sl typeRd 3 w v0 d0),Calls Tryz.prog 42 #[v0] w fun e w'=>(∃(v0:Value) (bs0:List Nat),e=.returned (v0)∧OwN 114 typeOw 3 w' w.heap.size v0 r bs0)∧Below w.heap.size w w') (ih1 :∀(d0:DType) (r:DType) (hm:self1 d0=some r) (v0:Value) (w:World) (hv0:St typeRd w v0 d0),Calls Tryz.prog 89 #[v0] w fun e w'=>(∃(v0:Value) (bs0:List Nat),e=.returned (.agg #[.int .i64 r.kind,.string r.name,v0])∧OwN 114 typeOw 3 w' w.heap.size v0 r.kids bs0)∧Below w.heap.size w w') :∀(d0:List DType) (r:List DType) (hm:m_laws_toTypeS_R self0 self1 d0=some r) (v0:Value) (w:World) (hv0:Sl typeRd 3 w v0 d0),
    Calls Tryz.prog 42 #[v0] w fun e w'=>(∃(v0:Value) (bs0:List Nat),e=.returned (v0)∧OwN 114 typeOw 3 w' w.heap.size v0 r bs0)∧Below w.heap.size w w':=by
  intro d0 r hm v0 w hv0
  obtain ⟨Aa0,na0,ca0,rfl,ha0,ra0⟩:=hv0
  have ea0:=ha0.len; subst ea0
  have qa0:=len_le ra0
  have T:=Below.refl w.heap.size w
  unfold m_laws_toTypeS_R at hm
  refine enter 23 Tryz.func42 rfl rfl rfl ?_
  intro f hf
  have s0:f 0=.slice Aa0 d0.length ca0:=hf 0 _ rfl
  refine wp_seq<|wp_rs rfl<|RQ.y rfl (Y.assign (v:=.slice none 0 0) rfl)<|RQ.nil<|then_n<|wp_seq<|wp_rl rfl<|RL.y rfl (Y.move (v:=.slice Aa0 d0.length ca0) s0)<|RL.y rfl (Y.len (by kernel_rfl) rfl) ?_
  obtain ⟨_,m1,hm⟩:=bnd hm
  have hk2:=mustP_some m1
  refine RL.makeN (O:=typeOw) (x0:=(⟨0,ByteArray.empty,[]⟩:DType)) (n:=d0.length) app_impl_Type (by decide) (fun w=>(typeOw_in ⟨none,0,0,[],rfl,⟨⟨rfl,.inl ⟨rfl,rfl⟩⟩,Nat.le_refl _,Nat.zero_le _⟩,rfl⟩)) rfl rfl rfl hk2 (fun w3 G4 hb5 szw3=>?_)
  replace G4:=OwN.mono G4 T.size
  have T:=Tt T hb5
  refine RL.y rfl (Y.assign (v:=.slice (some ⟨w.heap.size,0,none⟩) d0.length d0.length) rfl)<|RL.nil<|then_n<|wp_seq<|wp_seq<|wp_rs rfl<|RQ.y rfl (Y.assign (v:=.int .i64 0) rfl)<|RQ.nil<|then_n<|wp_block ?_
  obtain ⟨K1,hK1,hm⟩ :∃K,K=m_laws_toTypeS_A1∧m_laws_toTypeS_L1 self1 d0 K (d0.length+1) (List.replicate d0.length ((⟨0,ByteArray.empty,[]⟩:DType):DType)) 0=some r:=⟨_,rfl,hm⟩
  refine wp_loopX (fun g f w'=>∃(xs10:List DType) (i11:Int) (uxs10:Value) (bsxs10:List Nat),f 0=.slice Aa0 d0.length ca0∧f 3=uxs10∧OwN 114 typeOw 3 w' w.heap.size uxs10 xs10 bsxs10∧f 4=.int .i64 i11∧0≤i11∧Below w.heap.size w w'∧m_laws_toTypeS_L1 self1 d0 K1 g xs10 i11=some r) 0 (fun f w'=>∃(xs8:List DType) (uxs8:Value) (bsxs8:List Nat),f 3=uxs8∧OwN 114 typeOw 3 w' w.heap.size uxs8 xs8 bsxs8∧Below w.heap.size w w'∧m_laws_toTypeS_A1 xs8=some r) (d0.length+1) ⟨(List.replicate d0.length ((⟨0,ByteArray.empty,[]⟩:DType):DType)),0,(.slice (some ⟨w.heap.size,0,none⟩) d0.length d0.length),([w.heap.size]),s0,rfl,G4,rfl,(by omega),T,hm⟩ ?_ ?_
  ·rintro f w9 ⟨xs8,uxs8,bsxs8,s3_1x,Guxs8,T,hm⟩
   unfold m_laws_toTypeS_A1 at hm
   refine blk_hit (then_n ?_)
   refine wp_seq<|wp_rs rfl<|RQ.y rfl (Y.move (v:=uxs8) s3_1x)<|RQ.y rfl (Y.assign (v:=uxs8) rfl)<|RQ.nil<|then_n<|wp_ret ?_
   obtain rfl:=sj hm
   exact (ret1 rfl rfl rfl ⟨⟨_,_,rfl,Guxs8⟩,T⟩)
  rintro g f w12 ⟨xs10,i11,uxs10,bsxs10,s0_1,s3_1,Guxs10,s4_1,nn4_1,T,hm⟩
  rcases g with _|g
  ·simp only [m_laws_toTypeS_L1] at hm; cases hm
  obtain ⟨rec1,hrec1,hm⟩ :∃z,z=m_laws_toTypeS_L1 self1 d0 K1 g∧m_laws_toTypeS_B1 self1 d0 z K1 xs10 i11=some r:=⟨_,rfl,hm⟩
  unfold m_laws_toTypeS_B1 at hm
  refine wp_seq<|wp_seq<|wp_rs rfl<|RQ.y rfl (Y.move (v:=.int .i64 i11) s4_1)<|RQ.y rfl (Y.move (v:=.slice Aa0 d0.length ca0) s0_1)<|RQ.y rfl (Y.len (by kernel_rfl) rfl)<|RQ.y rfl (Y.binI (v:=.bool (decide (i11 < (d0.length:Int)))) rfl rfl rfl)<|RQ.nil<|then_n ?_
  rcases bcases (decide (i11 < (d0.length:Int))) with c13|c13
  ·replace hm:=cF c13 hm
   have pc13:=of_decide_eq_false c13
   refine cond_f rfl (vb rfl c13)<|wp_exit ?_
   exact (then_x (then_x (hit_x ⟨_,rfl,⟨xs10,(uxs10),bsxs10,s3_1,Guxs10,T,(by rw [hK1] at hm; exact hm)⟩⟩)))
  replace hm:=cT c13 hm
  have pc13:=of_decide_eq_true c13
  refine cond_t rfl (vb rfl c13)<|wp_skip<|then_n<|wp_seq<|wp_block<|wp_rl rfl<|RL.y rfl (Y.move (v:=uxs10) s3_1)<|RL.y rfl (Y.move (v:=.int .i64 i11) s4_1)<|RL.y rfl (Y.move (v:=.slice Aa0 d0.length ca0) s0_1)<|RL.y rfl (Y.move (v:=.int .i64 i11) s4_1) ?_
  obtain ⟨x14,hx17,hm⟩:=bnd hm
  obtain ⟨k15,hk18,hl19,hx17⟩:=getI_some hx17
  obtain ⟨b21,o22,rfl,hbb21⟩:=ha0.addr (by omega)
  obtain ⟨cs16,hRcs16,hc20⟩:=ha0.el hx17
  have hScs16:=hRcs16
  obtain ⟨A23,n23,c23,rfl,⟨h23,r23⟩⟩:=(typeRd_out hRcs16)
  have e23:=h23.len; subst e23
  have q23:=len_le r23
  refine RL.y rfl (Y.indexAddr (m:=k15) (sz:=3) rfl rfl hk18 hl19 (by kernel_rfl))<|RL.y rfl (Y.loadN (cs:=[.int .i64 x14.kind,.string x14.name,.slice A23 x14.kids.length c23]) rfl (by kernel_rfl) (cells3 (eqC (cellT T (hc20 0 _ rfl))) (eqC (cellT T (hc20 1 _ rfl))) (eqC (cellT T (hc20 2 _ rfl))))) ?_
  obtain ⟨y24,e25,hm⟩:=bnd hm
  refine RL.call rfl (am1 rfl) (by kernel_rfl) ((ih1 x14 _ e25 _ _ (stArg (R:=typeRd) (typeRd_in ⟨_,_,_,rfl,⟨SlAt.now typeRd_ok h23 (Nat.le_refl _) T,r23⟩⟩))).mono ?_)
  rintro _ w30 ⟨⟨v26,bs29,rfl,G27⟩,hb31⟩
  refine ⟨_,rfl,?_⟩
  have szw30:=hb31.size
  have T0w30:=T.size
  have Zo28_oxs10:Ap bs29 bsxs10:=(Ap.new (OwN.lo_ G27) (OwN.hi Guxs10))
  have Guxs10:=OwN.below typeOw_ok Guxs10 hb31
  have T:=Tt T hb31
  replace G27:=OwN.mono G27 T0w30
  obtain ⟨A32,c33,rfl⟩:=OwN.form Guxs10
  have qbA32:=OwN.bound Guxs10
  obtain ⟨x34,hx36,hm⟩:=bnd hm
  obtain ⟨k35,hk37,hl38,hx36⟩:=getI_some hx36
  obtain ⟨b39,rfl⟩:=OwN.addr0 Guxs10 (by omega)
  refine RL.y rfl (Y.indexAddr (m:=k35) (sz:=3) rfl rfl hk37 hl38 (by kernel_rfl)) ?_
  obtain ⟨A40,c41,rfl⟩:=OwN.form G27
  have qbA40:=OwN.bound G27
  obtain ⟨_,_,_,l43,hea42,a42,nd44,sb45,r46⟩:=OwN.own1 typeOw_ok G27
  injection hea42 with e1 e2 e3; subst e1 e2 e3
  refine RL.storeNW (k:=k35) (a':=y24) (l:=l43) (fp:=bs29) typeOw_ok typeOw_one rfl rfl rfl Guxs10 hx36 (typeOw_in ⟨_,_,_,l43,rfl,⟨a42,r46⟩,rfl⟩) nd44 sb45 (Ap.symm Zo28_oxs10) (OwN.both G27 (Nat.le_refl _)) (by kernel_rfl) (fun w47 G48 ho49=>?_)
  have szw47:=ho49.size
  have T:=T.trans (ho49.below (by intro b hb; simp at hb; subst hb; exact OwN.lo_ Guxs10 _ (OwN.row Guxs10 rfl)))
  have G48:OwN 114 typeOw 3 w47 w.heap.size (.slice (some ⟨b39,0,none⟩) xs10.length c33) (setI xs10 i11 y24) (bsxs10 ++ bs29):=by rw [setI_eq hk37]; exact G48
  refine RL.nil ?_
  refine blk_n (then_n ?_)
  refine wp_rs rfl<|RQ.y rfl (Y.move (v:=.int .i64 i11) s4_1)<|RQ.y rfl (Y.binI rfl rfl (binI_add (m:=i11) (by omega)))<|RQ.y rfl (Y.assign (v:=.int .i64 (i11+1)) rfl)<|RQ.nil ?_
  exact (then_n ⟨g,_,Nat.lt_succ_self _,rfl,⟨(setI xs10 i11 y24),(i11+1),(.slice (some ⟨b39,0,none⟩) xs10.length c33),(bsxs10 ++ bs29),s0_1,s3_1,G48,rfl,(by omega),T,(by rw [← hrec1]; exact hm)⟩⟩)
noncomputable def m_laws_toType_R (self0:(List DType)→Option (List DType)) (self1:DType→Option DType) (d0:DType):Option DType:=
  ((self0 d0.kids).bind fun y20=>some (⟨d0.kind,d0.name,y20⟩:DType))
set_option maxHeartbeats 2000000 in
theorem c_m_laws_toType_S (self0:(List DType)→Option (List DType)) (self1:DType→Option DType) (ih0 :∀(d0:List DType) (r:List DType) (hm:self0 d0=some r) (v0:Value) (w:World) (hv0:Sl typeRd 3 w v0 d0),Calls Tryz.prog 42 #[v0] w fun e w'=>(∃(v0:Value) (bs0:List Nat),e=.returned (v0)∧OwN 114 typeOw 3 w' w.heap.size v0 r bs0)∧Below w.heap.size w w') (ih1 :∀(d0:DType) (r:DType) (hm:self1 d0=some r) (v0:Value) (w:World) (hv0:St typeRd w v0 d0),Calls Tryz.prog 89 #[v0] w fun e w'=>(∃(v0:Value) (bs0:List Nat),e=.returned (.agg #[.int .i64 r.kind,.string r.name,v0])∧OwN 114 typeOw 3 w' w.heap.size v0 r.kids bs0)∧Below w.heap.size w w') :∀(d0:DType) (r:DType) (hm:m_laws_toType_R self0 self1 d0=some r) (v0:Value) (w:World) (hv0:St typeRd w v0 d0),
    Calls Tryz.prog 89 #[v0] w fun e w'=>(∃(v0:Value) (bs0:List Nat),e=.returned (.agg #[.int .i64 r.kind,.string r.name,v0])∧OwN 114 typeOw 3 w' w.heap.size v0 r.kids bs0)∧Below w.heap.size w w':=by
  intro d0 r hm v0 w hv0
  obtain ⟨csa0,rfl,hRR0⟩:=hv0
  obtain ⟨A1,n1,c1,rfl,⟨h1,r1⟩⟩:=(typeRd_out hRR0)
  have e1:=h1.len; subst e1
  have q1:=len_le r1
  have T:=Below.refl w.heap.size w
  unfold m_laws_toType_R at hm
  refine enter 15 Tryz.func89 rfl rfl rfl ?_
  intro f hf
  have s0:f 0=.agg #[.int .i64 d0.kind,.string d0.name,.slice A1 d0.kids.length c1]:=hf 0 _ rfl
  refine wp_seq<|wp_rl rfl ?_
  refine RL.box rfl s0 (fun w2 B3 hb4 szw2=>?_)
  replace B3:Blk w2 w.heap.size 152 #[.int .i64 d0.kind,.string d0.name,.slice A1 d0.kids.length c1]:=B3
  have GB3:w.heap.size≤w.heap.size:=T.size
  have T:=Tt T hb4
  refine RL.alloc (z:=.agg #[.int .i64 0,.string ByteArray.empty,.slice none 0 0]) rfl (by kernel_rfl) (fun w6 B7 hb8 szw6=>?_)
  replace B7:Blk w6 w2.heap.size 114 #[.int .i64 0,.string ByteArray.empty,.slice none 0 0]:=B7
  have GB7:w.heap.size≤w2.heap.size:=T.size
  have Eob9_ob5:=Nat.ne_of_lt B3.lt
  have B3:=blkT B3 hb8
  have T:=Tt T hb8
  refine RL.nil<|then_n<|wp_seq<|wp_rl rfl ?_
  refine RL.alloc (z:=.agg #[.int .i64 0,.string ByteArray.empty,.slice none 0 0]) rfl (by kernel_rfl) (fun w10 B11 hb12 szw10=>?_)
  replace B11:Blk w10 w6.heap.size 114 #[.int .i64 0,.string ByteArray.empty,.slice none 0 0]:=B11
  have GB11:w.heap.size≤w6.heap.size:=T.size
  have Eob13_ob5:=Nat.ne_of_lt B3.lt
  have Eob13_ob9:=Nat.ne_of_lt B7.lt
  have B3:=blkT B3 hb12
  have B7:=blkT B7 hb12
  have T:=Tt T hb12
  refine RL.nil<|then_n<|wp_seq<|wp_rl rfl<|RL.y rfl (Y.fieldAddr (off:=0) rfl (by kernel_rfl))<|RL.y rfl (Y.load (v:=.int .i64 d0.kind) rfl (by kernel_rfl) (eqC (blkCell B3 (i:=0) rfl)))<|RL.y rfl (Y.fieldAddr (off:=0) rfl (by kernel_rfl)) ?_
  refine RL.store (v:=.int .i64 d0.kind) (cs':=#[.int .i64 d0.kind,.string ByteArray.empty,.slice none 0 0]) rfl rfl rfl B11 (by kernel_rfl) (by rfl) (by rfl) (by rfl) (fun w14 B15 ho16=>?_)
  have szw14:=ho16.size
  have B3:=B3.only_ ho16 (by intro hin; simp at hin; exact Eob13_ob5 hin)
  have B7:=B7.only_ ho16 (by intro hin; simp at hin; exact Eob13_ob9 hin)
  have T:=T.trans (ho16.below (by first|(simp; done)|(simp; omega)))
  refine RL.nil<|then_n<|wp_seq<|wp_rl rfl<|RL.y rfl (Y.fieldAddr (off:=1) rfl (by kernel_rfl))<|RL.y rfl (Y.load (v:=.string d0.name) rfl (by kernel_rfl) (eqC (blkCell B3 (i:=1) rfl)))<|RL.y rfl (Y.fieldAddr (off:=1) rfl (by kernel_rfl)) ?_
  refine RL.store (v:=.string d0.name) (cs':=#[.int .i64 d0.kind,.string d0.name,.slice none 0 0]) rfl rfl rfl B15 (by kernel_rfl) (by rfl) (by rfl) (by rfl) (fun w17 B18 ho19=>?_)
  have szw17:=ho19.size
  have B3:=B3.only_ ho19 (by intro hin; simp at hin; exact Eob13_ob5 hin)
  have B7:=B7.only_ ho19 (by intro hin; simp at hin; exact Eob13_ob9 hin)
  have T:=T.trans (ho19.below (by first|(simp; done)|(simp; omega)))
  refine RL.nil<|then_n<|wp_seq<|wp_rl rfl<|RL.y rfl (Y.fieldAddr (off:=2) rfl (by kernel_rfl))<|RL.y rfl (Y.load (v:=.slice A1 d0.kids.length c1) rfl (by kernel_rfl) (eqC (blkCell B3 (i:=2) rfl))) ?_
  obtain ⟨y20,e21,hm⟩:=bnd hm
  refine RL.call rfl (am1 rfl) (by kernel_rfl) ((ih0 d0.kids _ e21 _ _ (slArg typeRd_ok h1 r1 T)).mono ?_)
  rintro _ w26 ⟨⟨v22,bs25,rfl,G23⟩,hb27⟩
  refine ⟨_,rfl,?_⟩
  have szw26:=hb27.size
  have T0w26:=T.size
  have Zo24_ob5:Ap bs25 [w.heap.size]:=(Ap.new (OwN.lo_ G23) (one_hi B3.lt))
  have Zo24_ob9:Ap bs25 [w2.heap.size]:=(Ap.new (OwN.lo_ G23) (one_hi B7.lt))
  have Zo24_ob13:Ap bs25 [w6.heap.size]:=(Ap.new (OwN.lo_ G23) (one_hi B18.lt))
  have B3:=blkT B3 hb27
  have B7:=blkT B7 hb27
  have B18:=blkT B18 hb27
  have T:=Tt T hb27
  replace G23:=OwN.mono G23 T0w26
  refine RL.y rfl (Y.fieldAddr (off:=2) rfl (by kernel_rfl)) ?_
  obtain ⟨A28,c29,rfl⟩:=OwN.form G23
  have qbA28:=OwN.bound G23
  refine RL.store (v:=.slice A28 y20.length c29) (cs':=#[.int .i64 d0.kind,.string d0.name,.slice A28 y20.length c29]) rfl rfl rfl B18 (by kernel_rfl) (by rfl) (by rfl) (by rfl) (fun w30 B31 ho32=>?_)
  have szw30:=ho32.size
  have B3:=B3.only_ ho32 (by intro hin; simp at hin; exact Eob13_ob5 hin)
  have B7:=B7.only_ ho32 (by intro hin; simp at hin; exact Eob13_ob9 hin)
  have G23:=OwN.only typeOw_ok G23 ho32 (Ap.one Zo24_ob13)
  have T:=T.trans (ho32.below (by first|(simp; done)|(simp; omega)))
  refine RL.nil<|then_n<|wp_seq<|wp_rl rfl<|RL.y rfl (Y.loadN (cs:=[.int .i64 d0.kind,.string d0.name,.slice A28 y20.length c29]) rfl (by kernel_rfl) (cells3 (eqC (blkCell B31 (i:=0) rfl)) (eqC (blkCell B31 (i:=1) rfl)) (eqC (blkCell B31 (i:=2) rfl)))) ?_
  refine RL.store (v:=.agg #[.int .i64 d0.kind,.string d0.name,.slice A28 y20.length c29]) (cs':=#[.int .i64 d0.kind,.string d0.name,.slice A28 y20.length c29]) rfl rfl rfl B7 (by kernel_rfl) (by rfl) (by rfl) (by rfl) (fun w33 B34 ho35=>?_)
  have szw33:=ho35.size
  have B31:=B31.only_ ho35 (by intro hin; simp at hin; exact Eob13_ob9.symm hin)
  have G23:=OwN.only typeOw_ok G23 ho35 (Ap.one Zo24_ob9)
  have T:=T.trans (ho35.below (by first|(simp; done)|(simp; omega)))
  refine RL.nil<|then_n<|wp_ret ?_
  obtain rfl:=sj hm
  exact (retc (cs:=[.int .i64 d0.kind,.string d0.name,.slice A28 y20.length c29]) rfl rfl rfl (by kernel_rfl) (blkCells B34) ⟨⟨_,_,rfl,G23⟩,T⟩)
noncomputable def g_m_laws_toTypeS:Nat→((List DType)→Option (List DType)) × (DType→Option DType)
  |0=>(fun _=>none,fun _=>none)
  |gas+1=>(m_laws_toTypeS_R (g_m_laws_toTypeS gas).1 (g_m_laws_toTypeS gas).2,m_laws_toType_R (g_m_laws_toTypeS gas).1 (g_m_laws_toTypeS gas).2)
noncomputable def m_laws_toTypeS (gas:Nat):(List DType)→Option (List DType):=(g_m_laws_toTypeS gas).1
noncomputable def m_laws_toType (gas:Nat):DType→Option DType:=(g_m_laws_toTypeS gas).2
theorem c_g_m_laws_toTypeS :∀gas:Nat,(∀(d0:List DType) (r:List DType) (hm:m_laws_toTypeS gas d0=some r) (v0:Value) (w:World) (hv0:Sl typeRd 3 w v0 d0),Calls Tryz.prog 42 #[v0] w fun e w'=>(∃(v0:Value) (bs0:List Nat),e=.returned (v0)∧OwN 114 typeOw 3 w' w.heap.size v0 r bs0)∧Below w.heap.size w w')∧(∀(d0:DType) (r:DType) (hm:m_laws_toType gas d0=some r) (v0:Value) (w:World) (hv0:St typeRd w v0 d0),Calls Tryz.prog 89 #[v0] w fun e w'=>(∃(v0:Value) (bs0:List Nat),e=.returned (.agg #[.int .i64 r.kind,.string r.name,v0])∧OwN 114 typeOw 3 w' w.heap.size v0 r.kids bs0)∧Below w.heap.size w w'):=by
  intro gas
  induction gas with
  |zero=>exact ⟨(fun _ r hm=>by have h0:(none:Option _)=some r:=hm; cases h0),(fun _ r hm=>by have h0:(none:Option _)=some r:=hm; cases h0)⟩
  |succ gas ih=>exact ⟨c_m_laws_toTypeS_S _ _ (ih).1 (ih).2,c_m_laws_toType_S _ _ (ih).1 (ih).2⟩
theorem c_m_laws_toTypeS (gas : Nat) : ∀ (d0 : List DType) (r : List DType) (hm : m_laws_toTypeS gas d0 = some r) (v0 : Value) (w : World) (hv0 : Sl typeRd 3 w v0 d0), Calls Tryz.prog 42 #[v0] w fun e w' => (∃ (v0 : Value) (bs0 : List Nat), e = .returned (v0) ∧ OwN 114 typeOw 3 w' w.heap.size v0 r bs0) ∧ Below w.heap.size w w' := (c_g_m_laws_toTypeS gas).1
end
section
open Go.RowKit
theorem szInt64S_v (v:Value) (xs:List Int) (left:Int) (w:World) {B:Nat} (h:RdS intRd 1 w B v xs) (hB:B≤w.heap.size) (h0:0≤left) (h1:left≤1048576) :
    Calls Tryz.prog 106 #[v,.int .i64 left] w fun e w'=>e=.returned (.int .i64 (szL left xs.length))∧Below w.heap.size w w':=by
  obtain ⟨A,n,c,rfl,h,hnc,hcm⟩:=h
  have hr:=Below.refl w.heap.size w
  have hl:=h.len
  rw [← hl]
  unfold maxLen at hcm
  clear h hl
  by_cases hl:left - n < 0
  · have He:=Lib.hid (szL_neg hl)
    go_enter Tryz.func106,Tryz.ntmps106
    go_wp2
    go_ret
    exact ⟨by rw [He.out]; rfl,hr⟩
  · have He:=Lib.hid (szL_pos hl)
    go_enter Tryz.func106,Tryz.ntmps106
    go_wp2
    go_ret
    exact ⟨by rw [He.out]; rfl,hr⟩
theorem szPortS_v (v:Value) (xs:List DPort) (left:Int) (w:World) {B:Nat} (h:RdS portRd 2 w B v xs) (hB:B≤w.heap.size) (h0:0≤left) (h1:left≤1048576) :
    Calls Tryz.prog 195 #[v,.int .i64 left] w fun e w'=>e=.returned (.int .i64 (szL left xs.length))∧Below w.heap.size w w':=by
  obtain ⟨A,n,c,rfl,h,hnc,hcm⟩:=h
  have hr:=Below.refl w.heap.size w
  have hl:=h.len
  rw [← hl]
  unfold maxLen at hcm
  clear h hl
  by_cases hl:left - n < 0
  · have He:=Lib.hid (szL_neg hl)
    go_enter Tryz.func195,Tryz.ntmps195
    go_wp2
    go_ret
    exact ⟨by rw [He.out]; rfl,hr⟩
  · have He:=Lib.hid (szL_pos hl)
    go_enter Tryz.func195,Tryz.ntmps195
    go_wp2
    go_ret
    exact ⟨by rw [He.out]; rfl,hr⟩
set_option maxHeartbeats 1000000 in
theorem szAgent_v (v:Value) (x:DAgent) (left:Int) (w:World) {B:Nat} (h:RdT agentRd w B v x) (hB:B≤w.heap.size) (h0:0≤left) (h1:left≤1048576) :
    Calls Tryz.prog 137 #[v,.int .i64 left] w fun e w'=>e=.returned (.int .i64 (szL left (szAgent x)))∧Below w.heap.size w w':=by
  obtain ⟨cs,rfl,A1,n1,c1,A2,n2,c2,rfl,⟨g1,r1⟩,⟨g2,r2⟩⟩:=h
  have hb :∀o1,Below w.heap.size w (w.alloc o1):=fun o1=>(Below.refl _ _).alloc (Nat.le_refl _) _
  obtain ⟨s0,es0⟩ :∃s:Nat,s=x.data.length:=⟨_,rfl⟩
  obtain ⟨s1,es1⟩ :∃s:Nat,s=x.ports.length:=⟨_,rfl⟩
  have Hs:Hid (szAgent x=s0+s1):=by show _=_; rw [es0,es1]; rfl
  have Es0:=Lib.hid es0
  have Es1:=Lib.hid es1
  clear es0 es1
  by_cases d0:left - (s0:Int) < 0
  · have He:Hid (szL left (szAgent x) = -1):=by show _=_; rw [Hs.out,szL_neg (by omega)]
    go_enter Tryz.func137,Tryz.ntmps137
    go_wp2_with fail
    refine (szInt64S_v _ x.data (left) _ (B:=B) ⟨A1,n1,c1,rfl,g1.below intRd_ok ((hb _).mono hB),r1⟩ (Nat.le_trans hB (hb _).size) (by omega) (by omega)).mono ?_
    rw [← Es0.out,szL_neg (by omega)]
    rintro e w1 ⟨rfl,q1⟩
    have T:=(hb _).trans (q1.mono (hb _).size)
    have B1:=(Blk.new w _ _).below q1 (by simp)
    have z1:w.heap.size+1≤w1.heap.size:=by have:=q1.size; simpa using this
    clear q1
    go_wp2_with fail
    go_ret
    exact ⟨by rw [He.out]; rfl,T⟩
  · skip
    by_cases d1:left - s0 - (s1:Int) < 0
    · have He:Hid (szL left (szAgent x) = -1):=by show _=_; rw [Hs.out,szL_neg (by omega)]
      go_enter Tryz.func137,Tryz.ntmps137
      go_wp2_with fail
      refine (szInt64S_v _ x.data (left) _ (B:=B) ⟨A1,n1,c1,rfl,g1.below intRd_ok ((hb _).mono hB),r1⟩ (Nat.le_trans hB (hb _).size) (by omega) (by omega)).mono ?_
      rw [← Es0.out,szL_pos (by omega)]
      rintro e w1 ⟨rfl,q1⟩
      have T:=(hb _).trans (q1.mono (hb _).size)
      have B1:=(Blk.new w _ _).below q1 (by simp)
      have z1:w.heap.size+1≤w1.heap.size:=by have:=q1.size; simpa using this
      clear q1
      have cB:=B1.cell
      go_wp2_with fail
      clear cB
      refine (szPortS_v _ x.ports (left - s0) _ (B:=B) ⟨A2,n2,c2,rfl,g2.below portRd_ok ((T).mono hB),r2⟩ (Nat.le_trans hB (T).size) (by omega) (by omega)).mono ?_
      rw [← Es1.out,szL_neg (by omega)]
      rintro e w2 ⟨rfl,q2⟩
      have T:=T.trans (q2.mono T.size)
      have B1:=B1.below q2 (by omega)
      have z2:=Nat.le_trans z1 q2.size
      clear q2
      go_wp2_with fail
      go_ret
      exact ⟨by rw [He.out]; rfl,T⟩
    · skip
      have He:Hid (szL left (szAgent x)=left - s0 - s1):=by show _=_; rw [Hs.out,szL_pos (by omega)]; try omega
      go_enter Tryz.func137,Tryz.ntmps137
      go_wp2_with fail
      refine (szInt64S_v _ x.data (left) _ (B:=B) ⟨A1,n1,c1,rfl,g1.below intRd_ok ((hb _).mono hB),r1⟩ (Nat.le_trans hB (hb _).size) (by omega) (by omega)).mono ?_
      rw [← Es0.out,szL_pos (by omega)]
      rintro e w1 ⟨rfl,q1⟩
      have T:=(hb _).trans (q1.mono (hb _).size)
      have B1:=(Blk.new w _ _).below q1 (by simp)
      have z1:w.heap.size+1≤w1.heap.size:=by have:=q1.size; simpa using this
      clear q1
      have cB:=B1.cell
      go_wp2_with fail
      clear cB
      refine (szPortS_v _ x.ports (left - s0) _ (B:=B) ⟨A2,n2,c2,rfl,g2.below portRd_ok ((T).mono hB),r2⟩ (Nat.le_trans hB (T).size) (by omega) (by omega)).mono ?_
      rw [← Es1.out,szL_pos (by omega)]
      rintro e w2 ⟨rfl,q2⟩
      have T:=T.trans (q2.mono T.size)
      have B1:=B1.below q2 (by omega)
      have z2:=Nat.le_trans z1 q2.size
      clear q2
      go_wp2_with fail
      go_ret
      exact ⟨by rw [He.out]; rfl,T⟩
theorem szAgentS_take {xs:List DAgent} {k:Nat} {x:DAgent} (h:xs[k]? = some x):((xs.take (k+1)).map szAgent).sum=((xs.take k).map szAgent).sum+szAgent x:=by
  rw [take_succ_some h]; simp
theorem szAgentS_le (xs:List DAgent) (k:Nat):((xs.take k).map szAgent).sum≤(xs.map szAgent).sum:=by
  have h:((xs.take k ++ xs.drop k).map szAgent).sum=(xs.map szAgent).sum:=by rw [List.take_append_drop]
  rw [List.map_append,List.sum_append] at h
  omega
set_option maxHeartbeats 1000000 in
theorem szAgentS_v (v:Value) (xs:List DAgent) (left:Int) (w:World) {B:Nat} (h:RdS agentRd 5 w B v xs) (hB:B≤w.heap.size) (h0:0≤left) (h1:left≤1048576) :
    Calls Tryz.prog 82 #[v,.int .i64 left] w fun e w'=>e=.returned (.int .i64 (szL left (szAgentS xs)))∧Below w.heap.size w w':=by
  obtain ⟨A,n,c,rfl,hx,hnc,hcm⟩:=h
  have hr:=Below.refl w.heap.size w
  unfold maxLen at hcm
  have lx:=Lib.hid hx.len
  by_cases hl:left - n < 0
  · have He:Hid (szL left (szAgentS xs) = -1):=szL_neg (by unfold szAgentS; rw [← lx.out]; omega)
    go_enter Tryz.func82,Tryz.ntmps82
    go_wp2
    go_ret
    exact ⟨by rw [He.out]; rfl,hr⟩
  · go_enter Tryz.func82,Tryz.ntmps82
    go_wp2
    go_loopw [1,5] (fun s i wr=>∃(k:Nat) (l:Int),k≤n∧i=.int .i64 k∧s=.int .i64 l∧0≤l∧l≤1048576∧Hid (l=left - n - (((xs.take k).map szAgent).sum:Nat))∧Below w.heap.size w wr) (fun _ i _=>n - (intOf i).toNat)
    case atStart=>exact ⟨0,left - n,by omega,rfl,rfl,by omega,by omega,by simp [Hid],hr⟩
    case round=>
      obtain ⟨k,s,hk,rfl,rfl,hs0,hs1,hs,hq⟩:=hrel
      by_cases hlt:k < n
      · obtain ⟨b,off,x,A1,n1,c1,A2,n2,c2,rfl,hb,hxk,hc0,hc1,hc2,hc3,hc4,⟨g1,r1⟩,⟨g2,r2⟩⟩:=(hx.below agentRd_ok (hq.mono hB)).agent hlt
        have Hxk:=Lib.hid hxk
        clear hxk
        by_cases hd:s - (szAgent x:Int) < 0
        · have f:=szL_neg hd
          have He:Hid (szL left (szAgentS xs) = -1):=szL_neg (by
            have e1:=szAgentS_le xs (k+1)
            rw [szAgentS_take Hxk.out] at e1
            have e2:=hs.out
            have e3:=lx.out
            unfold szAgentS
            omega)
          go_wp2_with fail
          refine (szAgent_v _ x s _ (B:=B) ⟨_,rfl,A1,n1,c1,A2,n2,c2,rfl,⟨g1,r1⟩,⟨g2,r2⟩⟩ (Nat.le_trans hB hq.size) hs0 hs1).mono ?_
          rintro e w1 ⟨rfl,q1⟩
          go_wp2_with fail
          go_ret
          exact ⟨by rw [He.out]; rfl,hq.trans (q1.mono hq.size)⟩
        · have f:=szL_pos hd
          have Hn:Hid (s - (szAgent x:Int)=left - n - (((xs.take (k+1)).map szAgent).sum:Nat)):=by
            have e1:=szAgentS_take Hxk.out
            have e2:=hs.out
            show _=_
            rw [e1]
            omega
          go_wp2_with fail
          refine (szAgent_v _ x s _ (B:=B) ⟨_,rfl,A1,n1,c1,A2,n2,c2,rfl,⟨g1,r1⟩,⟨g2,r2⟩⟩ (Nat.le_trans hB hq.size) hs0 hs1).mono ?_
          rintro e w1 ⟨rfl,q1⟩
          go_wp2_with fail
          go_roundw
          case rel=>exact ⟨k+1,s - (szAgent x:Int),by omega,by go_num,rfl,by omega,by omega,Hn.out,hq.trans (q1.mono hq.size)⟩
          case measure=>simp [intOf]; omega
      · have He:Hid (szL left (szAgentS xs)=s):=by
          have e1:xs.take k=xs:=List.take_of_length_le (by have:=lx.out; omega)
          have e2:=hs.out
          rw [e1] at e2
          have e3:=lx.out
          show _=_
          rw [szL_pos (by unfold szAgentS; omega)]
          unfold szAgentS
          omega
        go_wp2_with fail
        go_ret
        exact ⟨by rw [He.out]; rfl,hq⟩
set_option maxHeartbeats 1000000 in
theorem szNet_v (v:Value) (x:DNet) (left:Int) (w:World) {B:Nat} (h:RdT netRd w B v x) (hB:B≤w.heap.size) (h0:0≤left) (h1:left≤1048576) :
    Calls Tryz.prog 38 #[v,.int .i64 left] w fun e w'=>e=.returned (.int .i64 (szL left (szNet x)))∧Below w.heap.size w w':=by
  obtain ⟨cs,rfl,A1,n1,c1,rfl,⟨g1,r1⟩⟩:=h
  have hb :∀o1,Below w.heap.size w (w.alloc o1):=fun o1=>(Below.refl _ _).alloc (Nat.le_refl _) _
  obtain ⟨s0,es0⟩ :∃s:Nat,s=szAgentS x.agents:=⟨_,rfl⟩
  have Hs:Hid (szNet x=s0):=by show _=_; rw [es0]; rfl
  have Es0:=Lib.hid es0
  clear es0
  by_cases d0:left - (s0:Int) < 0
  · have He:Hid (szL left (szNet x) = -1):=by show _=_; rw [Hs.out,szL_neg (by omega)]
    go_enter Tryz.func38,Tryz.ntmps38
    go_wp2_with fail
    refine (szAgentS_v _ x.agents (left) _ (B:=B) ⟨A1,n1,c1,rfl,g1.below agentRd_ok ((hb _).mono hB),r1⟩ (Nat.le_trans hB (hb _).size) (by omega) (by omega)).mono ?_
    rw [← Es0.out,szL_neg (by omega)]
    rintro e w1 ⟨rfl,q1⟩
    have T:=(hb _).trans (q1.mono (hb _).size)
    have B1:=(Blk.new w _ _).below q1 (by simp)
    have z1:w.heap.size+1≤w1.heap.size:=by have:=q1.size; simpa using this
    clear q1
    go_wp2_with fail
    go_ret
    exact ⟨by rw [He.out]; rfl,T⟩
  · skip
    have He:Hid (szL left (szNet x)=left - s0):=by show _=_; rw [Hs.out,szL_pos (by omega)]; try omega
    go_enter Tryz.func38,Tryz.ntmps38
    go_wp2_with fail
    refine (szAgentS_v _ x.agents (left) _ (B:=B) ⟨A1,n1,c1,rfl,g1.below agentRd_ok ((hb _).mono hB),r1⟩ (Nat.le_trans hB (hb _).size) (by omega) (by omega)).mono ?_
    rw [← Es0.out,szL_pos (by omega)]
    rintro e w1 ⟨rfl,q1⟩
    have T:=(hb _).trans (q1.mono (hb _).size)
    have B1:=(Blk.new w _ _).below q1 (by simp)
    have z1:w.heap.size+1≤w1.heap.size:=by have:=q1.size; simpa using this
    clear q1
    go_wp2_with fail
    go_ret
    exact ⟨by rw [He.out]; rfl,T⟩
end
section
open Go.RowKit
set_option maxHeartbeats 1000000 in
theorem eqPort_v (v u:Value) (x y:DPort) (w:World) {B B':Nat} (h:RdT portRd w B v x) (h':RdT portRd w B' u y) (hB:B≤w.heap.size) (hB':B'≤w.heap.size) :
    Calls Tryz.prog 247 #[v,u] w fun e w'=>e=.returned (.bool (decide (x=y)))∧Below w.heap.size w w':=by
  obtain ⟨cs,rfl,rfl⟩:=h
  obtain ⟨cs,rfl,rfl⟩:=h'
  have hb :∀o1 o2,Below w.heap.size w ((w.alloc o1).alloc o2):=fun o1 o2=>((Below.refl _ _).alloc (Nat.le_refl _) _).alloc (by simp) _
  by_cases e0:x.agent=y.agent
  · have f0:(x.agent != y.agent)=false:=by simp [e0]
    by_cases e1:x.slot=y.slot
    · have f1:(x.slot != y.slot)=false:=by simp [e1]
      have He:Hid (decide (x=y)=true):=decide_eq_true (by cases x; cases y; simp_all)
      clear e0 e1
      go_enter Tryz.func247,Tryz.ntmps247
      go_wp2_with fail
      go_ret
      exact ⟨by rw [He.out]; rfl,hb _ _⟩
    · have f1:(x.slot != y.slot)=true:=by simp [e1]
      have He:Hid (decide (x=y)=false):=decide_eq_false (by intro exy; exact e1 (by rw [exy]))
      clear e0 e1
      go_enter Tryz.func247,Tryz.ntmps247
      go_wp2_with fail
      go_ret
      exact ⟨by rw [He.out]; rfl,hb _ _⟩
  · have f0:(x.agent != y.agent)=true:=by simp [e0]
    have He:Hid (decide (x=y)=false):=decide_eq_false (by intro exy; exact e0 (by rw [exy]))
    clear e0
    go_enter Tryz.func247,Tryz.ntmps247
    go_wp2_with fail
    go_ret
    exact ⟨by rw [He.out]; rfl,hb _ _⟩
set_option maxHeartbeats 1000000 in
theorem eqPortS_v (v u:Value) (xs ys:List DPort) (w:World) {B B':Nat} (h:RdS portRd 2 w B v xs) (h':RdS portRd 2 w B' u ys) (hB:B≤w.heap.size) (hB':B'≤w.heap.size) :
    Calls Tryz.prog 215 #[v,u] w fun e w'=>e=.returned (.bool (eqL xs ys))∧Below w.heap.size w w':=by
  obtain ⟨A,n,c,rfl,hx,hnc,hcm⟩:=h
  obtain ⟨C,m,d,rfl,hy,hmd,hdm⟩:=h'
  unfold maxLen at hcm hdm
  have lx:=Lib.hid hx.len
  have ly:=Lib.hid hy.len
  have hr:=Below.refl w.heap.size w
  by_cases hnm:n=m
  · subst hnm
    go_enter Tryz.func215,Tryz.ntmps215
    go_wp2
    go_loopw [5] (fun i wr=>∃k:Nat,k≤n∧i=.int .i64 k∧Hid (xs.take k=ys.take k)∧Below w.heap.size w wr) (fun i _=>n - (intOf i).toNat)
    case atStart=>exact ⟨0,by omega,rfl,rfl,hr⟩
    case round=>
      obtain ⟨k,hk,rfl,ht,hq⟩:=hrel
      by_cases hlt:k < n
      · have hx':=hx.below portRd_ok (hq.mono hB)
        have hy':=hy.below portRd_ok (hq.mono hB')
        obtain ⟨b,off,x,rfl,hb,hxk,hc0,hc1⟩:=hx'.port hlt
        obtain ⟨b',off',y,rfl,hb',hyk,hc0',hc1'⟩:=hy'.port hlt
        have Hxk:=Lib.hid hxk
        have Hyk:=Lib.hid hyk
        clear hxk hyk hx' hy'
        have hzB:B≤wr.drew.heap.size:=Nat.le_trans hB hq.size
        have hzB':B'≤wr.drew.heap.size:=Nat.le_trans hB' hq.size
        by_cases hxy:x=y
        · have hf:decide (x=y)=true:=decide_eq_true hxy
          have Hxy:=Lib.hid hxy
          clear hxy
          go_wp2_with fail
          go_region_with (go_at_call 247; refine (eqPort_v _ _ x y _ (B:=0) (B':=0) ⟨_,rfl,rfl⟩ ⟨_,rfl,rfl⟩ (Nat.zero_le _) (Nat.zero_le _)).mono ?_; rintro e w1 ⟨rfl,hq1⟩)
          all_goals
            go_wp2_with fail
            go_roundw
            case rel=>exact ⟨k+1,by omega,by go_num,eqL_step Hxk.out Hyk.out ht.out Hxy.out,hq.drew.trans (hq1.mono hq.size)⟩
            case measure=>simp [intOf]; omega
        · have hf:decide (x=y)=false:=decide_eq_false hxy
          have Hno:=Lib.hid (eqL_no Hxk.out Hyk.out hxy)
          clear hxy
          go_wp2_with fail
          go_region_with (go_at_call 247; refine (eqPort_v _ _ x y _ (B:=0) (B':=0) ⟨_,rfl,rfl⟩ ⟨_,rfl,rfl⟩ (Nat.zero_le _) (Nat.zero_le _)).mono ?_; rintro e w1 ⟨rfl,hq1⟩)
          all_goals
            go_wp2_with fail
            go_ret
            exact ⟨by rw [Hno.out]; rfl,hq.drew.trans (hq1.mono hq.size)⟩
      · have Hyes:=Lib.hid (eqL_yes (k:=k) ht.out (by have:=lx.out; omega) (by have:=ly.out; omega))
        go_wp2
        go_ret
        exact ⟨by rw [Hyes.out]; rfl,hq⟩
  · have Hno:=Lib.hid (eqL_len (xs:=xs) (ys:=ys) (by have:=lx.out; have:=ly.out; omega))
    have hf:((n:Int) != (m:Int))=true:=by simp; omega
    go_enter Tryz.func215,Tryz.ntmps215
    go_wp2
    go_ret
    exact ⟨by rw [Hno.out]; rfl,hr⟩
end
end Go.Proofs.YtpbobilkejblgaaGreat
