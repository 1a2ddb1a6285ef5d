/- Lemmas of the proof of LiveThunks, part 7. No condition. -/
import Derived.Test.YtpbobilkejblgaaGreatZLiveThunks6
namespace Go.Proofs.YtpbobilkejblgaaGreat
set_option linter.unusedVariables false
set_option linter.unusedSimpArgs false
section
open Go.RowKit
set_option maxRecDepth 100000
noncomputable def m_laws_szInt64S (d0:List Int) (d1:Int):Option Int:=
  ((ck (d1 - (d0.length:Int))).bind fun s1=>(bif (decide (s1 < 0)) then some (-1) else some s1))
set_option maxHeartbeats 2000000 in
theorem c_m_laws_szInt64S (d0:List Int) (d1:Int) (r:Int) (hm:m_laws_szInt64S d0 d1=some r) (v0:Value) (w:World) (hv0:Sl intRd 1 w v0 d0) :
    Calls Tryz.prog 106 #[v0,.int .i64 d1] w fun e w'=>e=.returned (.int .i64 r)∧Below w.heap.size w w':=by
  obtain ⟨Aa0,na0,ca0,rfl,ha0,ra0⟩:=hv0
  have ea0:=ha0.len; subst ea0
  have qa0:=len_le ra0
  have T:=Below.refl w.heap.size w
  unfold m_laws_szInt64S at hm
  refine enter 12 Tryz.func106 rfl rfl rfl ?_
  intro f hf
  have s0:f 0=.slice Aa0 d0.length ca0:=hf 0 _ rfl
  have s1:f 1=.int .i64 d1:=hf 1 _ rfl
  refine wp_seq<|wp_rs rfl<|RQ.y rfl (Y.assign (v:=.int .i64 0) rfl)<|RQ.nil<|then_n<|wp_seq<|wp_rs rfl<|RQ.y rfl (Y.move (v:=.int .i64 d1) s1)<|RQ.y rfl (Y.move (v:=.slice Aa0 d0.length ca0) s0)<|RQ.y rfl (Y.len (by kernel_rfl) rfl) ?_
  obtain ⟨s1,ks1,hm⟩:=bnd hm
  replace ks1:=ck_some ks1
  refine RQ.y rfl (Y.binI (v:=.int .i64 s1) rfl rfl (by rw [binI_sub ks1.2,ks1.1]))<|RQ.y rfl (Y.assign (v:=.int .i64 s1) rfl)<|RQ.nil<|then_n<|wp_seq<|wp_seq<|wp_rs rfl<|RQ.y rfl (Y.move (v:=.int .i64 s1) rfl)<|RQ.y rfl (Y.binI (v:=.bool (decide (s1 < 0))) rfl rfl rfl)<|RQ.nil<|then_n ?_
  rcases bcases (decide (s1 < 0)) with c2|c2
  ·replace hm:=cF c2 hm
   have pc2:=of_decide_eq_false c2
   refine cond_f rfl (vb rfl c2)<|wp_skip<|then_n<|wp_seq<|wp_rs rfl<|RQ.y rfl (Y.move (v:=.int .i64 s1) rfl)<|RQ.y rfl (Y.assign (v:=.int .i64 s1) rfl)<|RQ.nil<|then_n<|wp_ret ?_
   obtain rfl:=sj hm
   exact (ret1 rfl rfl rfl ⟨rfl,T⟩)
  replace hm:=cT c2 hm
  have pc2:=of_decide_eq_true c2
  refine cond_t rfl (vb rfl c2)<|wp_seq<|wp_rs rfl<|RQ.y rfl (Y.assign (v:=.int .i64 (-1)) rfl)<|RQ.nil<|then_n<|wp_ret ?_
  obtain rfl:=sj hm
  exact (then_r (ret1 rfl rfl rfl ⟨rfl,T⟩))
noncomputable def m_laws_szCoreS_A1 (i3:Int):Option Int:=
  some i3
noncomputable def m_laws_szCoreS_B1 (self1:DCore→Int→Option Int) (d0:List DCore) (rec1:Int→Int→Option Int) (K1:Int→Option Int) (i5:Int) (i6:Int):Option Int:=
  (bif (decide (i6 < (d0.length:Int))) then ((getI d0 i6).bind fun x9=>((self1 x9 i5).bind fun y20=>(bif (decide (y20 < 0)) then some (-1) else (rec1 y20 (i6+1))))) else (K1 i5))
noncomputable def m_laws_szCoreS_L1 (self1:DCore→Int→Option Int) (d0:List DCore) (K1:Int→Option Int):Nat→Int→Int→Option Int
  |0,_,_=>none
  |g+1,i5,i6=>m_laws_szCoreS_B1 self1 d0 (m_laws_szCoreS_L1 self1 d0 K1 g) K1 i5 i6
noncomputable def m_laws_szCoreS_R (self0:(List DCore)→Int→Option Int) (self1:DCore→Int→Option Int) (d0:List DCore) (d1:Int):Option Int:=
  ((ck (d1 - (d0.length:Int))).bind fun s1=>(bif (decide (s1 < 0)) then some (-1) else (m_laws_szCoreS_L1 self1 d0 m_laws_szCoreS_A1 (d0.length+1) s1 0)))
set_option maxHeartbeats 2000000 in
theorem c_m_laws_szCoreS_S (self0:(List DCore)→Int→Option Int) (self1:DCore→Int→Option Int) (ih0 :∀(d0:List DCore) (d1:Int) (r:Int) (hm:self0 d0 d1=some r) (v0:Value) (w:World) (hv0:Sl coreRd 4 w v0 d0),Calls Tryz.prog 53 #[v0,.int .i64 d1] w fun e w'=>e=.returned (.int .i64 r)∧Below w.heap.size w w') (ih1 :∀(d0:DCore) (d1:Int) (r:Int) (hm:self1 d0 d1=some r) (v0:Value) (w:World) (hv0:St coreRd w v0 d0),Calls Tryz.prog 105 #[v0,.int .i64 d1] w fun e w'=>e=.returned (.int .i64 r)∧Below w.heap.size w w') :∀(d0:List DCore) (d1:Int) (r:Int) (hm:m_laws_szCoreS_R self0 self1 d0 d1=some r) (v0:Value) (w:World) (hv0:Sl coreRd 4 w v0 d0),
    Calls Tryz.prog 53 #[v0,.int .i64 d1] w fun e w'=>e=.returned (.int .i64 r)∧Below w.heap.size w w':=by
  intro d0 d1 r hm v0 w hv0
  obtain ⟨Aa0,na0,ca0,rfl,ha0,ra0⟩:=hv0
  have ea0:=ha0.len; subst ea0
  have qa0:=len_le ra0
  have T:=Below.refl w.heap.size w
  unfold m_laws_szCoreS_R at hm
  refine enter 27 Tryz.func53 rfl rfl rfl ?_
  intro f hf
  have s0:f 0=.slice Aa0 d0.length ca0:=hf 0 _ rfl
  have s1:f 1=.int .i64 d1:=hf 1 _ rfl
  refine wp_seq<|wp_rs rfl<|RQ.y rfl (Y.assign (v:=.int .i64 0) rfl)<|RQ.nil<|then_n<|wp_seq<|wp_rs rfl<|RQ.y rfl (Y.move (v:=.int .i64 d1) s1)<|RQ.y rfl (Y.move (v:=.slice Aa0 d0.length ca0) s0)<|RQ.y rfl (Y.len (by kernel_rfl) rfl) ?_
  obtain ⟨s1,ks1,hm⟩:=bnd hm
  replace ks1:=ck_some ks1
  refine RQ.y rfl (Y.binI (v:=.int .i64 s1) rfl rfl (by rw [binI_sub ks1.2,ks1.1]))<|RQ.y rfl (Y.assign (v:=.int .i64 s1) rfl)<|RQ.nil<|then_n<|wp_seq<|wp_seq<|wp_rs rfl<|RQ.y rfl (Y.move (v:=.int .i64 s1) rfl)<|RQ.y rfl (Y.binI (v:=.bool (decide (s1 < 0))) rfl rfl rfl)<|RQ.nil<|then_n ?_
  rcases bcases (decide (s1 < 0)) with c2|c2
  ·replace hm:=cF c2 hm
   have pc2:=of_decide_eq_false c2
   refine cond_f rfl (vb rfl c2)<|wp_skip<|then_n<|wp_seq<|wp_seq<|wp_rs rfl<|RQ.y rfl (Y.assign (v:=.int .i64 0) rfl)<|RQ.nil<|then_n<|wp_block ?_
   obtain ⟨K1,hK1,hm⟩ :∃K,K=m_laws_szCoreS_A1∧m_laws_szCoreS_L1 self1 d0 K (d0.length+1) s1 0=some r:=⟨_,rfl,hm⟩
   refine wp_loopX (fun g f w'=>∃(i5:Int) (i6:Int),f 0=.slice Aa0 d0.length ca0∧f 1=.int .i64 i5∧f 5=.int .i64 i6∧0≤i6∧Below w.heap.size w w'∧m_laws_szCoreS_L1 self1 d0 K1 g i5 i6=some r) 0 (fun f w'=>∃(i3:Int),f 1=.int .i64 i3∧Below w.heap.size w w'∧m_laws_szCoreS_A1 i3=some r) (d0.length+1) ⟨s1,0,s0,rfl,rfl,(by omega),T,hm⟩ ?_ ?_
   ·rintro f w4 ⟨i3,s1_1x,T,hm⟩
    unfold m_laws_szCoreS_A1 at hm
    refine blk_hit (then_n ?_)
    refine wp_seq<|wp_rs rfl<|RQ.y rfl (Y.move (v:=.int .i64 i3) s1_1x)<|RQ.y rfl (Y.assign (v:=.int .i64 i3) rfl)<|RQ.nil<|then_n<|wp_ret ?_
    obtain rfl:=sj hm
    exact (ret1 rfl rfl rfl ⟨rfl,T⟩)
   rintro g f w7 ⟨i5,i6,s0_1,s1_1,s5_1,nn5_1,T,hm⟩
   rcases g with _|g
   ·simp only [m_laws_szCoreS_L1] at hm; cases hm
   obtain ⟨rec1,hrec1,hm⟩ :∃z,z=m_laws_szCoreS_L1 self1 d0 K1 g∧m_laws_szCoreS_B1 self1 d0 z K1 i5 i6=some r:=⟨_,rfl,hm⟩
   unfold m_laws_szCoreS_B1 at hm
   refine wp_seq<|wp_seq<|wp_rs rfl<|RQ.y rfl (Y.move (v:=.int .i64 i6) s5_1)<|RQ.y rfl (Y.move (v:=.slice Aa0 d0.length ca0) s0_1)<|RQ.y rfl (Y.len (by kernel_rfl) rfl)<|RQ.y rfl (Y.binI (v:=.bool (decide (i6 < (d0.length:Int)))) rfl rfl rfl)<|RQ.nil<|then_n ?_
   rcases bcases (decide (i6 < (d0.length:Int))) with c8|c8
   ·replace hm:=cF c8 hm
    have pc8:=of_decide_eq_false c8
    refine cond_f rfl (vb rfl c8)<|wp_exit ?_
    exact (then_x (then_x (hit_x ⟨_,rfl,⟨i5,s1_1,T,(by rw [hK1] at hm; exact hm)⟩⟩)))
   replace hm:=cT c8 hm
   have pc8:=of_decide_eq_true c8
   refine cond_t rfl (vb rfl c8)<|wp_skip<|then_n<|wp_seq<|wp_block<|wp_seq<|wp_rb rfl<|RQ.y rfl (Y.move (v:=.slice Aa0 d0.length ca0) s0_1)<|RQ.y rfl (Y.move (v:=.int .i64 i6) s5_1) ?_
   obtain ⟨x9,hx12,hm⟩:=bnd hm
   obtain ⟨k10,hk13,hl14,hx12⟩:=getI_some hx12
   obtain ⟨b16,o17,rfl,hbb16⟩:=ha0.addr (by omega)
   obtain ⟨cs11,hRcs11,hc15⟩:=ha0.el hx12
   have hScs11:=hRcs11
   obtain ⟨A18,n18,c18,A19,n19,c19,rfl,⟨h18,r18⟩,⟨h19,r19⟩⟩:=(coreRd_out hRcs11)
   have e18:=h18.len; subst e18
   have q18:=len_le r18
   have e19:=h19.len; subst e19
   have q19:=len_le r19
   refine RQ.y rfl (Y.indexAddr (m:=k10) (sz:=4) rfl rfl hk13 hl14 (by kernel_rfl))<|RQ.y rfl (Y.loadN (cs:=[.int .i64 x9.kind,.int .i64 x9.value,.slice A18 x9.data.length c18,.slice A19 x9.kids.length c19]) rfl (by kernel_rfl) (cells4 (beC (cellT T (hc15 0 _ rfl))) (beC (cellT T (hc15 1 _ rfl))) (beC (cellT T (hc15 2 _ rfl))) (beC (cellT T (hc15 3 _ rfl)))))<|RQ.y rfl (Y.move (v:=.int .i64 i5) s1_1) ?_
   obtain ⟨y20,e21,hm⟩:=bnd hm
   refine RQ.call rfl (am2 rfl rfl) (by kernel_rfl) (v:=.int .i64 y20) (bel (K:=fun _=>True) fun w' hb'=>(ih1 x9 i5 _ e21 _ w' (stArg (R:=coreRd) (coreRd_in ⟨_,_,_,_,_,_,rfl,⟨SlAt.now intRd_ok h18 (Nat.le_refl _) (Tt T hb'),r18⟩,⟨SlAt.now coreRd_ok h19 (Nat.le_refl _) (Tt T hb'),r19⟩⟩))))<|RQ.y rfl (Y.assign (v:=.int .i64 y20) rfl)<|RQ.nil ?_
   intro w22 hb23
   have szw22:=hb23.size
   have T:=Tt T hb23
   refine then_n<|wp_seq<|wp_rs rfl<|RQ.y rfl (Y.move (v:=.int .i64 y20) rfl)<|RQ.y rfl (Y.binI (v:=.bool (decide (y20 < 0))) rfl rfl rfl)<|RQ.nil<|then_n ?_
   rcases bcases (decide (y20 < 0)) with c24|c24
   ·replace hm:=cF c24 hm
    have pc24:=of_decide_eq_false c24
    refine cond_f rfl (vb rfl c24)<|wp_skip ?_
    refine blk_n (then_n ?_)
    refine wp_rs rfl<|RQ.y rfl (Y.move (v:=.int .i64 i6) s5_1)<|RQ.y rfl (Y.binI rfl rfl (binI_add (m:=i6) (by omega)))<|RQ.y rfl (Y.assign (v:=.int .i64 (i6+1)) rfl)<|RQ.nil ?_
    exact (then_n ⟨g,_,Nat.lt_succ_self _,rfl,⟨y20,(i6+1),s0_1,rfl,rfl,(by omega),T,(by rw [← hrec1]; exact hm)⟩⟩)
   replace hm:=cT c24 hm
   have pc24:=of_decide_eq_true c24
   refine cond_t rfl (vb rfl c24)<|wp_seq<|wp_rs rfl<|RQ.y rfl (Y.assign (v:=.int .i64 (-1)) rfl)<|RQ.nil<|then_n<|wp_ret ?_
   obtain rfl:=sj hm
   exact (blk_r (then_r (then_r (hit_r (blk_r (then_r (ret1 rfl rfl rfl ⟨rfl,T⟩)))))))
  replace hm:=cT c2 hm
  have pc2:=of_decide_eq_true c2
  refine cond_t rfl (vb rfl c2)<|wp_seq<|wp_rs rfl<|RQ.y rfl (Y.assign (v:=.int .i64 (-1)) rfl)<|RQ.nil<|then_n<|wp_ret ?_
  obtain rfl:=sj hm
  exact (then_r (ret1 rfl rfl rfl ⟨rfl,T⟩))
noncomputable def m_laws_szCore_R (self0:(List DCore)→Int→Option Int) (self1:DCore→Int→Option Int) (d0:DCore) (d1:Int):Option Int:=
  ((m_laws_szInt64S d0.data d1).bind fun y7=>(bif (decide (y7 < 0)) then some (-1) else ((self0 d0.kids y7).bind fun y12=>(bif (decide (y12 < 0)) then some (-1) else some y12))))
set_option maxHeartbeats 2000000 in
theorem c_m_laws_szCore_S (self0:(List DCore)→Int→Option Int) (self1:DCore→Int→Option Int) (ih0 :∀(d0:List DCore) (d1:Int) (r:Int) (hm:self0 d0 d1=some r) (v0:Value) (w:World) (hv0:Sl coreRd 4 w v0 d0),Calls Tryz.prog 53 #[v0,.int .i64 d1] w fun e w'=>e=.returned (.int .i64 r)∧Below w.heap.size w w') (ih1 :∀(d0:DCore) (d1:Int) (r:Int) (hm:self1 d0 d1=some r) (v0:Value) (w:World) (hv0:St coreRd w v0 d0),Calls Tryz.prog 105 #[v0,.int .i64 d1] w fun e w'=>e=.returned (.int .i64 r)∧Below w.heap.size w w') :∀(d0:DCore) (d1:Int) (r:Int) (hm:m_laws_szCore_R self0 self1 d0 d1=some r) (v0:Value) (w:World) (hv0:St coreRd w v0 d0),
    Calls Tryz.prog 105 #[v0,.int .i64 d1] w fun e w'=>e=.returned (.int .i64 r)∧Below w.heap.size w w':=by
  intro d0 d1 r hm v0 w hv0
  obtain ⟨csa0,rfl,hRR0⟩:=hv0
  obtain ⟨A1,n1,c1,A2,n2,c2,rfl,⟨h1,r1⟩,⟨h2,r2⟩⟩:=(coreRd_out hRR0)
  have e1:=h1.len; subst e1
  have q1:=len_le r1
  have e2:=h2.len; subst e2
  have q2:=len_le r2
  have T:=Below.refl w.heap.size w
  unfold m_laws_szCore_R at hm
  refine enter 18 Tryz.func105 rfl rfl rfl ?_
  intro f hf
  have s0:f 0=.agg #[.int .i64 d0.kind,.int .i64 d0.value,.slice A1 d0.data.length c1,.slice A2 d0.kids.length c2]:=hf 0 _ rfl
  have s1:f 1=.int .i64 d1:=hf 1 _ rfl
  refine wp_seq<|wp_rl rfl ?_
  refine RL.box rfl s0 (fun w3 B4 hb5 szw3=>?_)
  replace B4:Blk w3 w.heap.size 62 #[.int .i64 d0.kind,.int .i64 d0.value,.slice A1 d0.data.length c1,.slice A2 d0.kids.length c2]:=B4
  have GB4:w.heap.size≤w.heap.size:=T.size
  have T:=Tt T hb5
  refine RL.y rfl (Y.assign (v:=.int .i64 0) rfl)<|RL.nil<|then_n<|wp_seq<|wp_rb rfl<|RQ.y rfl (Y.fieldAddr (off:=2) rfl (by kernel_rfl))<|RQ.y rfl (Y.load (v:=.slice A1 d0.data.length c1) rfl (by kernel_rfl) (beC (blkCell B4 (i:=2) rfl)))<|RQ.y rfl (Y.move (v:=.int .i64 d1) s1) ?_
  obtain ⟨y7,e8,hm⟩:=bnd hm
  refine RQ.call rfl (am2 rfl rfl) (by kernel_rfl) (v:=.int .i64 y7) (bel (K:=fun _=>True) fun w' hb'=>(c_m_laws_szInt64S d0.data d1 _ e8 _ w' (slArg intRd_ok h1 r1 (Tt T hb'))))<|RQ.y rfl (Y.assign (v:=.int .i64 y7) rfl)<|RQ.nil ?_
  intro w9 hb10
  have szw9:=hb10.size
  have B4:=blkT B4 hb10
  have T:=Tt T hb10
  refine then_n<|wp_seq<|wp_seq<|wp_rs rfl<|RQ.y rfl (Y.move (v:=.int .i64 y7) rfl)<|RQ.y rfl (Y.binI (v:=.bool (decide (y7 < 0))) rfl rfl rfl)<|RQ.nil<|then_n ?_
  rcases bcases (decide (y7 < 0)) with c11|c11
  ·replace hm:=cF c11 hm
   have pc11:=of_decide_eq_false c11
   refine cond_f rfl (vb rfl c11)<|wp_skip<|then_n<|wp_seq<|wp_rb rfl<|RQ.y rfl (Y.fieldAddr (off:=3) rfl (by kernel_rfl))<|RQ.y rfl (Y.load (v:=.slice A2 d0.kids.length c2) rfl (by kernel_rfl) (beC (blkCell B4 (i:=3) rfl)))<|RQ.y rfl (Y.move (v:=.int .i64 y7) rfl) ?_
   obtain ⟨y12,e13,hm⟩:=bnd hm
   refine RQ.call rfl (am2 rfl rfl) (by kernel_rfl) (v:=.int .i64 y12) (bel (K:=fun _=>True) fun w' hb'=>(ih0 d0.kids y7 _ e13 _ w' (slArg coreRd_ok h2 r2 (Tt T hb'))))<|RQ.y rfl (Y.assign (v:=.int .i64 y12) rfl)<|RQ.nil ?_
   intro w14 hb15
   have szw14:=hb15.size
   have T:=Tt T hb15
   refine then_n<|wp_seq<|wp_seq<|wp_rs rfl<|RQ.y rfl (Y.move (v:=.int .i64 y12) rfl)<|RQ.y rfl (Y.binI (v:=.bool (decide (y12 < 0))) rfl rfl rfl)<|RQ.nil<|then_n ?_
   rcases bcases (decide (y12 < 0)) with c16|c16
   ·replace hm:=cF c16 hm
    have pc16:=of_decide_eq_false c16
    refine cond_f rfl (vb rfl c16)<|wp_skip<|then_n<|wp_seq<|wp_rs rfl<|RQ.y rfl (Y.move (v:=.int .i64 y12) rfl)<|RQ.y rfl (Y.assign (v:=.int .i64 y12) rfl)<|RQ.nil<|then_n<|wp_ret ?_
    obtain rfl:=sj hm
    exact (ret1 rfl rfl rfl ⟨rfl,T⟩)
   replace hm:=cT c16 hm
   have pc16:=of_decide_eq_true c16
   refine cond_t rfl (vb rfl c16)<|wp_seq<|wp_rs rfl<|RQ.y rfl (Y.assign (v:=.int .i64 (-1)) rfl)<|RQ.nil<|then_n<|wp_ret ?_
   obtain rfl:=sj hm
   exact (then_r (ret1 rfl rfl rfl ⟨rfl,T⟩))
  replace hm:=cT c11 hm
  have pc11:=of_decide_eq_true c11
  refine cond_t rfl (vb rfl c11)<|wp_seq<|wp_rs rfl<|RQ.y rfl (Y.assign (v:=.int .i64 (-1)) rfl)<|RQ.nil<|then_n<|wp_ret ?_
  obtain rfl:=sj hm
  exact (then_r (ret1 rfl rfl rfl ⟨rfl,T⟩))
noncomputable def g_m_laws_szCoreS:Nat→((List DCore)→Int→Option Int) × (DCore→Int→Option Int)
  |0=>(fun _ _=>none,fun _ _=>none)
  |gas+1=>(m_laws_szCoreS_R (g_m_laws_szCoreS gas).1 (g_m_laws_szCoreS gas).2,m_laws_szCore_R (g_m_laws_szCoreS gas).1 (g_m_laws_szCoreS gas).2)
noncomputable def m_laws_szCoreS (gas:Nat):(List DCore)→Int→Option Int:=(g_m_laws_szCoreS gas).1
noncomputable def m_laws_szCore (gas:Nat):DCore→Int→Option Int:=(g_m_laws_szCoreS gas).2
theorem c_g_m_laws_szCoreS :∀gas:Nat,(∀(d0:List DCore) (d1:Int) (r:Int) (hm:m_laws_szCoreS gas d0 d1=some r) (v0:Value) (w:World) (hv0:Sl coreRd 4 w v0 d0),Calls Tryz.prog 53 #[v0,.int .i64 d1] w fun e w'=>e=.returned (.int .i64 r)∧Below w.heap.size w w')∧(∀(d0:DCore) (d1:Int) (r:Int) (hm:m_laws_szCore gas d0 d1=some r) (v0:Value) (w:World) (hv0:St coreRd w v0 d0),Calls Tryz.prog 105 #[v0,.int .i64 d1] w fun e w'=>e=.returned (.int .i64 r)∧Below w.heap.size w w'):=by
  intro gas
  induction gas with
  |zero=>exact ⟨(fun _ _ r hm=>by have h0:(none:Option _)=some r:=hm; cases h0),(fun _ _ r hm=>by have h0:(none:Option _)=some r:=hm; cases h0)⟩
  |succ gas ih=>exact ⟨c_m_laws_szCoreS_S _ _ (ih).1 (ih).2,c_m_laws_szCore_S _ _ (ih).1 (ih).2⟩
theorem c_m_laws_szCoreS (gas : Nat) : ∀ (d0 : List DCore) (d1 : Int) (r : Int) (hm : m_laws_szCoreS gas d0 d1 = some r) (v0 : Value) (w : World) (hv0 : Sl coreRd 4 w v0 d0), Calls Tryz.prog 53 #[v0, .int .i64 d1] w fun e w' => e = .returned (.int .i64 r) ∧ Below w.heap.size w w' := (c_g_m_laws_szCoreS gas).1
theorem c_m_laws_szCore (gas : Nat) : ∀ (d0 : DCore) (d1 : Int) (r : Int) (hm : m_laws_szCore gas d0 d1 = some r) (v0 : Value) (w : World) (hv0 : St coreRd w v0 d0), Calls Tryz.prog 105 #[v0, .int .i64 d1] w fun e w' => e = .returned (.int .i64 r) ∧ Below w.heap.size w w' := (c_g_m_laws_szCoreS gas).2
noncomputable def m_laws_szBook (d0:DBook) (d1:Int):Option Int:=
  ((m_laws_szCoreS (SizeOf.sizeOf d0.defs) d0.defs d1).bind fun y6=>(bif (decide (y6 < 0)) then some (-1) else some y6))
set_option maxHeartbeats 2000000 in
theorem c_m_laws_szBook (d0:DBook) (d1:Int) (r:Int) (hm:m_laws_szBook d0 d1=some r) (v0:Value) (w:World) (hv0:St bookRd w v0 d0) :
    Calls Tryz.prog 20 #[v0,.int .i64 d1] w fun e w'=>e=.returned (.int .i64 r)∧Below w.heap.size w w':=by
  obtain ⟨csa0,rfl,⟨A1,n1,c1,rfl,⟨h1,r1⟩⟩⟩:=hv0
  have e1:=h1.len; subst e1
  have q1:=len_le r1
  have T:=Below.refl w.heap.size w
  unfold m_laws_szBook at hm
  refine enter 12 Tryz.func20 rfl rfl rfl ?_
  intro f hf
  have s0:f 0=.agg #[.slice A1 d0.defs.length c1]:=hf 0 _ rfl
  have s1:f 1=.int .i64 d1:=hf 1 _ rfl
  refine wp_seq<|wp_rl rfl ?_
  refine RL.box rfl s0 (fun w2 B3 hb4 szw2=>?_)
  replace B3:Blk w2 w.heap.size 59 #[.slice A1 d0.defs.length c1]:=B3
  have GB3:w.heap.size≤w.heap.size:=T.size
  have T:=Tt T hb4
  refine RL.y rfl (Y.assign (v:=.int .i64 0) rfl)<|RL.nil<|then_n<|wp_seq<|wp_rb rfl<|RQ.y rfl (Y.fieldAddr (off:=0) rfl (by kernel_rfl))<|RQ.y rfl (Y.load (v:=.slice A1 d0.defs.length c1) rfl (by kernel_rfl) (beC (blkCell B3 (i:=0) rfl)))<|RQ.y rfl (Y.move (v:=.int .i64 d1) s1) ?_
  obtain ⟨y6,e7,hm⟩:=bnd hm
  refine RQ.call rfl (am2 rfl rfl) (by kernel_rfl) (v:=.int .i64 y6) (bel (K:=fun _=>True) fun w' hb'=>(c_m_laws_szCoreS (SizeOf.sizeOf d0.defs) d0.defs d1 _ e7 _ w' (slArg coreRd_ok h1 r1 (Tt T hb'))))<|RQ.y rfl (Y.assign (v:=.int .i64 y6) rfl)<|RQ.nil ?_
  intro w8 hb9
  have szw8:=hb9.size
  have T:=Tt T hb9
  refine then_n<|wp_seq<|wp_seq<|wp_rs rfl<|RQ.y rfl (Y.move (v:=.int .i64 y6) rfl)<|RQ.y rfl (Y.binI (v:=.bool (decide (y6 < 0))) rfl rfl rfl)<|RQ.nil<|then_n ?_
  rcases bcases (decide (y6 < 0)) with c10|c10
  ·replace hm:=cF c10 hm
   have pc10:=of_decide_eq_false c10
   refine cond_f rfl (vb rfl c10)<|wp_skip<|then_n<|wp_seq<|wp_rs rfl<|RQ.y rfl (Y.move (v:=.int .i64 y6) rfl)<|RQ.y rfl (Y.assign (v:=.int .i64 y6) rfl)<|RQ.nil<|then_n<|wp_ret ?_
   obtain rfl:=sj hm
   exact (ret1 rfl rfl rfl ⟨rfl,T⟩)
  replace hm:=cT c10 hm
  have pc10:=of_decide_eq_true c10
  refine cond_t rfl (vb rfl c10)<|wp_seq<|wp_rs rfl<|RQ.y rfl (Y.assign (v:=.int .i64 (-1)) rfl)<|RQ.nil<|then_n<|wp_ret ?_
  obtain rfl:=sj hm
  exact (then_r (ret1 rfl rfl rfl ⟨rfl,T⟩))
noncomputable def m_laws_szClosure (d0:DClosure) (d1:Int):Option Int:=
  ((m_laws_szCore (SizeOf.sizeOf (⟨d0.term.kind,d0.term.value,d0.term.data,d0.term.kids⟩:DCore)) (⟨d0.term.kind,d0.term.value,d0.term.data,d0.term.kids⟩:DCore) d1).bind fun y8=>(bif (decide (y8 < 0)) then some (-1) else ((m_laws_szInt64S d0.env y8).bind fun y13=>(bif (decide (y13 < 0)) then some (-1) else some y13))))
set_option maxHeartbeats 2000000 in
theorem c_m_laws_szClosure (d0:DClosure) (d1:Int) (r:Int) (hm:m_laws_szClosure d0 d1=some r) (v0:Value) (w:World) (hv0:St closureRd w v0 d0) :
    Calls Tryz.prog 54 #[v0,.int .i64 d1] w fun e w'=>e=.returned (.int .i64 r)∧Below w.heap.size w w':=by
  obtain ⟨csa0,rfl,⟨A1,n1,c1,A2,n2,c2,A3,n3,c3,rfl,⟨h1,r1⟩,⟨h2,r2⟩,⟨h3,r3⟩⟩⟩:=hv0
  have e1:=h1.len; subst e1
  have q1:=len_le r1
  have e2:=h2.len; subst e2
  have q2:=len_le r2
  have e3:=h3.len; subst e3
  have q3:=len_le r3
  have T:=Below.refl w.heap.size w
  unfold m_laws_szClosure at hm
  refine enter 18 Tryz.func54 rfl rfl rfl ?_
  intro f hf
  have s0:f 0=.agg #[.int .i64 d0.term.kind,.int .i64 d0.term.value,.slice A1 d0.term.data.length c1,.slice A2 d0.term.kids.length c2,.slice A3 d0.env.length c3]:=hf 0 _ rfl
  have s1:f 1=.int .i64 d1:=hf 1 _ rfl
  refine wp_seq<|wp_rl rfl ?_
  refine RL.box rfl s0 (fun w4 B5 hb6 szw4=>?_)
  replace B5:Blk w4 w.heap.size 64 #[.int .i64 d0.term.kind,.int .i64 d0.term.value,.slice A1 d0.term.data.length c1,.slice A2 d0.term.kids.length c2,.slice A3 d0.env.length c3]:=B5
  have GB5:w.heap.size≤w.heap.size:=T.size
  have T:=Tt T hb6
  refine RL.y rfl (Y.assign (v:=.int .i64 0) rfl)<|RL.nil<|then_n<|wp_seq<|wp_rb rfl<|RQ.y rfl (Y.fieldAddr (off:=0) rfl (by kernel_rfl))<|RQ.y rfl (Y.loadN (cs:=[.int .i64 d0.term.kind,.int .i64 d0.term.value,.slice A1 d0.term.data.length c1,.slice A2 d0.term.kids.length c2]) rfl (by kernel_rfl) (cells4 (beC (blkCell B5 (i:=0) rfl)) (beC (blkCell B5 (i:=1) rfl)) (beC (blkCell B5 (i:=2) rfl)) (beC (blkCell B5 (i:=3) rfl))))<|RQ.y rfl (Y.move (v:=.int .i64 d1) s1) ?_
  obtain ⟨y8,e9,hm⟩:=bnd hm
  refine RQ.call rfl (am2 rfl rfl) (by kernel_rfl) (v:=.int .i64 y8) (bel (K:=fun _=>True) fun w' hb'=>(c_m_laws_szCore (SizeOf.sizeOf (⟨d0.term.kind,d0.term.value,d0.term.data,d0.term.kids⟩:DCore)) (⟨d0.term.kind,d0.term.value,d0.term.data,d0.term.kids⟩:DCore) d1 _ e9 _ w' (stArg (R:=coreRd) (coreRd_in ⟨_,_,_,_,_,_,rfl,⟨SlAt.now intRd_ok h1 (Nat.le_refl _) (Tt T hb'),r1⟩,⟨SlAt.now coreRd_ok h2 (Nat.le_refl _) (Tt T hb'),r2⟩⟩))))<|RQ.y rfl (Y.assign (v:=.int .i64 y8) rfl)<|RQ.nil ?_
  intro w10 hb11
  have szw10:=hb11.size
  have B5:=blkT B5 hb11
  have T:=Tt T hb11
  refine then_n<|wp_seq<|wp_seq<|wp_rs rfl<|RQ.y rfl (Y.move (v:=.int .i64 y8) rfl)<|RQ.y rfl (Y.binI (v:=.bool (decide (y8 < 0))) rfl rfl rfl)<|RQ.nil<|then_n ?_
  rcases bcases (decide (y8 < 0)) with c12|c12
  ·replace hm:=cF c12 hm
   have pc12:=of_decide_eq_false c12
   refine cond_f rfl (vb rfl c12)<|wp_skip<|then_n<|wp_seq<|wp_rb rfl<|RQ.y rfl (Y.fieldAddr (off:=4) rfl (by kernel_rfl))<|RQ.y rfl (Y.load (v:=.slice A3 d0.env.length c3) rfl (by kernel_rfl) (beC (blkCell B5 (i:=4) rfl)))<|RQ.y rfl (Y.move (v:=.int .i64 y8) rfl) ?_
   obtain ⟨y13,e14,hm⟩:=bnd hm
   refine RQ.call rfl (am2 rfl rfl) (by kernel_rfl) (v:=.int .i64 y13) (bel (K:=fun _=>True) fun w' hb'=>(c_m_laws_szInt64S d0.env y8 _ e14 _ w' (slArg intRd_ok h3 r3 (Tt T hb'))))<|RQ.y rfl (Y.assign (v:=.int .i64 y13) rfl)<|RQ.nil ?_
   intro w15 hb16
   have szw15:=hb16.size
   have T:=Tt T hb16
   refine then_n<|wp_seq<|wp_seq<|wp_rs rfl<|RQ.y rfl (Y.move (v:=.int .i64 y13) rfl)<|RQ.y rfl (Y.binI (v:=.bool (decide (y13 < 0))) rfl rfl rfl)<|RQ.nil<|then_n ?_
   rcases bcases (decide (y13 < 0)) with c17|c17
   ·replace hm:=cF c17 hm
    have pc17:=of_decide_eq_false c17
    refine cond_f rfl (vb rfl c17)<|wp_skip<|then_n<|wp_seq<|wp_rs rfl<|RQ.y rfl (Y.move (v:=.int .i64 y13) rfl)<|RQ.y rfl (Y.assign (v:=.int .i64 y13) rfl)<|RQ.nil<|then_n<|wp_ret ?_
    obtain rfl:=sj hm
    exact (ret1 rfl rfl rfl ⟨rfl,T⟩)
   replace hm:=cT c17 hm
   have pc17:=of_decide_eq_true c17
   refine cond_t rfl (vb rfl c17)<|wp_seq<|wp_rs rfl<|RQ.y rfl (Y.assign (v:=.int .i64 (-1)) rfl)<|RQ.nil<|then_n<|wp_ret ?_
   obtain rfl:=sj hm
   exact (then_r (ret1 rfl rfl rfl ⟨rfl,T⟩))
  replace hm:=cT c12 hm
  have pc12:=of_decide_eq_true c12
  refine cond_t rfl (vb rfl c12)<|wp_seq<|wp_rs rfl<|RQ.y rfl (Y.assign (v:=.int .i64 (-1)) rfl)<|RQ.nil<|then_n<|wp_ret ?_
  obtain rfl:=sj hm
  exact (then_r (ret1 rfl rfl rfl ⟨rfl,T⟩))
noncomputable def m_laws_szFrame (d0:DFrame) (d1:Int):Option Int:=
  ((m_laws_szInt64S d0.data d1).bind fun y9=>(bif (decide (y9 < 0)) then some (-1) else ((m_laws_szClosure (⟨(⟨d0.closure.term.kind,d0.closure.term.value,d0.closure.term.data,d0.closure.term.kids⟩:DCore),d0.closure.env⟩:DClosure) y9).bind fun y14=>(bif (decide (y14 < 0)) then some (-1) else some y14))))
set_option maxHeartbeats 2000000 in
theorem c_m_laws_szFrame (d0:DFrame) (d1:Int) (r:Int) (hm:m_laws_szFrame d0 d1=some r) (v0:Value) (w:World) (hv0:St frameRd w v0 d0) :
    Calls Tryz.prog 107 #[v0,.int .i64 d1] w fun e w'=>e=.returned (.int .i64 r)∧Below w.heap.size w w':=by
  obtain ⟨csa0,rfl,⟨A1,n1,c1,A2,n2,c2,A3,n3,c3,A4,n4,c4,rfl,⟨h1,r1⟩,⟨h2,r2⟩,⟨h3,r3⟩,⟨h4,r4⟩⟩⟩:=hv0
  have e1:=h1.len; subst e1
  have q1:=len_le r1
  have e2:=h2.len; subst e2
  have q2:=len_le r2
  have e3:=h3.len; subst e3
  have q3:=len_le r3
  have e4:=h4.len; subst e4
  have q4:=len_le r4
  have T:=Below.refl w.heap.size w
  unfold m_laws_szFrame at hm
  refine enter 18 Tryz.func107 rfl rfl rfl ?_
  intro f hf
  have s0:f 0=.agg #[.int .i64 d0.kind,.int .i64 d0.value,.slice A1 d0.data.length c1,.int .i64 d0.closure.term.kind,.int .i64 d0.closure.term.value,.slice A2 d0.closure.term.data.length c2,.slice A3 d0.closure.term.kids.length c3,.slice A4 d0.closure.env.length c4]:=hf 0 _ rfl
  have s1:f 1=.int .i64 d1:=hf 1 _ rfl
  refine wp_seq<|wp_rl rfl ?_
  refine RL.box rfl s0 (fun w5 B6 hb7 szw5=>?_)
  replace B6:Blk w5 w.heap.size 188 #[.int .i64 d0.kind,.int .i64 d0.value,.slice A1 d0.data.length c1,.int .i64 d0.closure.term.kind,.int .i64 d0.closure.term.value,.slice A2 d0.closure.term.data.length c2,.slice A3 d0.closure.term.kids.length c3,.slice A4 d0.closure.env.length c4]:=B6
  have GB6:w.heap.size≤w.heap.size:=T.size
  have T:=Tt T hb7
  refine RL.y rfl (Y.assign (v:=.int .i64 0) rfl)<|RL.nil<|then_n<|wp_seq<|wp_rb rfl<|RQ.y rfl (Y.fieldAddr (off:=2) rfl (by kernel_rfl))<|RQ.y rfl (Y.load (v:=.slice A1 d0.data.length c1) rfl (by kernel_rfl) (beC (blkCell B6 (i:=2) rfl)))<|RQ.y rfl (Y.move (v:=.int .i64 d1) s1) ?_
  obtain ⟨y9,e10,hm⟩:=bnd hm
  refine RQ.call rfl (am2 rfl rfl) (by kernel_rfl) (v:=.int .i64 y9) (bel (K:=fun _=>True) fun w' hb'=>(c_m_laws_szInt64S d0.data d1 _ e10 _ w' (slArg intRd_ok h1 r1 (Tt T hb'))))<|RQ.y rfl (Y.assign (v:=.int .i64 y9) rfl)<|RQ.nil ?_
  intro w11 hb12
  have szw11:=hb12.size
  have B6:=blkT B6 hb12
  have T:=Tt T hb12
  refine then_n<|wp_seq<|wp_seq<|wp_rs rfl<|RQ.y rfl (Y.move (v:=.int .i64 y9) rfl)<|RQ.y rfl (Y.binI (v:=.bool (decide (y9 < 0))) rfl rfl rfl)<|RQ.nil<|then_n ?_
  rcases bcases (decide (y9 < 0)) with c13|c13
  ·replace hm:=cF c13 hm
   have pc13:=of_decide_eq_false c13
   refine cond_f rfl (vb rfl c13)<|wp_skip<|then_n<|wp_seq<|wp_rb rfl<|RQ.y rfl (Y.fieldAddr (off:=3) rfl (by kernel_rfl))<|RQ.y rfl (Y.loadN (cs:=[.int .i64 d0.closure.term.kind,.int .i64 d0.closure.term.value,.slice A2 d0.closure.term.data.length c2,.slice A3 d0.closure.term.kids.length c3,.slice A4 d0.closure.env.length c4]) rfl (by kernel_rfl) (cells5 (beC (blkCell B6 (i:=3) rfl)) (beC (blkCell B6 (i:=4) rfl)) (beC (blkCell B6 (i:=5) rfl)) (beC (blkCell B6 (i:=6) rfl)) (beC (blkCell B6 (i:=7) rfl))))<|RQ.y rfl (Y.move (v:=.int .i64 y9) rfl) ?_
   obtain ⟨y14,e15,hm⟩:=bnd hm
   refine RQ.call rfl (am2 rfl rfl) (by kernel_rfl) (v:=.int .i64 y14) (bel (K:=fun _=>True) fun w' hb'=>(c_m_laws_szClosure (⟨(⟨d0.closure.term.kind,d0.closure.term.value,d0.closure.term.data,d0.closure.term.kids⟩:DCore),d0.closure.env⟩:DClosure) y9 _ e15 _ w' (stArg (R:=closureRd) ⟨_,_,_,_,_,_,_,_,_,rfl,⟨SlAt.now intRd_ok h2 (Nat.le_refl _) (Tt T hb'),r2⟩,⟨SlAt.now coreRd_ok h3 (Nat.le_refl _) (Tt T hb'),r3⟩,⟨SlAt.now intRd_ok h4 (Nat.le_refl _) (Tt T hb'),r4⟩⟩)))<|RQ.y rfl (Y.assign (v:=.int .i64 y14) rfl)<|RQ.nil ?_
   intro w16 hb17
   have szw16:=hb17.size
   have T:=Tt T hb17
   refine then_n<|wp_seq<|wp_seq<|wp_rs rfl<|RQ.y rfl (Y.move (v:=.int .i64 y14) rfl)<|RQ.y rfl (Y.binI (v:=.bool (decide (y14 < 0))) rfl rfl rfl)<|RQ.nil<|then_n ?_
   rcases bcases (decide (y14 < 0)) with c18|c18
   ·replace hm:=cF c18 hm
    have pc18:=of_decide_eq_false c18
    refine cond_f rfl (vb rfl c18)<|wp_skip<|then_n<|wp_seq<|wp_rs rfl<|RQ.y rfl (Y.move (v:=.int .i64 y14) rfl)<|RQ.y rfl (Y.assign (v:=.int .i64 y14) rfl)<|RQ.nil<|then_n<|wp_ret ?_
    obtain rfl:=sj hm
    exact (ret1 rfl rfl rfl ⟨rfl,T⟩)
   replace hm:=cT c18 hm
   have pc18:=of_decide_eq_true c18
   refine cond_t rfl (vb rfl c18)<|wp_seq<|wp_rs rfl<|RQ.y rfl (Y.assign (v:=.int .i64 (-1)) rfl)<|RQ.nil<|then_n<|wp_ret ?_
   obtain rfl:=sj hm
   exact (then_r (ret1 rfl rfl rfl ⟨rfl,T⟩))
  replace hm:=cT c13 hm
  have pc13:=of_decide_eq_true c13
  refine cond_t rfl (vb rfl c13)<|wp_seq<|wp_rs rfl<|RQ.y rfl (Y.assign (v:=.int .i64 (-1)) rfl)<|RQ.nil<|then_n<|wp_ret ?_
  obtain rfl:=sj hm
  exact (then_r (ret1 rfl rfl rfl ⟨rfl,T⟩))
noncomputable def m_laws_szFrameS_A1 (i3:Int):Option Int:=
  some i3
noncomputable def m_laws_szFrameS_B1 (d0:List DFrame) (rec1:Int→Int→Option Int) (K1:Int→Option Int) (i5:Int) (i6:Int):Option Int:=
  (bif (decide (i6 < (d0.length:Int))) then ((getI d0 i6).bind fun x9=>((m_laws_szFrame x9 i5).bind fun y22=>(bif (decide (y22 < 0)) then some (-1) else (rec1 y22 (i6+1))))) else (K1 i5))
noncomputable def m_laws_szFrameS_L1 (d0:List DFrame) (K1:Int→Option Int):Nat→Int→Int→Option Int
  |0,_,_=>none
  |g+1,i5,i6=>m_laws_szFrameS_B1 d0 (m_laws_szFrameS_L1 d0 K1 g) K1 i5 i6
noncomputable def m_laws_szFrameS (d0:List DFrame) (d1:Int):Option Int:=
  ((ck (d1 - (d0.length:Int))).bind fun s1=>(bif (decide (s1 < 0)) then some (-1) else (m_laws_szFrameS_L1 d0 m_laws_szFrameS_A1 (d0.length+1) s1 0)))
set_option maxHeartbeats 2000000 in
theorem c_m_laws_szFrameS (d0:List DFrame) (d1:Int) (r:Int) (hm:m_laws_szFrameS d0 d1=some r) (v0:Value) (w:World) (hv0:Sl frameRd 8 w v0 d0) :
    Calls Tryz.prog 55 #[v0,.int .i64 d1] w fun e w'=>e=.returned (.int .i64 r)∧Below w.heap.size w w':=by
  obtain ⟨Aa0,na0,ca0,rfl,ha0,ra0⟩:=hv0
  have ea0:=ha0.len; subst ea0
  have qa0:=len_le ra0
  have T:=Below.refl w.heap.size w
  unfold m_laws_szFrameS at hm
  refine enter 27 Tryz.func55 rfl rfl rfl ?_
  intro f hf
  have s0:f 0=.slice Aa0 d0.length ca0:=hf 0 _ rfl
  have s1:f 1=.int .i64 d1:=hf 1 _ rfl
  refine wp_seq<|wp_rs rfl<|RQ.y rfl (Y.assign (v:=.int .i64 0) rfl)<|RQ.nil<|then_n<|wp_seq<|wp_rs rfl<|RQ.y rfl (Y.move (v:=.int .i64 d1) s1)<|RQ.y rfl (Y.move (v:=.slice Aa0 d0.length ca0) s0)<|RQ.y rfl (Y.len (by kernel_rfl) rfl) ?_
  obtain ⟨s1,ks1,hm⟩:=bnd hm
  replace ks1:=ck_some ks1
  refine RQ.y rfl (Y.binI (v:=.int .i64 s1) rfl rfl (by rw [binI_sub ks1.2,ks1.1]))<|RQ.y rfl (Y.assign (v:=.int .i64 s1) rfl)<|RQ.nil<|then_n<|wp_seq<|wp_seq<|wp_rs rfl<|RQ.y rfl (Y.move (v:=.int .i64 s1) rfl)<|RQ.y rfl (Y.binI (v:=.bool (decide (s1 < 0))) rfl rfl rfl)<|RQ.nil<|then_n ?_
  rcases bcases (decide (s1 < 0)) with c2|c2
  ·replace hm:=cF c2 hm
   have pc2:=of_decide_eq_false c2
   refine cond_f rfl (vb rfl c2)<|wp_skip<|then_n<|wp_seq<|wp_seq<|wp_rs rfl<|RQ.y rfl (Y.assign (v:=.int .i64 0) rfl)<|RQ.nil<|then_n<|wp_block ?_
   obtain ⟨K1,hK1,hm⟩ :∃K,K=m_laws_szFrameS_A1∧m_laws_szFrameS_L1 d0 K (d0.length+1) s1 0=some r:=⟨_,rfl,hm⟩
   refine wp_loopX (fun g f w'=>∃(i5:Int) (i6:Int),f 0=.slice Aa0 d0.length ca0∧f 1=.int .i64 i5∧f 5=.int .i64 i6∧0≤i6∧Below w.heap.size w w'∧m_laws_szFrameS_L1 d0 K1 g i5 i6=some r) 0 (fun f w'=>∃(i3:Int),f 1=.int .i64 i3∧Below w.heap.size w w'∧m_laws_szFrameS_A1 i3=some r) (d0.length+1) ⟨s1,0,s0,rfl,rfl,(by omega),T,hm⟩ ?_ ?_
   ·rintro f w4 ⟨i3,s1_1x,T,hm⟩
    unfold m_laws_szFrameS_A1 at hm
    refine blk_hit (then_n ?_)
    refine wp_seq<|wp_rs rfl<|RQ.y rfl (Y.move (v:=.int .i64 i3) s1_1x)<|RQ.y rfl (Y.assign (v:=.int .i64 i3) rfl)<|RQ.nil<|then_n<|wp_ret ?_
    obtain rfl:=sj hm
    exact (ret1 rfl rfl rfl ⟨rfl,T⟩)
   rintro g f w7 ⟨i5,i6,s0_1,s1_1,s5_1,nn5_1,T,hm⟩
   rcases g with _|g
   ·simp only [m_laws_szFrameS_L1] at hm; cases hm
   obtain ⟨rec1,hrec1,hm⟩ :∃z,z=m_laws_szFrameS_L1 d0 K1 g∧m_laws_szFrameS_B1 d0 z K1 i5 i6=some r:=⟨_,rfl,hm⟩
   unfold m_laws_szFrameS_B1 at hm
   refine wp_seq<|wp_seq<|wp_rs rfl<|RQ.y rfl (Y.move (v:=.int .i64 i6) s5_1)<|RQ.y rfl (Y.move (v:=.slice Aa0 d0.length ca0) s0_1)<|RQ.y rfl (Y.len (by kernel_rfl) rfl)<|RQ.y rfl (Y.binI (v:=.bool (decide (i6 < (d0.length:Int)))) rfl rfl rfl)<|RQ.nil<|then_n ?_
   rcases bcases (decide (i6 < (d0.length:Int))) with c8|c8
   ·replace hm:=cF c8 hm
    have pc8:=of_decide_eq_false c8
    refine cond_f rfl (vb rfl c8)<|wp_exit ?_
    exact (then_x (then_x (hit_x ⟨_,rfl,⟨i5,s1_1,T,(by rw [hK1] at hm; exact hm)⟩⟩)))
   replace hm:=cT c8 hm
   have pc8:=of_decide_eq_true c8
   refine cond_t rfl (vb rfl c8)<|wp_skip<|then_n<|wp_seq<|wp_block<|wp_seq<|wp_rb rfl<|RQ.y rfl (Y.move (v:=.slice Aa0 d0.length ca0) s0_1)<|RQ.y rfl (Y.move (v:=.int .i64 i6) s5_1) ?_
   obtain ⟨x9,hx12,hm⟩:=bnd hm
   obtain ⟨k10,hk13,hl14,hx12⟩:=getI_some hx12
   obtain ⟨b16,o17,rfl,hbb16⟩:=ha0.addr (by omega)
   obtain ⟨cs11,hRcs11,hc15⟩:=ha0.el hx12
   have hScs11:=hRcs11
   obtain ⟨A18,n18,c18,A19,n19,c19,A20,n20,c20,A21,n21,c21,rfl,⟨h18,r18⟩,⟨h19,r19⟩,⟨h20,r20⟩,⟨h21,r21⟩⟩:=hRcs11
   have e18:=h18.len; subst e18
   have q18:=len_le r18
   have e19:=h19.len; subst e19
   have q19:=len_le r19
   have e20:=h20.len; subst e20
   have q20:=len_le r20
   have e21:=h21.len; subst e21
   have q21:=len_le r21
   refine RQ.y rfl (Y.indexAddr (m:=k10) (sz:=8) rfl rfl hk13 hl14 (by kernel_rfl))<|RQ.y rfl (Y.loadN (cs:=[.int .i64 x9.kind,.int .i64 x9.value,.slice A18 x9.data.length c18,.int .i64 x9.closure.term.kind,.int .i64 x9.closure.term.value,.slice A19 x9.closure.term.data.length c19,.slice A20 x9.closure.term.kids.length c20,.slice A21 x9.closure.env.length c21]) rfl (by kernel_rfl) (cells8 (beC (cellT T (hc15 0 _ rfl))) (beC (cellT T (hc15 1 _ rfl))) (beC (cellT T (hc15 2 _ rfl))) (beC (cellT T (hc15 3 _ rfl))) (beC (cellT T (hc15 4 _ rfl))) (beC (cellT T (hc15 5 _ rfl))) (beC (cellT T (hc15 6 _ rfl))) (beC (cellT T (hc15 7 _ rfl)))))<|RQ.y rfl (Y.move (v:=.int .i64 i5) s1_1) ?_
   obtain ⟨y22,e23,hm⟩:=bnd hm
   refine RQ.call rfl (am2 rfl rfl) (by kernel_rfl) (v:=.int .i64 y22) (bel (K:=fun _=>True) fun w' hb'=>(c_m_laws_szFrame x9 i5 _ e23 _ w' (stArg (R:=frameRd) ⟨_,_,_,_,_,_,_,_,_,_,_,_,rfl,⟨SlAt.now intRd_ok h18 (Nat.le_refl _) (Tt T hb'),r18⟩,⟨SlAt.now intRd_ok h19 (Nat.le_refl _) (Tt T hb'),r19⟩,⟨SlAt.now coreRd_ok h20 (Nat.le_refl _) (Tt T hb'),r20⟩,⟨SlAt.now intRd_ok h21 (Nat.le_refl _) (Tt T hb'),r21⟩⟩)))<|RQ.y rfl (Y.assign (v:=.int .i64 y22) rfl)<|RQ.nil ?_
   intro w24 hb25
   have szw24:=hb25.size
   have T:=Tt T hb25
   refine then_n<|wp_seq<|wp_rs rfl<|RQ.y rfl (Y.move (v:=.int .i64 y22) rfl)<|RQ.y rfl (Y.binI (v:=.bool (decide (y22 < 0))) rfl rfl rfl)<|RQ.nil<|then_n ?_
   rcases bcases (decide (y22 < 0)) with c26|c26
   ·replace hm:=cF c26 hm
    have pc26:=of_decide_eq_false c26
    refine cond_f rfl (vb rfl c26)<|wp_skip ?_
    refine blk_n (then_n ?_)
    refine wp_rs rfl<|RQ.y rfl (Y.move (v:=.int .i64 i6) s5_1)<|RQ.y rfl (Y.binI rfl rfl (binI_add (m:=i6) (by omega)))<|RQ.y rfl (Y.assign (v:=.int .i64 (i6+1)) rfl)<|RQ.nil ?_
    exact (then_n ⟨g,_,Nat.lt_succ_self _,rfl,⟨y22,(i6+1),s0_1,rfl,rfl,(by omega),T,(by rw [← hrec1]; exact hm)⟩⟩)
   replace hm:=cT c26 hm
   have pc26:=of_decide_eq_true c26
   refine cond_t rfl (vb rfl c26)<|wp_seq<|wp_rs rfl<|RQ.y rfl (Y.assign (v:=.int .i64 (-1)) rfl)<|RQ.nil<|then_n<|wp_ret ?_
   obtain rfl:=sj hm
   exact (blk_r (then_r (then_r (hit_r (blk_r (then_r (ret1 rfl rfl rfl ⟨rfl,T⟩)))))))
  replace hm:=cT c2 hm
  have pc2:=of_decide_eq_true c2
  refine cond_t rfl (vb rfl c2)<|wp_seq<|wp_rs rfl<|RQ.y rfl (Y.assign (v:=.int .i64 (-1)) rfl)<|RQ.nil<|then_n<|wp_ret ?_
  obtain rfl:=sj hm
  exact (then_r (ret1 rfl rfl rfl ⟨rfl,T⟩))
noncomputable def m_laws_szThunk (d0:DThunk) (d1:Int):Option Int:=
  ((m_laws_szClosure (⟨(⟨d0.closure.term.kind,d0.closure.term.value,d0.closure.term.data,d0.closure.term.kids⟩:DCore),d0.closure.env⟩:DClosure) d1).bind fun y8=>(bif (decide (y8 < 0)) then some (-1) else some y8))
set_option maxHeartbeats 2000000 in
theorem c_m_laws_szThunk (d0:DThunk) (d1:Int) (r:Int) (hm:m_laws_szThunk d0 d1=some r) (v0:Value) (w:World) (hv0:St thunkRd w v0 d0) :
    Calls Tryz.prog 108 #[v0,.int .i64 d1] w fun e w'=>e=.returned (.int .i64 r)∧Below w.heap.size w w':=by
  obtain ⟨csa0,rfl,⟨A1,n1,c1,A2,n2,c2,A3,n3,c3,rfl,⟨h1,r1⟩,⟨h2,r2⟩,⟨h3,r3⟩⟩⟩:=hv0
  have e1:=h1.len; subst e1
  have q1:=len_le r1
  have e2:=h2.len; subst e2
  have q2:=len_le r2
  have e3:=h3.len; subst e3
  have q3:=len_le r3
  have T:=Below.refl w.heap.size w
  unfold m_laws_szThunk at hm
  refine enter 12 Tryz.func108 rfl rfl rfl ?_
  intro f hf
  have s0:f 0=.agg #[.bool d0.done,.int .i64 d0.closure.term.kind,.int .i64 d0.closure.term.value,.slice A1 d0.closure.term.data.length c1,.slice A2 d0.closure.term.kids.length c2,.slice A3 d0.closure.env.length c3]:=hf 0 _ rfl
  have s1:f 1=.int .i64 d1:=hf 1 _ rfl
  refine wp_seq<|wp_rl rfl ?_
  refine RL.box rfl s0 (fun w4 B5 hb6 szw4=>?_)
  replace B5:Blk w4 w.heap.size 191 #[.bool d0.done,.int .i64 d0.closure.term.kind,.int .i64 d0.closure.term.value,.slice A1 d0.closure.term.data.length c1,.slice A2 d0.closure.term.kids.length c2,.slice A3 d0.closure.env.length c3]:=B5
  have GB5:w.heap.size≤w.heap.size:=T.size
  have T:=Tt T hb6
  refine RL.y rfl (Y.assign (v:=.int .i64 0) rfl)<|RL.nil<|then_n<|wp_seq<|wp_rb rfl<|RQ.y rfl (Y.fieldAddr (off:=1) rfl (by kernel_rfl))<|RQ.y rfl (Y.loadN (cs:=[.int .i64 d0.closure.term.kind,.int .i64 d0.closure.term.value,.slice A1 d0.closure.term.data.length c1,.slice A2 d0.closure.term.kids.length c2,.slice A3 d0.closure.env.length c3]) rfl (by kernel_rfl) (cells5 (beC (blkCell B5 (i:=1) rfl)) (beC (blkCell B5 (i:=2) rfl)) (beC (blkCell B5 (i:=3) rfl)) (beC (blkCell B5 (i:=4) rfl)) (beC (blkCell B5 (i:=5) rfl))))<|RQ.y rfl (Y.move (v:=.int .i64 d1) s1) ?_
  obtain ⟨y8,e9,hm⟩:=bnd hm
  refine RQ.call rfl (am2 rfl rfl) (by kernel_rfl) (v:=.int .i64 y8) (bel (K:=fun _=>True) fun w' hb'=>(c_m_laws_szClosure (⟨(⟨d0.closure.term.kind,d0.closure.term.value,d0.closure.term.data,d0.closure.term.kids⟩:DCore),d0.closure.env⟩:DClosure) d1 _ e9 _ w' (stArg (R:=closureRd) ⟨_,_,_,_,_,_,_,_,_,rfl,⟨SlAt.now intRd_ok h1 (Nat.le_refl _) (Tt T hb'),r1⟩,⟨SlAt.now coreRd_ok h2 (Nat.le_refl _) (Tt T hb'),r2⟩,⟨SlAt.now intRd_ok h3 (Nat.le_refl _) (Tt T hb'),r3⟩⟩)))<|RQ.y rfl (Y.assign (v:=.int .i64 y8) rfl)<|RQ.nil ?_
  intro w10 hb11
  have szw10:=hb11.size
  have T:=Tt T hb11
  refine then_n<|wp_seq<|wp_seq<|wp_rs rfl<|RQ.y rfl (Y.move (v:=.int .i64 y8) rfl)<|RQ.y rfl (Y.binI (v:=.bool (decide (y8 < 0))) rfl rfl rfl)<|RQ.nil<|then_n ?_
  rcases bcases (decide (y8 < 0)) with c12|c12
  ·replace hm:=cF c12 hm
   have pc12:=of_decide_eq_false c12
   refine cond_f rfl (vb rfl c12)<|wp_skip<|then_n<|wp_seq<|wp_rs rfl<|RQ.y rfl (Y.move (v:=.int .i64 y8) rfl)<|RQ.y rfl (Y.assign (v:=.int .i64 y8) rfl)<|RQ.nil<|then_n<|wp_ret ?_
   obtain rfl:=sj hm
   exact (ret1 rfl rfl rfl ⟨rfl,T⟩)
  replace hm:=cT c12 hm
  have pc12:=of_decide_eq_true c12
  refine cond_t rfl (vb rfl c12)<|wp_seq<|wp_rs rfl<|RQ.y rfl (Y.assign (v:=.int .i64 (-1)) rfl)<|RQ.nil<|then_n<|wp_ret ?_
  obtain rfl:=sj hm
  exact (then_r (ret1 rfl rfl rfl ⟨rfl,T⟩))
noncomputable def m_laws_szThunkS_A1 (i3:Int):Option Int:=
  some i3
noncomputable def m_laws_szThunkS_B1 (d0:List DThunk) (rec1:Int→Int→Option Int) (K1:Int→Option Int) (i5:Int) (i6:Int):Option Int:=
  (bif (decide (i6 < (d0.length:Int))) then ((getI d0 i6).bind fun x9=>((m_laws_szThunk x9 i5).bind fun y21=>(bif (decide (y21 < 0)) then some (-1) else (rec1 y21 (i6+1))))) else (K1 i5))
noncomputable def m_laws_szThunkS_L1 (d0:List DThunk) (K1:Int→Option Int):Nat→Int→Int→Option Int
  |0,_,_=>none
  |g+1,i5,i6=>m_laws_szThunkS_B1 d0 (m_laws_szThunkS_L1 d0 K1 g) K1 i5 i6
noncomputable def m_laws_szThunkS (d0:List DThunk) (d1:Int):Option Int:=
  ((ck (d1 - (d0.length:Int))).bind fun s1=>(bif (decide (s1 < 0)) then some (-1) else (m_laws_szThunkS_L1 d0 m_laws_szThunkS_A1 (d0.length+1) s1 0)))
set_option maxHeartbeats 2000000 in
theorem c_m_laws_szThunkS (d0:List DThunk) (d1:Int) (r:Int) (hm:m_laws_szThunkS d0 d1=some r) (v0:Value) (w:World) (hv0:Sl thunkRd 6 w v0 d0) :
    Calls Tryz.prog 56 #[v0,.int .i64 d1] w fun e w'=>e=.returned (.int .i64 r)∧Below w.heap.size w w':=by
  obtain ⟨Aa0,na0,ca0,rfl,ha0,ra0⟩:=hv0
  have ea0:=ha0.len; subst ea0
  have qa0:=len_le ra0
  have T:=Below.refl w.heap.size w
  unfold m_laws_szThunkS at hm
  refine enter 27 Tryz.func56 rfl rfl rfl ?_
  intro f hf
  have s0:f 0=.slice Aa0 d0.length ca0:=hf 0 _ rfl
  have s1:f 1=.int .i64 d1:=hf 1 _ rfl
  refine wp_seq<|wp_rs rfl<|RQ.y rfl (Y.assign (v:=.int .i64 0) rfl)<|RQ.nil<|then_n<|wp_seq<|wp_rs rfl<|RQ.y rfl (Y.move (v:=.int .i64 d1) s1)<|RQ.y rfl (Y.move (v:=.slice Aa0 d0.length ca0) s0)<|RQ.y rfl (Y.len (by kernel_rfl) rfl) ?_
  obtain ⟨s1,ks1,hm⟩:=bnd hm
  replace ks1:=ck_some ks1
  refine RQ.y rfl (Y.binI (v:=.int .i64 s1) rfl rfl (by rw [binI_sub ks1.2,ks1.1]))<|RQ.y rfl (Y.assign (v:=.int .i64 s1) rfl)<|RQ.nil<|then_n<|wp_seq<|wp_seq<|wp_rs rfl<|RQ.y rfl (Y.move (v:=.int .i64 s1) rfl)<|RQ.y rfl (Y.binI (v:=.bool (decide (s1 < 0))) rfl rfl rfl)<|RQ.nil<|then_n ?_
  rcases bcases (decide (s1 < 0)) with c2|c2
  ·replace hm:=cF c2 hm
   have pc2:=of_decide_eq_false c2
   refine cond_f rfl (vb rfl c2)<|wp_skip<|then_n<|wp_seq<|wp_seq<|wp_rs rfl<|RQ.y rfl (Y.assign (v:=.int .i64 0) rfl)<|RQ.nil<|then_n<|wp_block ?_
   obtain ⟨K1,hK1,hm⟩ :∃K,K=m_laws_szThunkS_A1∧m_laws_szThunkS_L1 d0 K (d0.length+1) s1 0=some r:=⟨_,rfl,hm⟩
   refine wp_loopX (fun g f w'=>∃(i5:Int) (i6:Int),f 0=.slice Aa0 d0.length ca0∧f 1=.int .i64 i5∧f 5=.int .i64 i6∧0≤i6∧Below w.heap.size w w'∧m_laws_szThunkS_L1 d0 K1 g i5 i6=some r) 0 (fun f w'=>∃(i3:Int),f 1=.int .i64 i3∧Below w.heap.size w w'∧m_laws_szThunkS_A1 i3=some r) (d0.length+1) ⟨s1,0,s0,rfl,rfl,(by omega),T,hm⟩ ?_ ?_
   ·rintro f w4 ⟨i3,s1_1x,T,hm⟩
    unfold m_laws_szThunkS_A1 at hm
    refine blk_hit (then_n ?_)
    refine wp_seq<|wp_rs rfl<|RQ.y rfl (Y.move (v:=.int .i64 i3) s1_1x)<|RQ.y rfl (Y.assign (v:=.int .i64 i3) rfl)<|RQ.nil<|then_n<|wp_ret ?_
    obtain rfl:=sj hm
    exact (ret1 rfl rfl rfl ⟨rfl,T⟩)
   rintro g f w7 ⟨i5,i6,s0_1,s1_1,s5_1,nn5_1,T,hm⟩
   rcases g with _|g
   ·simp only [m_laws_szThunkS_L1] at hm; cases hm
   obtain ⟨rec1,hrec1,hm⟩ :∃z,z=m_laws_szThunkS_L1 d0 K1 g∧m_laws_szThunkS_B1 d0 z K1 i5 i6=some r:=⟨_,rfl,hm⟩
   unfold m_laws_szThunkS_B1 at hm
   refine wp_seq<|wp_seq<|wp_rs rfl<|RQ.y rfl (Y.move (v:=.int .i64 i6) s5_1)<|RQ.y rfl (Y.move (v:=.slice Aa0 d0.length ca0) s0_1)<|RQ.y rfl (Y.len (by kernel_rfl) rfl)<|RQ.y rfl (Y.binI (v:=.bool (decide (i6 < (d0.length:Int)))) rfl rfl rfl)<|RQ.nil<|then_n ?_
   rcases bcases (decide (i6 < (d0.length:Int))) with c8|c8
   ·replace hm:=cF c8 hm
    have pc8:=of_decide_eq_false c8
    refine cond_f rfl (vb rfl c8)<|wp_exit ?_
    exact (then_x (then_x (hit_x ⟨_,rfl,⟨i5,s1_1,T,(by rw [hK1] at hm; exact hm)⟩⟩)))
   replace hm:=cT c8 hm
   have pc8:=of_decide_eq_true c8
   refine cond_t rfl (vb rfl c8)<|wp_skip<|then_n<|wp_seq<|wp_block<|wp_seq<|wp_rb rfl<|RQ.y rfl (Y.move (v:=.slice Aa0 d0.length ca0) s0_1)<|RQ.y rfl (Y.move (v:=.int .i64 i6) s5_1) ?_
   obtain ⟨x9,hx12,hm⟩:=bnd hm
   obtain ⟨k10,hk13,hl14,hx12⟩:=getI_some hx12
   obtain ⟨b16,o17,rfl,hbb16⟩:=ha0.addr (by omega)
   obtain ⟨cs11,hRcs11,hc15⟩:=ha0.el hx12
   have hScs11:=hRcs11
   obtain ⟨A18,n18,c18,A19,n19,c19,A20,n20,c20,rfl,⟨h18,r18⟩,⟨h19,r19⟩,⟨h20,r20⟩⟩:=hRcs11
   have e18:=h18.len; subst e18
   have q18:=len_le r18
   have e19:=h19.len; subst e19
   have q19:=len_le r19
   have e20:=h20.len; subst e20
   have q20:=len_le r20
   refine RQ.y rfl (Y.indexAddr (m:=k10) (sz:=6) rfl rfl hk13 hl14 (by kernel_rfl))<|RQ.y rfl (Y.loadN (cs:=[.bool x9.done,.int .i64 x9.closure.term.kind,.int .i64 x9.closure.term.value,.slice A18 x9.closure.term.data.length c18,.slice A19 x9.closure.term.kids.length c19,.slice A20 x9.closure.env.length c20]) rfl (by kernel_rfl) (cells6 (beC (cellT T (hc15 0 _ rfl))) (beC (cellT T (hc15 1 _ rfl))) (beC (cellT T (hc15 2 _ rfl))) (beC (cellT T (hc15 3 _ rfl))) (beC (cellT T (hc15 4 _ rfl))) (beC (cellT T (hc15 5 _ rfl)))))<|RQ.y rfl (Y.move (v:=.int .i64 i5) s1_1) ?_
   obtain ⟨y21,e22,hm⟩:=bnd hm
   refine RQ.call rfl (am2 rfl rfl) (by kernel_rfl) (v:=.int .i64 y21) (bel (K:=fun _=>True) fun w' hb'=>(c_m_laws_szThunk x9 i5 _ e22 _ w' (stArg (R:=thunkRd) ⟨_,_,_,_,_,_,_,_,_,rfl,⟨SlAt.now intRd_ok h18 (Nat.le_refl _) (Tt T hb'),r18⟩,⟨SlAt.now coreRd_ok h19 (Nat.le_refl _) (Tt T hb'),r19⟩,⟨SlAt.now intRd_ok h20 (Nat.le_refl _) (Tt T hb'),r20⟩⟩)))<|RQ.y rfl (Y.assign (v:=.int .i64 y21) rfl)<|RQ.nil ?_
   intro w23 hb24
   have szw23:=hb24.size
   have T:=Tt T hb24
   refine then_n<|wp_seq<|wp_rs rfl<|RQ.y rfl (Y.move (v:=.int .i64 y21) rfl)<|RQ.y rfl (Y.binI (v:=.bool (decide (y21 < 0))) rfl rfl rfl)<|RQ.nil<|then_n ?_
   rcases bcases (decide (y21 < 0)) with c25|c25
   ·replace hm:=cF c25 hm
    have pc25:=of_decide_eq_false c25
    refine cond_f rfl (vb rfl c25)<|wp_skip ?_
    refine blk_n (then_n ?_)
    refine wp_rs rfl<|RQ.y rfl (Y.move (v:=.int .i64 i6) s5_1)<|RQ.y rfl (Y.binI rfl rfl (binI_add (m:=i6) (by omega)))<|RQ.y rfl (Y.assign (v:=.int .i64 (i6+1)) rfl)<|RQ.nil ?_
    exact (then_n ⟨g,_,Nat.lt_succ_self _,rfl,⟨y21,(i6+1),s0_1,rfl,rfl,(by omega),T,(by rw [← hrec1]; exact hm)⟩⟩)
   replace hm:=cT c25 hm
   have pc25:=of_decide_eq_true c25
   refine cond_t rfl (vb rfl c25)<|wp_seq<|wp_rs rfl<|RQ.y rfl (Y.assign (v:=.int .i64 (-1)) rfl)<|RQ.nil<|then_n<|wp_ret ?_
   obtain rfl:=sj hm
   exact (blk_r (then_r (then_r (hit_r (blk_r (then_r (ret1 rfl rfl rfl ⟨rfl,T⟩)))))))
  replace hm:=cT c2 hm
  have pc2:=of_decide_eq_true c2
  refine cond_t rfl (vb rfl c2)<|wp_seq<|wp_rs rfl<|RQ.y rfl (Y.assign (v:=.int .i64 (-1)) rfl)<|RQ.nil<|then_n<|wp_ret ?_
  obtain rfl:=sj hm
  exact (then_r (ret1 rfl rfl rfl ⟨rfl,T⟩))
noncomputable def m_laws_szNeed (d0:DNeed) (d1:Int):Option Int:=
  ((m_laws_szClosure (⟨(⟨d0.control.term.kind,d0.control.term.value,d0.control.term.data,d0.control.term.kids⟩:DCore),d0.control.env⟩:DClosure) d1).bind fun y10=>(bif (decide (y10 < 0)) then some (-1) else ((m_laws_szFrameS d0.stack y10).bind fun y15=>(bif (decide (y15 < 0)) then some (-1) else ((m_laws_szThunkS d0.heap y15).bind fun y20=>(bif (decide (y20 < 0)) then some (-1) else some y20))))))
set_option maxHeartbeats 2000000 in
theorem c_m_laws_szNeed (d0:DNeed) (d1:Int) (r:Int) (hm:m_laws_szNeed d0 d1=some r) (v0:Value) (w:World) (hv0:St needRd w v0 d0) :
    Calls Tryz.prog 21 #[v0,.int .i64 d1] w fun e w'=>e=.returned (.int .i64 r)∧Below w.heap.size w w':=by
  obtain ⟨csa0,rfl,⟨A1,n1,c1,A2,n2,c2,A3,n3,c3,A4,n4,c4,A5,n5,c5,rfl,⟨h1,r1⟩,⟨h2,r2⟩,⟨h3,r3⟩,⟨h4,r4⟩,⟨h5,r5⟩⟩⟩:=hv0
  have e1:=h1.len; subst e1
  have q1:=len_le r1
  have e2:=h2.len; subst e2
  have q2:=len_le r2
  have e3:=h3.len; subst e3
  have q3:=len_le r3
  have e4:=h4.len; subst e4
  have q4:=len_le r4
  have e5:=h5.len; subst e5
  have q5:=len_le r5
  have T:=Below.refl w.heap.size w
  unfold m_laws_szNeed at hm
  refine enter 24 Tryz.func21 rfl rfl rfl ?_
  intro f hf
  have s0:f 0=.agg #[.int .i64 d0.control.term.kind,.int .i64 d0.control.term.value,.slice A1 d0.control.term.data.length c1,.slice A2 d0.control.term.kids.length c2,.slice A3 d0.control.env.length c3,.slice A4 d0.stack.length c4,.slice A5 d0.heap.length c5]:=hf 0 _ rfl
  have s1:f 1=.int .i64 d1:=hf 1 _ rfl
  refine wp_seq<|wp_rl rfl ?_
  refine RL.box rfl s0 (fun w6 B7 hb8 szw6=>?_)
  replace B7:Blk w6 w.heap.size 68 #[.int .i64 d0.control.term.kind,.int .i64 d0.control.term.value,.slice A1 d0.control.term.data.length c1,.slice A2 d0.control.term.kids.length c2,.slice A3 d0.control.env.length c3,.slice A4 d0.stack.length c4,.slice A5 d0.heap.length c5]:=B7
  have GB7:w.heap.size≤w.heap.size:=T.size
  have T:=Tt T hb8
  refine RL.y rfl (Y.assign (v:=.int .i64 0) rfl)<|RL.nil<|then_n<|wp_seq<|wp_rb rfl<|RQ.y rfl (Y.fieldAddr (off:=0) rfl (by kernel_rfl))<|RQ.y rfl (Y.loadN (cs:=[.int .i64 d0.control.term.kind,.int .i64 d0.control.term.value,.slice A1 d0.control.term.data.length c1,.slice A2 d0.control.term.kids.length c2,.slice A3 d0.control.env.length c3]) rfl (by kernel_rfl) (cells5 (beC (blkCell B7 (i:=0) rfl)) (beC (blkCell B7 (i:=1) rfl)) (beC (blkCell B7 (i:=2) rfl)) (beC (blkCell B7 (i:=3) rfl)) (beC (blkCell B7 (i:=4) rfl))))<|RQ.y rfl (Y.move (v:=.int .i64 d1) s1) ?_
  obtain ⟨y10,e11,hm⟩:=bnd hm
  refine RQ.call rfl (am2 rfl rfl) (by kernel_rfl) (v:=.int .i64 y10) (bel (K:=fun _=>True) fun w' hb'=>(c_m_laws_szClosure (⟨(⟨d0.control.term.kind,d0.control.term.value,d0.control.term.data,d0.control.term.kids⟩:DCore),d0.control.env⟩:DClosure) d1 _ e11 _ w' (stArg (R:=closureRd) ⟨_,_,_,_,_,_,_,_,_,rfl,⟨SlAt.now intRd_ok h1 (Nat.le_refl _) (Tt T hb'),r1⟩,⟨SlAt.now coreRd_ok h2 (Nat.le_refl _) (Tt T hb'),r2⟩,⟨SlAt.now intRd_ok h3 (Nat.le_refl _) (Tt T hb'),r3⟩⟩)))<|RQ.y rfl (Y.assign (v:=.int .i64 y10) rfl)<|RQ.nil ?_
  intro w12 hb13
  have szw12:=hb13.size
  have B7:=blkT B7 hb13
  have T:=Tt T hb13
  refine then_n<|wp_seq<|wp_seq<|wp_rs rfl<|RQ.y rfl (Y.move (v:=.int .i64 y10) rfl)<|RQ.y rfl (Y.binI (v:=.bool (decide (y10 < 0))) rfl rfl rfl)<|RQ.nil<|then_n ?_
  rcases bcases (decide (y10 < 0)) with c14|c14
  ·replace hm:=cF c14 hm
   have pc14:=of_decide_eq_false c14
   refine cond_f rfl (vb rfl c14)<|wp_skip<|then_n<|wp_seq<|wp_rb rfl<|RQ.y rfl (Y.fieldAddr (off:=5) rfl (by kernel_rfl))<|RQ.y rfl (Y.load (v:=.slice A4 d0.stack.length c4) rfl (by kernel_rfl) (beC (blkCell B7 (i:=5) rfl)))<|RQ.y rfl (Y.move (v:=.int .i64 y10) rfl) ?_
   obtain ⟨y15,e16,hm⟩:=bnd hm
   refine RQ.call rfl (am2 rfl rfl) (by kernel_rfl) (v:=.int .i64 y15) (bel (K:=fun _=>True) fun w' hb'=>(c_m_laws_szFrameS d0.stack y10 _ e16 _ w' (slArg frameRd_ok h4 r4 (Tt T hb'))))<|RQ.y rfl (Y.assign (v:=.int .i64 y15) rfl)<|RQ.nil ?_
   intro w17 hb18
   have szw17:=hb18.size
   have B7:=blkT B7 hb18
   have T:=Tt T hb18
   refine then_n<|wp_seq<|wp_seq<|wp_rs rfl<|RQ.y rfl (Y.move (v:=.int .i64 y15) rfl)<|RQ.y rfl (Y.binI (v:=.bool (decide (y15 < 0))) rfl rfl rfl)<|RQ.nil<|then_n ?_
   rcases bcases (decide (y15 < 0)) with c19|c19
   ·replace hm:=cF c19 hm
    have pc19:=of_decide_eq_false c19
    refine cond_f rfl (vb rfl c19)<|wp_skip<|then_n<|wp_seq<|wp_rb rfl<|RQ.y rfl (Y.fieldAddr (off:=6) rfl (by kernel_rfl))<|RQ.y rfl (Y.load (v:=.slice A5 d0.heap.length c5) rfl (by kernel_rfl) (beC (blkCell B7 (i:=6) rfl)))<|RQ.y rfl (Y.move (v:=.int .i64 y15) rfl) ?_
    obtain ⟨y20,e21,hm⟩:=bnd hm
    refine RQ.call rfl (am2 rfl rfl) (by kernel_rfl) (v:=.int .i64 y20) (bel (K:=fun _=>True) fun w' hb'=>(c_m_laws_szThunkS d0.heap y15 _ e21 _ w' (slArg thunkRd_ok h5 r5 (Tt T hb'))))<|RQ.y rfl (Y.assign (v:=.int .i64 y20) rfl)<|RQ.nil ?_
    intro w22 hb23
    have szw22:=hb23.size
    have T:=Tt T hb23
    refine then_n<|wp_seq<|wp_seq<|wp_rs rfl<|RQ.y rfl (Y.move (v:=.int .i64 y20) rfl)<|RQ.y rfl (Y.binI (v:=.bool (decide (y20 < 0))) rfl rfl rfl)<|RQ.nil<|then_n ?_
    rcases bcases (decide (y20 < 0)) with c24|c24
    ·replace hm:=cF c24 hm
     have pc24:=of_decide_eq_false c24
     refine cond_f rfl (vb rfl c24)<|wp_skip<|then_n<|wp_seq<|wp_rs rfl<|RQ.y rfl (Y.move (v:=.int .i64 y20) rfl)<|RQ.y rfl (Y.assign (v:=.int .i64 y20) rfl)<|RQ.nil<|then_n<|wp_ret ?_
     obtain rfl:=sj hm
     exact (ret1 rfl rfl rfl ⟨rfl,T⟩)
    replace hm:=cT c24 hm
    have pc24:=of_decide_eq_true c24
    refine cond_t rfl (vb rfl c24)<|wp_seq<|wp_rs rfl<|RQ.y rfl (Y.assign (v:=.int .i64 (-1)) rfl)<|RQ.nil<|then_n<|wp_ret ?_
    obtain rfl:=sj hm
    exact (then_r (ret1 rfl rfl rfl ⟨rfl,T⟩))
   replace hm:=cT c19 hm
   have pc19:=of_decide_eq_true c19
   refine cond_t rfl (vb rfl c19)<|wp_seq<|wp_rs rfl<|RQ.y rfl (Y.assign (v:=.int .i64 (-1)) rfl)<|RQ.nil<|then_n<|wp_ret ?_
   obtain rfl:=sj hm
   exact (then_r (ret1 rfl rfl rfl ⟨rfl,T⟩))
  replace hm:=cT c14 hm
  have pc14:=of_decide_eq_true c14
  refine cond_t rfl (vb rfl c14)<|wp_seq<|wp_rs rfl<|RQ.y rfl (Y.assign (v:=.int .i64 (-1)) rfl)<|RQ.nil<|then_n<|wp_ret ?_
  obtain rfl:=sj hm
  exact (then_r (ret1 rfl rfl rfl ⟨rfl,T⟩))
noncomputable def m_laws_eqInt64S_A1:Option Bool:=
  some true
noncomputable def m_laws_eqInt64S_B1 (d0:List Int) (d1:List Int) (rec1:Int→Option Bool) (K1:Option Bool) (i3:Int):Option Bool:=
  (bif (decide (i3 < (d0.length:Int))) then ((getI d0 i3).bind fun x6=>((getI d1 i3).bind fun x15=>(bif (x6 != x15) then some false else (rec1 (i3+1))))) else (K1))
noncomputable def m_laws_eqInt64S_L1 (d0:List Int) (d1:List Int) (K1:Option Bool):Nat→Int→Option Bool
  |0,_=>none
  |g+1,i3=>m_laws_eqInt64S_B1 d0 d1 (m_laws_eqInt64S_L1 d0 d1 K1 g) K1 i3
noncomputable def m_laws_eqInt64S (d0:List Int) (d1:List Int):Option Bool:=
  (bif ((d0.length:Int) != (d1.length:Int)) then some false else (m_laws_eqInt64S_L1 d0 d1 m_laws_eqInt64S_A1 (d0.length+1) 0))
set_option maxHeartbeats 2000000 in
theorem c_m_laws_eqInt64S (d0:List Int) (d1:List Int) (r:Bool) (hm:m_laws_eqInt64S d0 d1=some r) (v0:Value) (v1:Value) (w:World) (hv0:Sl intRd 1 w v0 d0) (hv1:Sl intRd 1 w v1 d1) :
    Calls Tryz.prog 26 #[v0,v1] w fun e w'=>e=.returned (.bool r)∧Below w.heap.size w w':=by
  obtain ⟨Aa0,na0,ca0,rfl,ha0,ra0⟩:=hv0
  have ea0:=ha0.len; subst ea0
  have qa0:=len_le ra0
  obtain ⟨Aa1,na1,ca1,rfl,ha1,ra1⟩:=hv1
  have ea1:=ha1.len; subst ea1
  have qa1:=len_le ra1
  have T:=Below.refl w.heap.size w
  unfold m_laws_eqInt64S at hm
  refine enter 26 Tryz.func26 rfl rfl rfl ?_
  intro f hf
  have s0:f 0=.slice Aa0 d0.length ca0:=hf 0 _ rfl
  have s1:f 1=.slice Aa1 d1.length ca1:=hf 1 _ rfl
  refine wp_seq<|wp_rs rfl<|RQ.y rfl (Y.assign (v:=.bool false) rfl)<|RQ.nil<|then_n<|wp_seq<|wp_seq<|wp_rs rfl<|RQ.y rfl (Y.move (v:=.slice Aa0 d0.length ca0) s0)<|RQ.y rfl (Y.len (by kernel_rfl) rfl)<|RQ.y rfl (Y.move (v:=.slice Aa1 d1.length ca1) s1)<|RQ.y rfl (Y.len (by kernel_rfl) rfl)<|RQ.y rfl (Y.binI (v:=.bool ((d0.length:Int) != (d1.length:Int))) rfl rfl rfl)<|RQ.nil<|then_n ?_
  rcases bcases ((d0.length:Int) != (d1.length:Int)) with c1|c1
  ·replace hm:=cF c1 hm
   refine cond_f rfl (vb rfl c1)<|wp_skip<|then_n<|wp_seq<|wp_seq<|wp_rs rfl<|RQ.y rfl (Y.assign (v:=.int .i64 0) rfl)<|RQ.nil<|then_n<|wp_block ?_
   obtain ⟨K1,hK1,hm⟩ :∃K,K=m_laws_eqInt64S_A1∧m_laws_eqInt64S_L1 d0 d1 K (d0.length+1) 0=some r:=⟨_,rfl,hm⟩
   refine wp_loopX (fun g f w'=>∃(i3:Int),f 0=.slice Aa0 d0.length ca0∧f 1=.slice Aa1 d1.length ca1∧f 5=.int .i64 i3∧0≤i3∧Below w.heap.size w w'∧m_laws_eqInt64S_L1 d0 d1 K1 g i3=some r) 0 (fun f w'=>Below w.heap.size w w'∧m_laws_eqInt64S_A1  = some r) (d0.length+1) ⟨0,s0,s1,rfl,(by omega),T,hm⟩ ?_ ?_
   ·rintro f w2 ⟨T,hm⟩
    unfold m_laws_eqInt64S_A1 at hm
    refine blk_hit (then_n ?_)
    refine wp_seq<|wp_rs rfl<|RQ.y rfl (Y.assign (v:=.bool true) rfl)<|RQ.nil<|then_n<|wp_ret ?_
    obtain rfl:=sj hm
    exact (ret1 rfl rfl rfl ⟨rfl,T⟩)
   rintro g f w4 ⟨i3,s0_1,s1_1,s5_1,nn5_1,T,hm⟩
   rcases g with _|g
   ·simp only [m_laws_eqInt64S_L1] at hm; cases hm
   obtain ⟨rec1,hrec1,hm⟩ :∃z,z=m_laws_eqInt64S_L1 d0 d1 K1 g∧m_laws_eqInt64S_B1 d0 d1 z K1 i3=some r:=⟨_,rfl,hm⟩
   unfold m_laws_eqInt64S_B1 at hm
   refine wp_seq<|wp_seq<|wp_rs rfl<|RQ.y rfl (Y.move (v:=.int .i64 i3) s5_1)<|RQ.y rfl (Y.move (v:=.slice Aa0 d0.length ca0) s0_1)<|RQ.y rfl (Y.len (by kernel_rfl) rfl)<|RQ.y rfl (Y.binI (v:=.bool (decide (i3 < (d0.length:Int)))) rfl rfl rfl)<|RQ.nil<|then_n ?_
   rcases bcases (decide (i3 < (d0.length:Int))) with c5|c5
   ·replace hm:=cF c5 hm
    have pc5:=of_decide_eq_false c5
    refine cond_f rfl (vb rfl c5)<|wp_exit ?_
    exact (then_x (then_x (hit_x ⟨_,rfl,⟨T,(by rw [hK1] at hm; exact hm)⟩⟩)))
   replace hm:=cT c5 hm
   have pc5:=of_decide_eq_true c5
   refine cond_t rfl (vb rfl c5)<|wp_skip<|then_n<|wp_seq<|wp_block<|wp_seq<|wp_rbd (by kernel_rfl) (by kernel_rfl)<|RQ.y rfl (Y.move (v:=.slice Aa0 d0.length ca0) s0_1)<|RQ.y rfl (Y.move (v:=.int .i64 i3) s5_1) ?_
   obtain ⟨x6,hx9,hm⟩:=bnd hm
   obtain ⟨k7,hk10,hl11,hx9⟩:=getI_some hx9
   obtain ⟨b13,o14,rfl,hbb13⟩:=ha0.addr (by omega)
   obtain ⟨cs8,hRcs8,hc12⟩:=ha0.el hx9
   have hScs8:=hRcs8
   obtain rfl:=hRcs8
   refine RQ.y rfl (Y.indexAddr (m:=k7) (sz:=1) rfl rfl hk10 hl11 (by kernel_rfl))<|RQ.y rfl (Y.load (v:=.int .i64 x6) rfl (by kernel_rfl) (beC (cellT T (hc12 0 _ rfl))))<|RQ.y rfl (Y.move (v:=.slice Aa1 d1.length ca1) s1_1)<|RQ.y rfl (Y.move (v:=.int .i64 i3) s5_1) ?_
   obtain ⟨x15,hx18,hm⟩:=bnd hm
   obtain ⟨k16,hk19,hl20,hx18⟩:=getI_some hx18
   obtain ⟨b22,o23,rfl,hbb22⟩:=ha1.addr (by omega)
   obtain ⟨cs17,hRcs17,hc21⟩:=ha1.el hx18
   have hScs17:=hRcs17
   obtain rfl:=hRcs17
   refine RQ.y rfl (Y.indexAddr (m:=k16) (sz:=1) rfl rfl hk19 hl20 (by kernel_rfl))<|RQ.y rfl (Y.load (v:=.int .i64 x15) rfl (by kernel_rfl) (beC (cellT T (hc21 0 _ rfl))))<|RQ.y rfl (Y.binI (v:=.bool (x6 != x15)) rfl rfl rfl)<|RQ.nil ?_
   intro w24 hb25
   have szw24:=hb25.size
   have T:=Tt T hb25
   refine then_n ?_
   rcases bcases (x6 != x15) with c26|c26
   ·replace hm:=cF c26 hm
    refine cond_f rfl (vb rfl c26)<|wp_skip ?_
    refine blk_n (then_n ?_)
    refine wp_rs rfl<|RQ.y rfl (Y.move (v:=.int .i64 i3) s5_1)<|RQ.y rfl (Y.binI rfl rfl (binI_add (m:=i3) (by omega)))<|RQ.y rfl (Y.assign (v:=.int .i64 (i3+1)) rfl)<|RQ.nil ?_
    exact (then_n ⟨g,_,Nat.lt_succ_self _,rfl,⟨(i3+1),s0_1,s1_1,rfl,(by omega),T,(by rw [← hrec1]; exact hm)⟩⟩)
   replace hm:=cT c26 hm
   refine cond_t rfl (vb rfl c26)<|wp_seq<|wp_rs rfl<|RQ.y rfl (Y.assign (v:=.bool false) rfl)<|RQ.nil<|then_n<|wp_ret ?_
   obtain rfl:=sj hm
   exact (blk_r (then_r (then_r (hit_r (blk_r (then_r (ret1 rfl rfl rfl ⟨rfl,T⟩)))))))
  replace hm:=cT c1 hm
  refine cond_t rfl (vb rfl c1)<|wp_seq<|wp_rs rfl<|RQ.y rfl (Y.assign (v:=.bool false) rfl)<|RQ.nil<|then_n<|wp_ret ?_
  obtain rfl:=sj hm
  exact (then_r (ret1 rfl rfl rfl ⟨rfl,T⟩))
noncomputable def m_laws_eqCoreS_A1:Option Bool:=
  some true
noncomputable def m_laws_eqCoreS_B1 (self1:DCore→DCore→Option Bool) (d0:List DCore) (d1:List DCore) (rec1:Int→Option Bool) (K1:Option Bool) (i3:Int):Option Bool:=
  (bif (decide (i3 < (d0.length:Int))) then ((getI d0 i3).bind fun x6=>((getI d1 i3).bind fun x17=>((self1 x6 x17).bind fun y28=>(bif y28 then (rec1 (i3+1)) else some false)))) else (K1))
noncomputable def m_laws_eqCoreS_L1 (self1:DCore→DCore→Option Bool) (d0:List DCore) (d1:List DCore) (K1:Option Bool):Nat→Int→Option Bool
  |0,_=>none
  |g+1,i3=>m_laws_eqCoreS_B1 self1 d0 d1 (m_laws_eqCoreS_L1 self1 d0 d1 K1 g) K1 i3
noncomputable def m_laws_eqCoreS_R (self0:(List DCore)→(List DCore)→Option Bool) (self1:DCore→DCore→Option Bool) (d0:List DCore) (d1:List DCore):Option Bool:=
  (bif ((d0.length:Int) != (d1.length:Int)) then some false else (m_laws_eqCoreS_L1 self1 d0 d1 m_laws_eqCoreS_A1 (d0.length+1) 0))
set_option maxHeartbeats 2000000 in
theorem c_m_laws_eqCoreS_S (self0:(List DCore)→(List DCore)→Option Bool) (self1:DCore→DCore→Option Bool) (ih0 :∀(d0:List DCore) (d1:List DCore) (r:Bool) (hm:self0 d0 d1=some r) (v0:Value) (v1:Value) (w:World) (hv0:Sl coreRd 4 w v0 d0) (hv1:Sl coreRd 4 w v1 d1),Calls Tryz.prog 65 #[v0,v1] w fun e w'=>e=.returned (.bool r)∧Below w.heap.size w w') (ih1 :∀(d0:DCore) (d1:DCore) (r:Bool) (hm:self1 d0 d1=some r) (v0:Value) (v1:Value) (w:World) (hv0:St coreRd w v0 d0) (hv1:St coreRd w v1 d1),Calls Tryz.prog 125 #[v0,v1] w fun e w'=>e=.returned (.bool r)∧Below w.heap.size w w') :∀(d0:List DCore) (d1:List DCore) (r:Bool) (hm:m_laws_eqCoreS_R self0 self1 d0 d1=some r) (v0:Value) (v1:Value) (w:World) (hv0:Sl coreRd 4 w v0 d0) (hv1:Sl coreRd 4 w v1 d1),
    Calls Tryz.prog 65 #[v0,v1] w fun e w'=>e=.returned (.bool r)∧Below w.heap.size w w':=by
  intro d0 d1 r hm v0 v1 w hv0 hv1
  obtain ⟨Aa0,na0,ca0,rfl,ha0,ra0⟩:=hv0
  have ea0:=ha0.len; subst ea0
  have qa0:=len_le ra0
  obtain ⟨Aa1,na1,ca1,rfl,ha1,ra1⟩:=hv1
  have ea1:=ha1.len; subst ea1
  have qa1:=len_le ra1
  have T:=Below.refl w.heap.size w
  unfold m_laws_eqCoreS_R at hm
  refine enter 27 Tryz.func65 rfl rfl rfl ?_
  intro f hf
  have s0:f 0=.slice Aa0 d0.length ca0:=hf 0 _ rfl
  have s1:f 1=.slice Aa1 d1.length ca1:=hf 1 _ rfl
  refine wp_seq<|wp_rs rfl<|RQ.y rfl (Y.assign (v:=.bool false) rfl)<|RQ.nil<|then_n<|wp_seq<|wp_seq<|wp_rs rfl<|RQ.y rfl (Y.move (v:=.slice Aa0 d0.length ca0) s0)<|RQ.y rfl (Y.len (by kernel_rfl) rfl)<|RQ.y rfl (Y.move (v:=.slice Aa1 d1.length ca1) s1)<|RQ.y rfl (Y.len (by kernel_rfl) rfl)<|RQ.y rfl (Y.binI (v:=.bool ((d0.length:Int) != (d1.length:Int))) rfl rfl rfl)<|RQ.nil<|then_n ?_
  rcases bcases ((d0.length:Int) != (d1.length:Int)) with c1|c1
  ·replace hm:=cF c1 hm
   refine cond_f rfl (vb rfl c1)<|wp_skip<|then_n<|wp_seq<|wp_seq<|wp_rs rfl<|RQ.y rfl (Y.assign (v:=.int .i64 0) rfl)<|RQ.nil<|then_n<|wp_block ?_
   obtain ⟨K1,hK1,hm⟩ :∃K,K=m_laws_eqCoreS_A1∧m_laws_eqCoreS_L1 self1 d0 d1 K (d0.length+1) 0=some r:=⟨_,rfl,hm⟩
   refine wp_loopX (fun g f w'=>∃(i3:Int),f 0=.slice Aa0 d0.length ca0∧f 1=.slice Aa1 d1.length ca1∧f 5=.int .i64 i3∧0≤i3∧Below w.heap.size w w'∧m_laws_eqCoreS_L1 self1 d0 d1 K1 g i3=some r) 0 (fun f w'=>Below w.heap.size w w'∧m_laws_eqCoreS_A1  = some r) (d0.length+1) ⟨0,s0,s1,rfl,(by omega),T,hm⟩ ?_ ?_
   ·rintro f w2 ⟨T,hm⟩
    unfold m_laws_eqCoreS_A1 at hm
    refine blk_hit (then_n ?_)
    refine wp_seq<|wp_rs rfl<|RQ.y rfl (Y.assign (v:=.bool true) rfl)<|RQ.nil<|then_n<|wp_ret ?_
    obtain rfl:=sj hm
    exact (ret1 rfl rfl rfl ⟨rfl,T⟩)
   rintro g f w4 ⟨i3,s0_1,s1_1,s5_1,nn5_1,T,hm⟩
   rcases g with _|g
   ·simp only [m_laws_eqCoreS_L1] at hm; cases hm
   obtain ⟨rec1,hrec1,hm⟩ :∃z,z=m_laws_eqCoreS_L1 self1 d0 d1 K1 g∧m_laws_eqCoreS_B1 self1 d0 d1 z K1 i3=some r:=⟨_,rfl,hm⟩
   unfold m_laws_eqCoreS_B1 at hm
   refine wp_seq<|wp_seq<|wp_rs rfl<|RQ.y rfl (Y.move (v:=.int .i64 i3) s5_1)<|RQ.y rfl (Y.move (v:=.slice Aa0 d0.length ca0) s0_1)<|RQ.y rfl (Y.len (by kernel_rfl) rfl)<|RQ.y rfl (Y.binI (v:=.bool (decide (i3 < (d0.length:Int)))) rfl rfl rfl)<|RQ.nil<|then_n ?_
   rcases bcases (decide (i3 < (d0.length:Int))) with c5|c5
   ·replace hm:=cF c5 hm
    have pc5:=of_decide_eq_false c5
    refine cond_f rfl (vb rfl c5)<|wp_exit ?_
    exact (then_x (then_x (hit_x ⟨_,rfl,⟨T,(by rw [hK1] at hm; exact hm)⟩⟩)))
   replace hm:=cT c5 hm
   have pc5:=of_decide_eq_true c5
   refine cond_t rfl (vb rfl c5)<|wp_skip<|then_n<|wp_seq<|wp_block<|wp_seq<|wp_rbd (by kernel_rfl) (by kernel_rfl)<|RQ.y rfl (Y.move (v:=.slice Aa0 d0.length ca0) s0_1)<|RQ.y rfl (Y.move (v:=.int .i64 i3) s5_1) ?_
   obtain ⟨x6,hx9,hm⟩:=bnd hm
   obtain ⟨k7,hk10,hl11,hx9⟩:=getI_some hx9
   obtain ⟨b13,o14,rfl,hbb13⟩:=ha0.addr (by omega)
   obtain ⟨cs8,hRcs8,hc12⟩:=ha0.el hx9
   have hScs8:=hRcs8
   obtain ⟨A15,n15,c15,A16,n16,c16,rfl,⟨h15,r15⟩,⟨h16,r16⟩⟩:=(coreRd_out hRcs8)
   have e15:=h15.len; subst e15
   have q15:=len_le r15
   have e16:=h16.len; subst e16
   have q16:=len_le r16
   refine RQ.y rfl (Y.indexAddr (m:=k7) (sz:=4) rfl rfl hk10 hl11 (by kernel_rfl))<|RQ.y rfl (Y.loadN (cs:=[.int .i64 x6.kind,.int .i64 x6.value,.slice A15 x6.data.length c15,.slice A16 x6.kids.length c16]) rfl (by kernel_rfl) (cells4 (beC (cellT T (hc12 0 _ rfl))) (beC (cellT T (hc12 1 _ rfl))) (beC (cellT T (hc12 2 _ rfl))) (beC (cellT T (hc12 3 _ rfl)))))<|RQ.y rfl (Y.move (v:=.slice Aa1 d1.length ca1) s1_1)<|RQ.y rfl (Y.move (v:=.int .i64 i3) s5_1) ?_
   obtain ⟨x17,hx20,hm⟩:=bnd hm
   obtain ⟨k18,hk21,hl22,hx20⟩:=getI_some hx20
   obtain ⟨b24,o25,rfl,hbb24⟩:=ha1.addr (by omega)
   obtain ⟨cs19,hRcs19,hc23⟩:=ha1.el hx20
   have hScs19:=hRcs19
   obtain ⟨A26,n26,c26,A27,n27,c27,rfl,⟨h26,r26⟩,⟨h27,r27⟩⟩:=(coreRd_out hRcs19)
   have e26:=h26.len; subst e26
   have q26:=len_le r26
   have e27:=h27.len; subst e27
   have q27:=len_le r27
   refine RQ.y rfl (Y.indexAddr (m:=k18) (sz:=4) rfl rfl hk21 hl22 (by kernel_rfl))<|RQ.y rfl (Y.loadN (cs:=[.int .i64 x17.kind,.int .i64 x17.value,.slice A26 x17.data.length c26,.slice A27 x17.kids.length c27]) rfl (by kernel_rfl) (cells4 (beC (cellT T (hc23 0 _ rfl))) (beC (cellT T (hc23 1 _ rfl))) (beC (cellT T (hc23 2 _ rfl))) (beC (cellT T (hc23 3 _ rfl))))) ?_
   obtain ⟨y28,e29,hm⟩:=bnd hm
   refine RQ.call rfl (am2 rfl rfl) (by kernel_rfl) (v:=.bool y28) (bel (K:=fun _=>True) fun w' hb'=>(ih1 x6 x17 _ e29 _ _ w' (stArg (R:=coreRd) (coreRd_in ⟨_,_,_,_,_,_,rfl,⟨SlAt.now intRd_ok h15 (Nat.le_refl _) (Tt T hb'),r15⟩,⟨SlAt.now coreRd_ok h16 (Nat.le_refl _) (Tt T hb'),r16⟩⟩)) (stArg (R:=coreRd) (coreRd_in ⟨_,_,_,_,_,_,rfl,⟨SlAt.now intRd_ok h26 (Nat.le_refl _) (Tt T hb'),r26⟩,⟨SlAt.now coreRd_ok h27 (Nat.le_refl _) (Tt T hb'),r27⟩⟩))))<|RQ.y rfl (Y.not (b':=(!y28)) rfl rfl)<|RQ.nil ?_
   intro w30 hb31
   have szw30:=hb31.size
   have T:=Tt T hb31
   refine then_n ?_
   rcases bcases y28 with c32|c32
   ·replace hm:=cF c32 hm
    refine cond_t rfl (vbn rfl c32 rfl)<|wp_seq<|wp_rs rfl<|RQ.y rfl (Y.assign (v:=.bool false) rfl)<|RQ.nil<|then_n<|wp_ret ?_
    obtain rfl:=sj hm
    exact (blk_r (then_r (then_r (hit_r (blk_r (then_r (ret1 rfl rfl rfl ⟨rfl,T⟩)))))))
   replace hm:=cT c32 hm
   refine cond_f rfl (vbn rfl c32 rfl)<|wp_skip ?_
   refine blk_n (then_n ?_)
   refine wp_rs rfl<|RQ.y rfl (Y.move (v:=.int .i64 i3) s5_1)<|RQ.y rfl (Y.binI rfl rfl (binI_add (m:=i3) (by omega)))<|RQ.y rfl (Y.assign (v:=.int .i64 (i3+1)) rfl)<|RQ.nil ?_
   exact (then_n ⟨g,_,Nat.lt_succ_self _,rfl,⟨(i3+1),s0_1,s1_1,rfl,(by omega),T,(by rw [← hrec1]; exact hm)⟩⟩)
  replace hm:=cT c1 hm
  refine cond_t rfl (vb rfl c1)<|wp_seq<|wp_rs rfl<|RQ.y rfl (Y.assign (v:=.bool false) rfl)<|RQ.nil<|then_n<|wp_ret ?_
  obtain rfl:=sj hm
  exact (then_r (ret1 rfl rfl rfl ⟨rfl,T⟩))
noncomputable def m_laws_eqCore_R (self0:(List DCore)→(List DCore)→Option Bool) (self1:DCore→DCore→Option Bool) (d0:DCore) (d1:DCore):Option Bool:=
  (bif (d0.kind != d1.kind) then some false else (bif (d0.value != d1.value) then some false else ((m_laws_eqInt64S d0.data d1.data).bind fun y15=>(bif y15 then ((self0 d0.kids d1.kids).bind fun y20=>(bif y20 then some true else some false)) else some false))))
set_option maxHeartbeats 2000000 in
theorem c_m_laws_eqCore_S (self0:(List DCore)→(List DCore)→Option Bool) (self1:DCore→DCore→Option Bool) (ih0 :∀(d0:List DCore) (d1:List DCore) (r:Bool) (hm:self0 d0 d1=some r) (v0:Value) (v1:Value) (w:World) (hv0:Sl coreRd 4 w v0 d0) (hv1:Sl coreRd 4 w v1 d1),Calls Tryz.prog 65 #[v0,v1] w fun e w'=>e=.returned (.bool r)∧Below w.heap.size w w') (ih1 :∀(d0:DCore) (d1:DCore) (r:Bool) (hm:self1 d0 d1=some r) (v0:Value) (v1:Value) (w:World) (hv0:St coreRd w v0 d0) (hv1:St coreRd w v1 d1),Calls Tryz.prog 125 #[v0,v1] w fun e w'=>e=.returned (.bool r)∧Below w.heap.size w w') :∀(d0:DCore) (d1:DCore) (r:Bool) (hm:m_laws_eqCore_R self0 self1 d0 d1=some r) (v0:Value) (v1:Value) (w:World) (hv0:St coreRd w v0 d0) (hv1:St coreRd w v1 d1),
    Calls Tryz.prog 125 #[v0,v1] w fun e w'=>e=.returned (.bool r)∧Below w.heap.size w w':=by
  intro d0 d1 r hm v0 v1 w hv0 hv1
  obtain ⟨csa0,rfl,hRR0⟩:=hv0
  obtain ⟨A1,n1,c1,A2,n2,c2,rfl,⟨h1,r1⟩,⟨h2,r2⟩⟩:=(coreRd_out hRR0)
  have e1:=h1.len; subst e1
  have q1:=len_le r1
  have e2:=h2.len; subst e2
  have q2:=len_le r2
  obtain ⟨csa1,rfl,hRR1⟩:=hv1
  obtain ⟨A3,n3,c3,A4,n4,c4,rfl,⟨h3,r3⟩,⟨h4,r4⟩⟩:=(coreRd_out hRR1)
  have e3:=h3.len; subst e3
  have q3:=len_le r3
  have e4:=h4.len; subst e4
  have q4:=len_le r4
  have T:=Below.refl w.heap.size w
  unfold m_laws_eqCore_R at hm
  refine enter 27 Tryz.func125 rfl rfl rfl ?_
  intro f hf
  have s0:f 0=.agg #[.int .i64 d0.kind,.int .i64 d0.value,.slice A1 d0.data.length c1,.slice A2 d0.kids.length c2]:=hf 0 _ rfl
  have s1:f 1=.agg #[.int .i64 d1.kind,.int .i64 d1.value,.slice A3 d1.data.length c3,.slice A4 d1.kids.length c4]:=hf 1 _ rfl
  refine wp_seq<|wp_rl rfl ?_
  refine RL.box rfl s0 (fun w5 B6 hb7 szw5=>?_)
  replace B6:Blk w5 w.heap.size 78 #[.int .i64 d0.kind,.int .i64 d0.value,.slice A1 d0.data.length c1,.slice A2 d0.kids.length c2]:=B6
  have GB6:w.heap.size≤w.heap.size:=T.size
  have T:=Tt T hb7
  refine RL.box rfl s1 (fun w9 B10 hb11 szw9=>?_)
  replace B10:Blk w9 w5.heap.size 78 #[.int .i64 d1.kind,.int .i64 d1.value,.slice A3 d1.data.length c3,.slice A4 d1.kids.length c4]:=B10
  have GB10:w.heap.size≤w5.heap.size:=T.size
  have Eob12_ob8:=Nat.ne_of_lt B6.lt
  have B6:=blkT B6 hb11
  have T:=Tt T hb11
  refine RL.y rfl (Y.assign (v:=.bool false) rfl)<|RL.nil<|then_n<|wp_seq<|wp_seq<|wp_rs rfl<|RQ.y rfl (Y.fieldAddr (off:=0) rfl (by kernel_rfl))<|RQ.y rfl (Y.load (v:=.int .i64 d0.kind) rfl (by kernel_rfl) (eqC (blkCell B6 (i:=0) rfl)))<|RQ.y rfl (Y.fieldAddr (off:=0) rfl (by kernel_rfl))<|RQ.y rfl (Y.load (v:=.int .i64 d1.kind) rfl (by kernel_rfl) (eqC (blkCell B10 (i:=0) rfl)))<|RQ.y rfl (Y.binI (v:=.bool (d0.kind != d1.kind)) rfl rfl rfl)<|RQ.nil<|then_n ?_
  rcases bcases (d0.kind != d1.kind) with c13|c13
  ·replace hm:=cF c13 hm
   refine cond_f rfl (vb rfl c13)<|wp_skip<|then_n<|wp_seq<|wp_seq<|wp_rs rfl<|RQ.y rfl (Y.fieldAddr (off:=1) rfl (by kernel_rfl))<|RQ.y rfl (Y.load (v:=.int .i64 d0.value) rfl (by kernel_rfl) (eqC (blkCell B6 (i:=1) rfl)))<|RQ.y rfl (Y.fieldAddr (off:=1) rfl (by kernel_rfl))<|RQ.y rfl (Y.load (v:=.int .i64 d1.value) rfl (by kernel_rfl) (eqC (blkCell B10 (i:=1) rfl)))<|RQ.y rfl (Y.binI (v:=.bool (d0.value != d1.value)) rfl rfl rfl)<|RQ.nil<|then_n ?_
   rcases bcases (d0.value != d1.value) with c14|c14
   ·replace hm:=cF c14 hm
    refine cond_f rfl (vb rfl c14)<|wp_skip<|then_n<|wp_seq<|wp_seq<|wp_rb rfl<|RQ.y rfl (Y.fieldAddr (off:=2) rfl (by kernel_rfl))<|RQ.y rfl (Y.load (v:=.slice A1 d0.data.length c1) rfl (by kernel_rfl) (beC (blkCell B6 (i:=2) rfl)))<|RQ.y rfl (Y.fieldAddr (off:=2) rfl (by kernel_rfl))<|RQ.y rfl (Y.load (v:=.slice A3 d1.data.length c3) rfl (by kernel_rfl) (beC (blkCell B10 (i:=2) rfl))) ?_
    obtain ⟨y15,e16,hm⟩:=bnd hm
    refine RQ.call rfl (am2 rfl rfl) (by kernel_rfl) (v:=.bool y15) (bel (K:=fun _=>True) fun w' hb'=>(c_m_laws_eqInt64S d0.data d1.data _ e16 _ _ w' (slArg intRd_ok h1 r1 (Tt T hb')) (slArg intRd_ok h3 r3 (Tt T hb'))))<|RQ.y rfl (Y.not (b':=(!y15)) rfl rfl)<|RQ.nil ?_
    intro w17 hb18
    have szw17:=hb18.size
    have B6:=blkT B6 hb18
    have B10:=blkT B10 hb18
    have T:=Tt T hb18
    refine then_n ?_
    rcases bcases y15 with c19|c19
    ·replace hm:=cF c19 hm
     refine cond_t rfl (vbn rfl c19 rfl)<|wp_seq<|wp_rs rfl<|RQ.y rfl (Y.assign (v:=.bool false) rfl)<|RQ.nil<|then_n<|wp_ret ?_
     obtain rfl:=sj hm
     exact (then_r (ret1 rfl rfl rfl ⟨rfl,T⟩))
    replace hm:=cT c19 hm
    refine cond_f rfl (vbn rfl c19 rfl)<|wp_skip<|then_n<|wp_seq<|wp_seq<|wp_rb rfl<|RQ.y rfl (Y.fieldAddr (off:=3) rfl (by kernel_rfl))<|RQ.y rfl (Y.load (v:=.slice A2 d0.kids.length c2) rfl (by kernel_rfl) (beC (blkCell B6 (i:=3) rfl)))<|RQ.y rfl (Y.fieldAddr (off:=3) rfl (by kernel_rfl))<|RQ.y rfl (Y.load (v:=.slice A4 d1.kids.length c4) rfl (by kernel_rfl) (beC (blkCell B10 (i:=3) rfl))) ?_
    obtain ⟨y20,e21,hm⟩:=bnd hm
    refine RQ.call rfl (am2 rfl rfl) (by kernel_rfl) (v:=.bool y20) (bel (K:=fun _=>True) fun w' hb'=>(ih0 d0.kids d1.kids _ e21 _ _ w' (slArg coreRd_ok h2 r2 (Tt T hb')) (slArg coreRd_ok h4 r4 (Tt T hb'))))<|RQ.y rfl (Y.not (b':=(!y20)) rfl rfl)<|RQ.nil ?_
    intro w22 hb23
    have szw22:=hb23.size
    have T:=Tt T hb23
    refine then_n ?_
    rcases bcases y20 with c24|c24
    ·replace hm:=cF c24 hm
     refine cond_t rfl (vbn rfl c24 rfl)<|wp_seq<|wp_rs rfl<|RQ.y rfl (Y.assign (v:=.bool false) rfl)<|RQ.nil<|then_n<|wp_ret ?_
     obtain rfl:=sj hm
     exact (then_r (ret1 rfl rfl rfl ⟨rfl,T⟩))
    replace hm:=cT c24 hm
    refine cond_f rfl (vbn rfl c24 rfl)<|wp_skip<|then_n<|wp_seq<|wp_rs rfl<|RQ.y rfl (Y.assign (v:=.bool true) rfl)<|RQ.nil<|then_n<|wp_ret ?_
    obtain rfl:=sj hm
    exact (ret1 rfl rfl rfl ⟨rfl,T⟩)
   replace hm:=cT c14 hm
   refine cond_t rfl (vb rfl c14)<|wp_seq<|wp_rs rfl<|RQ.y rfl (Y.assign (v:=.bool false) rfl)<|RQ.nil<|then_n<|wp_ret ?_
   obtain rfl:=sj hm
   exact (then_r (ret1 rfl rfl rfl ⟨rfl,T⟩))
  replace hm:=cT c13 hm
  refine cond_t rfl (vb rfl c13)<|wp_seq<|wp_rs rfl<|RQ.y rfl (Y.assign (v:=.bool false) rfl)<|RQ.nil<|then_n<|wp_ret ?_
  obtain rfl:=sj hm
  exact (then_r (ret1 rfl rfl rfl ⟨rfl,T⟩))
noncomputable def g_m_laws_eqCoreS:Nat→((List DCore)→(List DCore)→Option Bool) × (DCore→DCore→Option Bool)
  |0=>(fun _ _=>none,fun _ _=>none)
  |gas+1=>(m_laws_eqCoreS_R (g_m_laws_eqCoreS gas).1 (g_m_laws_eqCoreS gas).2,m_laws_eqCore_R (g_m_laws_eqCoreS gas).1 (g_m_laws_eqCoreS gas).2)
noncomputable def m_laws_eqCoreS (gas:Nat):(List DCore)→(List DCore)→Option Bool:=(g_m_laws_eqCoreS gas).1
noncomputable def m_laws_eqCore (gas:Nat):DCore→DCore→Option Bool:=(g_m_laws_eqCoreS gas).2
theorem c_g_m_laws_eqCoreS :∀gas:Nat,(∀(d0:List DCore) (d1:List DCore) (r:Bool) (hm:m_laws_eqCoreS gas d0 d1=some r) (v0:Value) (v1:Value) (w:World) (hv0:Sl coreRd 4 w v0 d0) (hv1:Sl coreRd 4 w v1 d1),Calls Tryz.prog 65 #[v0,v1] w fun e w'=>e=.returned (.bool r)∧Below w.heap.size w w')∧(∀(d0:DCore) (d1:DCore) (r:Bool) (hm:m_laws_eqCore gas d0 d1=some r) (v0:Value) (v1:Value) (w:World) (hv0:St coreRd w v0 d0) (hv1:St coreRd w v1 d1),Calls Tryz.prog 125 #[v0,v1] w fun e w'=>e=.returned (.bool r)∧Below w.heap.size w w'):=by
  intro gas
  induction gas with
  |zero=>exact ⟨(fun _ _ r hm=>by have h0:(none:Option _)=some r:=hm; cases h0),(fun _ _ r hm=>by have h0:(none:Option _)=some r:=hm; cases h0)⟩
  |succ gas ih=>exact ⟨c_m_laws_eqCoreS_S _ _ (ih).1 (ih).2,c_m_laws_eqCore_S _ _ (ih).1 (ih).2⟩
theorem c_m_laws_eqCoreS (gas : Nat) : ∀ (d0 : List DCore) (d1 : List DCore) (r : Bool) (hm : m_laws_eqCoreS gas d0 d1 = some r) (v0 : Value) (v1 : Value) (w : World) (hv0 : Sl coreRd 4 w v0 d0) (hv1 : Sl coreRd 4 w v1 d1), Calls Tryz.prog 65 #[v0, v1] w fun e w' => e = .returned (.bool r) ∧ Below w.heap.size w w' := (c_g_m_laws_eqCoreS gas).1
theorem c_m_laws_eqCore (gas : Nat) : ∀ (d0 : DCore) (d1 : DCore) (r : Bool) (hm : m_laws_eqCore gas d0 d1 = some r) (v0 : Value) (v1 : Value) (w : World) (hv0 : St coreRd w v0 d0) (hv1 : St coreRd w v1 d1), Calls Tryz.prog 125 #[v0, v1] w fun e w' => e = .returned (.bool r) ∧ Below w.heap.size w w' := (c_g_m_laws_eqCoreS gas).2
noncomputable def m_laws_eqBook (d0:DBook) (d1:DBook):Option Bool:=
  ((m_laws_eqCoreS (SizeOf.sizeOf d0.defs) d0.defs d1.defs).bind fun y11=>(bif y11 then some true else some false))
set_option maxHeartbeats 2000000 in
theorem c_m_laws_eqBook (d0:DBook) (d1:DBook) (r:Bool) (hm:m_laws_eqBook d0 d1=some r) (v0:Value) (v1:Value) (w:World) (hv0:St bookRd w v0 d0) (hv1:St bookRd w v1 d1) :
    Calls Tryz.prog 27 #[v0,v1] w fun e w'=>e=.returned (.bool r)∧Below w.heap.size w w':=by
  obtain ⟨csa0,rfl,⟨A1,n1,c1,rfl,⟨h1,r1⟩⟩⟩:=hv0
  have e1:=h1.len; subst e1
  have q1:=len_le r1
  obtain ⟨csa1,rfl,⟨A2,n2,c2,rfl,⟨h2,r2⟩⟩⟩:=hv1
  have e2:=h2.len; subst e2
  have q2:=len_le r2
  have T:=Below.refl w.heap.size w
  unfold m_laws_eqBook at hm
  refine enter 11 Tryz.func27 rfl rfl rfl ?_
  intro f hf
  have s0:f 0=.agg #[.slice A1 d0.defs.length c1]:=hf 0 _ rfl
  have s1:f 1=.agg #[.slice A2 d1.defs.length c2]:=hf 1 _ rfl
  refine wp_seq<|wp_rl rfl ?_
  refine RL.box rfl s0 (fun w3 B4 hb5 szw3=>?_)
  replace B4:Blk w3 w.heap.size 75 #[.slice A1 d0.defs.length c1]:=B4
  have GB4:w.heap.size≤w.heap.size:=T.size
  have T:=Tt T hb5
  refine RL.box rfl s1 (fun w7 B8 hb9 szw7=>?_)
  replace B8:Blk w7 w3.heap.size 75 #[.slice A2 d1.defs.length c2]:=B8
  have GB8:w.heap.size≤w3.heap.size:=T.size
  have Eob10_ob6:=Nat.ne_of_lt B4.lt
  have B4:=blkT B4 hb9
  have T:=Tt T hb9
  refine RL.y rfl (Y.assign (v:=.bool false) rfl)<|RL.nil<|then_n<|wp_seq<|wp_seq<|wp_rb rfl<|RQ.y rfl (Y.fieldAddr (off:=0) rfl (by kernel_rfl))<|RQ.y rfl (Y.load (v:=.slice A1 d0.defs.length c1) rfl (by kernel_rfl) (beC (blkCell B4 (i:=0) rfl)))<|RQ.y rfl (Y.fieldAddr (off:=0) rfl (by kernel_rfl))<|RQ.y rfl (Y.load (v:=.slice A2 d1.defs.length c2) rfl (by kernel_rfl) (beC (blkCell B8 (i:=0) rfl))) ?_
  obtain ⟨y11,e12,hm⟩:=bnd hm
  refine RQ.call rfl (am2 rfl rfl) (by kernel_rfl) (v:=.bool y11) (bel (K:=fun _=>True) fun w' hb'=>(c_m_laws_eqCoreS (SizeOf.sizeOf d0.defs) d0.defs d1.defs _ e12 _ _ w' (slArg coreRd_ok h1 r1 (Tt T hb')) (slArg coreRd_ok h2 r2 (Tt T hb'))))<|RQ.y rfl (Y.not (b':=(!y11)) rfl rfl)<|RQ.nil ?_
  intro w13 hb14
  have szw13:=hb14.size
  have T:=Tt T hb14
  refine then_n ?_
  rcases bcases y11 with c15|c15
  ·replace hm:=cF c15 hm
   refine cond_t rfl (vbn rfl c15 rfl)<|wp_seq<|wp_rs rfl<|RQ.y rfl (Y.assign (v:=.bool false) rfl)<|RQ.nil<|then_n<|wp_ret ?_
   obtain rfl:=sj hm
   exact (then_r (ret1 rfl rfl rfl ⟨rfl,T⟩))
  replace hm:=cT c15 hm
  refine cond_f rfl (vbn rfl c15 rfl)<|wp_skip<|then_n<|wp_seq<|wp_rs rfl<|RQ.y rfl (Y.assign (v:=.bool true) rfl)<|RQ.nil<|then_n<|wp_ret ?_
  obtain rfl:=sj hm
  exact (ret1 rfl rfl rfl ⟨rfl,T⟩)
noncomputable def m_laws_eqClosure (d0:DClosure) (d1:DClosure):Option Bool:=
  ((m_laws_eqCore (SizeOf.sizeOf (⟨d0.term.kind,d0.term.value,d0.term.data,d0.term.kids⟩:DCore)) (⟨d0.term.kind,d0.term.value,d0.term.data,d0.term.kids⟩:DCore) (⟨d1.term.kind,d1.term.value,d1.term.data,d1.term.kids⟩:DCore)).bind fun y15=>(bif y15 then ((m_laws_eqInt64S d0.env d1.env).bind fun y20=>(bif y20 then some true else some false)) else some false))
set_option maxHeartbeats 2000000 in
theorem c_m_laws_eqClosure (d0:DClosure) (d1:DClosure) (r:Bool) (hm:m_laws_eqClosure d0 d1=some r) (v0:Value) (v1:Value) (w:World) (hv0:St closureRd w v0 d0) (hv1:St closureRd w v1 d1) :
    Calls Tryz.prog 66 #[v0,v1] w fun e w'=>e=.returned (.bool r)∧Below w.heap.size w w':=by
  obtain ⟨csa0,rfl,⟨A1,n1,c1,A2,n2,c2,A3,n3,c3,rfl,⟨h1,r1⟩,⟨h2,r2⟩,⟨h3,r3⟩⟩⟩:=hv0
  have e1:=h1.len; subst e1
  have q1:=len_le r1
  have e2:=h2.len; subst e2
  have q2:=len_le r2
  have e3:=h3.len; subst e3
  have q3:=len_le r3
  obtain ⟨csa1,rfl,⟨A4,n4,c4,A5,n5,c5,A6,n6,c6,rfl,⟨h4,r4⟩,⟨h5,r5⟩,⟨h6,r6⟩⟩⟩:=hv1
  have e4:=h4.len; subst e4
  have q4:=len_le r4
  have e5:=h5.len; subst e5
  have q5:=len_le r5
  have e6:=h6.len; subst e6
  have q6:=len_le r6
  have T:=Below.refl w.heap.size w
  unfold m_laws_eqClosure at hm
  refine enter 17 Tryz.func66 rfl rfl rfl ?_
  intro f hf
  have s0:f 0=.agg #[.int .i64 d0.term.kind,.int .i64 d0.term.value,.slice A1 d0.term.data.length c1,.slice A2 d0.term.kids.length c2,.slice A3 d0.env.length c3]:=hf 0 _ rfl
  have s1:f 1=.agg #[.int .i64 d1.term.kind,.int .i64 d1.term.value,.slice A4 d1.term.data.length c4,.slice A5 d1.term.kids.length c5,.slice A6 d1.env.length c6]:=hf 1 _ rfl
  refine wp_seq<|wp_rl rfl ?_
  refine RL.box rfl s0 (fun w7 B8 hb9 szw7=>?_)
  replace B8:Blk w7 w.heap.size 80 #[.int .i64 d0.term.kind,.int .i64 d0.term.value,.slice A1 d0.term.data.length c1,.slice A2 d0.term.kids.length c2,.slice A3 d0.env.length c3]:=B8
  have GB8:w.heap.size≤w.heap.size:=T.size
  have T:=Tt T hb9
  refine RL.box rfl s1 (fun w11 B12 hb13 szw11=>?_)
  replace B12:Blk w11 w7.heap.size 80 #[.int .i64 d1.term.kind,.int .i64 d1.term.value,.slice A4 d1.term.data.length c4,.slice A5 d1.term.kids.length c5,.slice A6 d1.env.length c6]:=B12
  have GB12:w.heap.size≤w7.heap.size:=T.size
  have Eob14_ob10:=Nat.ne_of_lt B8.lt
  have B8:=blkT B8 hb13
  have T:=Tt T hb13
  refine RL.y rfl (Y.assign (v:=.bool false) rfl)<|RL.nil<|then_n<|wp_seq<|wp_seq<|wp_rb rfl<|RQ.y rfl (Y.fieldAddr (off:=0) rfl (by kernel_rfl))<|RQ.y rfl (Y.loadN (cs:=[.int .i64 d0.term.kind,.int .i64 d0.term.value,.slice A1 d0.term.data.length c1,.slice A2 d0.term.kids.length c2]) rfl (by kernel_rfl) (cells4 (beC (blkCell B8 (i:=0) rfl)) (beC (blkCell B8 (i:=1) rfl)) (beC (blkCell B8 (i:=2) rfl)) (beC (blkCell B8 (i:=3) rfl))))<|RQ.y rfl (Y.fieldAddr (off:=0) rfl (by kernel_rfl))<|RQ.y rfl (Y.loadN (cs:=[.int .i64 d1.term.kind,.int .i64 d1.term.value,.slice A4 d1.term.data.length c4,.slice A5 d1.term.kids.length c5]) rfl (by kernel_rfl) (cells4 (beC (blkCell B12 (i:=0) rfl)) (beC (blkCell B12 (i:=1) rfl)) (beC (blkCell B12 (i:=2) rfl)) (beC (blkCell B12 (i:=3) rfl)))) ?_
  obtain ⟨y15,e16,hm⟩:=bnd hm
  refine RQ.call rfl (am2 rfl rfl) (by kernel_rfl) (v:=.bool y15) (bel (K:=fun _=>True) fun w' hb'=>(c_m_laws_eqCore (SizeOf.sizeOf (⟨d0.term.kind,d0.term.value,d0.term.data,d0.term.kids⟩:DCore)) (⟨d0.term.kind,d0.term.value,d0.term.data,d0.term.kids⟩:DCore) (⟨d1.term.kind,d1.term.value,d1.term.data,d1.term.kids⟩:DCore) _ e16 _ _ w' (stArg (R:=coreRd) (coreRd_in ⟨_,_,_,_,_,_,rfl,⟨SlAt.now intRd_ok h1 (Nat.le_refl _) (Tt T hb'),r1⟩,⟨SlAt.now coreRd_ok h2 (Nat.le_refl _) (Tt T hb'),r2⟩⟩)) (stArg (R:=coreRd) (coreRd_in ⟨_,_,_,_,_,_,rfl,⟨SlAt.now intRd_ok h4 (Nat.le_refl _) (Tt T hb'),r4⟩,⟨SlAt.now coreRd_ok h5 (Nat.le_refl _) (Tt T hb'),r5⟩⟩))))<|RQ.y rfl (Y.not (b':=(!y15)) rfl rfl)<|RQ.nil ?_
  intro w17 hb18
  have szw17:=hb18.size
  have B8:=blkT B8 hb18
  have B12:=blkT B12 hb18
  have T:=Tt T hb18
  refine then_n ?_
  rcases bcases y15 with c19|c19
  ·replace hm:=cF c19 hm
   refine cond_t rfl (vbn rfl c19 rfl)<|wp_seq<|wp_rs rfl<|RQ.y rfl (Y.assign (v:=.bool false) rfl)<|RQ.nil<|then_n<|wp_ret ?_
   obtain rfl:=sj hm
   exact (then_r (ret1 rfl rfl rfl ⟨rfl,T⟩))
  replace hm:=cT c19 hm
  refine cond_f rfl (vbn rfl c19 rfl)<|wp_skip<|then_n<|wp_seq<|wp_seq<|wp_rb rfl<|RQ.y rfl (Y.fieldAddr (off:=4) rfl (by kernel_rfl))<|RQ.y rfl (Y.load (v:=.slice A3 d0.env.length c3) rfl (by kernel_rfl) (beC (blkCell B8 (i:=4) rfl)))<|RQ.y rfl (Y.fieldAddr (off:=4) rfl (by kernel_rfl))<|RQ.y rfl (Y.load (v:=.slice A6 d1.env.length c6) rfl (by kernel_rfl) (beC (blkCell B12 (i:=4) rfl))) ?_
  obtain ⟨y20,e21,hm⟩:=bnd hm
  refine RQ.call rfl (am2 rfl rfl) (by kernel_rfl) (v:=.bool y20) (bel (K:=fun _=>True) fun w' hb'=>(c_m_laws_eqInt64S d0.env d1.env _ e21 _ _ w' (slArg intRd_ok h3 r3 (Tt T hb')) (slArg intRd_ok h6 r6 (Tt T hb'))))<|RQ.y rfl (Y.not (b':=(!y20)) rfl rfl)<|RQ.nil ?_
  intro w22 hb23
  have szw22:=hb23.size
  have T:=Tt T hb23
  refine then_n ?_
  rcases bcases y20 with c24|c24
  ·replace hm:=cF c24 hm
   refine cond_t rfl (vbn rfl c24 rfl)<|wp_seq<|wp_rs rfl<|RQ.y rfl (Y.assign (v:=.bool false) rfl)<|RQ.nil<|then_n<|wp_ret ?_
   obtain rfl:=sj hm
   exact (then_r (ret1 rfl rfl rfl ⟨rfl,T⟩))
  replace hm:=cT c24 hm
  refine cond_f rfl (vbn rfl c24 rfl)<|wp_skip<|then_n<|wp_seq<|wp_rs rfl<|RQ.y rfl (Y.assign (v:=.bool true) rfl)<|RQ.nil<|then_n<|wp_ret ?_
  obtain rfl:=sj hm
  exact (ret1 rfl rfl rfl ⟨rfl,T⟩)
noncomputable def m_laws_eqFrame (d0:DFrame) (d1:DFrame):Option Bool:=
  (bif (d0.kind != d1.kind) then some false else (bif (d0.value != d1.value) then some false else ((m_laws_eqInt64S d0.data d1.data).bind fun y19=>(bif y19 then ((m_laws_eqClosure (⟨(⟨d0.closure.term.kind,d0.closure.term.value,d0.closure.term.data,d0.closure.term.kids⟩:DCore),d0.closure.env⟩:DClosure) (⟨(⟨d1.closure.term.kind,d1.closure.term.value,d1.closure.term.data,d1.closure.term.kids⟩:DCore),d1.closure.env⟩:DClosure)).bind fun y24=>(bif y24 then some true else some false)) else some false))))
set_option maxHeartbeats 2000000 in
theorem c_m_laws_eqFrame (d0:DFrame) (d1:DFrame) (r:Bool) (hm:m_laws_eqFrame d0 d1=some r) (v0:Value) (v1:Value) (w:World) (hv0:St frameRd w v0 d0) (hv1:St frameRd w v1 d1) :
    Calls Tryz.prog 126 #[v0,v1] w fun e w'=>e=.returned (.bool r)∧Below w.heap.size w w':=by
  obtain ⟨csa0,rfl,⟨A1,n1,c1,A2,n2,c2,A3,n3,c3,A4,n4,c4,rfl,⟨h1,r1⟩,⟨h2,r2⟩,⟨h3,r3⟩,⟨h4,r4⟩⟩⟩:=hv0
  have e1:=h1.len; subst e1
  have q1:=len_le r1
  have e2:=h2.len; subst e2
  have q2:=len_le r2
  have e3:=h3.len; subst e3
  have q3:=len_le r3
  have e4:=h4.len; subst e4
  have q4:=len_le r4
  obtain ⟨csa1,rfl,⟨A5,n5,c5,A6,n6,c6,A7,n7,c7,A8,n8,c8,rfl,⟨h5,r5⟩,⟨h6,r6⟩,⟨h7,r7⟩,⟨h8,r8⟩⟩⟩:=hv1
  have e5:=h5.len; subst e5
  have q5:=len_le r5
  have e6:=h6.len; subst e6
  have q6:=len_le r6
  have e7:=h7.len; subst e7
  have q7:=len_le r7
  have e8:=h8.len; subst e8
  have q8:=len_le r8
  have T:=Below.refl w.heap.size w
  unfold m_laws_eqFrame at hm
  refine enter 27 Tryz.func126 rfl rfl rfl ?_
  intro f hf
  have s0:f 0=.agg #[.int .i64 d0.kind,.int .i64 d0.value,.slice A1 d0.data.length c1,.int .i64 d0.closure.term.kind,.int .i64 d0.closure.term.value,.slice A2 d0.closure.term.data.length c2,.slice A3 d0.closure.term.kids.length c3,.slice A4 d0.closure.env.length c4]:=hf 0 _ rfl
  have s1:f 1=.agg #[.int .i64 d1.kind,.int .i64 d1.value,.slice A5 d1.data.length c5,.int .i64 d1.closure.term.kind,.int .i64 d1.closure.term.value,.slice A6 d1.closure.term.data.length c6,.slice A7 d1.closure.term.kids.length c7,.slice A8 d1.closure.env.length c8]:=hf 1 _ rfl
  refine wp_seq<|wp_rl rfl ?_
  refine RL.box rfl s0 (fun w9 B10 hb11 szw9=>?_)
  replace B10:Blk w9 w.heap.size 145 #[.int .i64 d0.kind,.int .i64 d0.value,.slice A1 d0.data.length c1,.int .i64 d0.closure.term.kind,.int .i64 d0.closure.term.value,.slice A2 d0.closure.term.data.length c2,.slice A3 d0.closure.term.kids.length c3,.slice A4 d0.closure.env.length c4]:=B10
  have GB10:w.heap.size≤w.heap.size:=T.size
  have T:=Tt T hb11
  refine RL.box rfl s1 (fun w13 B14 hb15 szw13=>?_)
  replace B14:Blk w13 w9.heap.size 145 #[.int .i64 d1.kind,.int .i64 d1.value,.slice A5 d1.data.length c5,.int .i64 d1.closure.term.kind,.int .i64 d1.closure.term.value,.slice A6 d1.closure.term.data.length c6,.slice A7 d1.closure.term.kids.length c7,.slice A8 d1.closure.env.length c8]:=B14
  have GB14:w.heap.size≤w9.heap.size:=T.size
  have Eob16_ob12:=Nat.ne_of_lt B10.lt
  have B10:=blkT B10 hb15
  have T:=Tt T hb15
  refine RL.y rfl (Y.assign (v:=.bool false) rfl)<|RL.nil<|then_n<|wp_seq<|wp_seq<|wp_rs rfl<|RQ.y rfl (Y.fieldAddr (off:=0) rfl (by kernel_rfl))<|RQ.y rfl (Y.load (v:=.int .i64 d0.kind) rfl (by kernel_rfl) (eqC (blkCell B10 (i:=0) rfl)))<|RQ.y rfl (Y.fieldAddr (off:=0) rfl (by kernel_rfl))<|RQ.y rfl (Y.load (v:=.int .i64 d1.kind) rfl (by kernel_rfl) (eqC (blkCell B14 (i:=0) rfl)))<|RQ.y rfl (Y.binI (v:=.bool (d0.kind != d1.kind)) rfl rfl rfl)<|RQ.nil<|then_n ?_
  rcases bcases (d0.kind != d1.kind) with c17|c17
  ·replace hm:=cF c17 hm
   refine cond_f rfl (vb rfl c17)<|wp_skip<|then_n<|wp_seq<|wp_seq<|wp_rs rfl<|RQ.y rfl (Y.fieldAddr (off:=1) rfl (by kernel_rfl))<|RQ.y rfl (Y.load (v:=.int .i64 d0.value) rfl (by kernel_rfl) (eqC (blkCell B10 (i:=1) rfl)))<|RQ.y rfl (Y.fieldAddr (off:=1) rfl (by kernel_rfl))<|RQ.y rfl (Y.load (v:=.int .i64 d1.value) rfl (by kernel_rfl) (eqC (blkCell B14 (i:=1) rfl)))<|RQ.y rfl (Y.binI (v:=.bool (d0.value != d1.value)) rfl rfl rfl)<|RQ.nil<|then_n ?_
   rcases bcases (d0.value != d1.value) with c18|c18
   ·replace hm:=cF c18 hm
    refine cond_f rfl (vb rfl c18)<|wp_skip<|then_n<|wp_seq<|wp_seq<|wp_rb rfl<|RQ.y rfl (Y.fieldAddr (off:=2) rfl (by kernel_rfl))<|RQ.y rfl (Y.load (v:=.slice A1 d0.data.length c1) rfl (by kernel_rfl) (beC (blkCell B10 (i:=2) rfl)))<|RQ.y rfl (Y.fieldAddr (off:=2) rfl (by kernel_rfl))<|RQ.y rfl (Y.load (v:=.slice A5 d1.data.length c5) rfl (by kernel_rfl) (beC (blkCell B14 (i:=2) rfl))) ?_
    obtain ⟨y19,e20,hm⟩:=bnd hm
    refine RQ.call rfl (am2 rfl rfl) (by kernel_rfl) (v:=.bool y19) (bel (K:=fun _=>True) fun w' hb'=>(c_m_laws_eqInt64S d0.data d1.data _ e20 _ _ w' (slArg intRd_ok h1 r1 (Tt T hb')) (slArg intRd_ok h5 r5 (Tt T hb'))))<|RQ.y rfl (Y.not (b':=(!y19)) rfl rfl)<|RQ.nil ?_
    intro w21 hb22
    have szw21:=hb22.size
    have B10:=blkT B10 hb22
    have B14:=blkT B14 hb22
    have T:=Tt T hb22
    refine then_n ?_
    rcases bcases y19 with c23|c23
    ·replace hm:=cF c23 hm
     refine cond_t rfl (vbn rfl c23 rfl)<|wp_seq<|wp_rs rfl<|RQ.y rfl (Y.assign (v:=.bool false) rfl)<|RQ.nil<|then_n<|wp_ret ?_
     obtain rfl:=sj hm
     exact (then_r (ret1 rfl rfl rfl ⟨rfl,T⟩))
    replace hm:=cT c23 hm
    refine cond_f rfl (vbn rfl c23 rfl)<|wp_skip<|then_n<|wp_seq<|wp_seq<|wp_rb rfl<|RQ.y rfl (Y.fieldAddr (off:=3) rfl (by kernel_rfl))<|RQ.y rfl (Y.loadN (cs:=[.int .i64 d0.closure.term.kind,.int .i64 d0.closure.term.value,.slice A2 d0.closure.term.data.length c2,.slice A3 d0.closure.term.kids.length c3,.slice A4 d0.closure.env.length c4]) rfl (by kernel_rfl) (cells5 (beC (blkCell B10 (i:=3) rfl)) (beC (blkCell B10 (i:=4) rfl)) (beC (blkCell B10 (i:=5) rfl)) (beC (blkCell B10 (i:=6) rfl)) (beC (blkCell B10 (i:=7) rfl))))<|RQ.y rfl (Y.fieldAddr (off:=3) rfl (by kernel_rfl))<|RQ.y rfl (Y.loadN (cs:=[.int .i64 d1.closure.term.kind,.int .i64 d1.closure.term.value,.slice A6 d1.closure.term.data.length c6,.slice A7 d1.closure.term.kids.length c7,.slice A8 d1.closure.env.length c8]) rfl (by kernel_rfl) (cells5 (beC (blkCell B14 (i:=3) rfl)) (beC (blkCell B14 (i:=4) rfl)) (beC (blkCell B14 (i:=5) rfl)) (beC (blkCell B14 (i:=6) rfl)) (beC (blkCell B14 (i:=7) rfl)))) ?_
    obtain ⟨y24,e25,hm⟩:=bnd hm
    refine RQ.call rfl (am2 rfl rfl) (by kernel_rfl) (v:=.bool y24) (bel (K:=fun _=>True) fun w' hb'=>(c_m_laws_eqClosure (⟨(⟨d0.closure.term.kind,d0.closure.term.value,d0.closure.term.data,d0.closure.term.kids⟩:DCore),d0.closure.env⟩:DClosure) (⟨(⟨d1.closure.term.kind,d1.closure.term.value,d1.closure.term.data,d1.closure.term.kids⟩:DCore),d1.closure.env⟩:DClosure) _ e25 _ _ w' (stArg (R:=closureRd) ⟨_,_,_,_,_,_,_,_,_,rfl,⟨SlAt.now intRd_ok h2 (Nat.le_refl _) (Tt T hb'),r2⟩,⟨SlAt.now coreRd_ok h3 (Nat.le_refl _) (Tt T hb'),r3⟩,⟨SlAt.now intRd_ok h4 (Nat.le_refl _) (Tt T hb'),r4⟩⟩) (stArg (R:=closureRd) ⟨_,_,_,_,_,_,_,_,_,rfl,⟨SlAt.now intRd_ok h6 (Nat.le_refl _) (Tt T hb'),r6⟩,⟨SlAt.now coreRd_ok h7 (Nat.le_refl _) (Tt T hb'),r7⟩,⟨SlAt.now intRd_ok h8 (Nat.le_refl _) (Tt T hb'),r8⟩⟩)))<|RQ.y rfl (Y.not (b':=(!y24)) rfl rfl)<|RQ.nil ?_
    intro w26 hb27
    have szw26:=hb27.size
    have T:=Tt T hb27
    refine then_n ?_
    rcases bcases y24 with c28|c28
    ·replace hm:=cF c28 hm
     refine cond_t rfl (vbn rfl c28 rfl)<|wp_seq<|wp_rs rfl<|RQ.y rfl (Y.assign (v:=.bool false) rfl)<|RQ.nil<|then_n<|wp_ret ?_
     obtain rfl:=sj hm
     exact (then_r (ret1 rfl rfl rfl ⟨rfl,T⟩))
    replace hm:=cT c28 hm
    refine cond_f rfl (vbn rfl c28 rfl)<|wp_skip<|then_n<|wp_seq<|wp_rs rfl<|RQ.y rfl (Y.assign (v:=.bool true) rfl)<|RQ.nil<|then_n<|wp_ret ?_
    obtain rfl:=sj hm
    exact (ret1 rfl rfl rfl ⟨rfl,T⟩)
   replace hm:=cT c18 hm
   refine cond_t rfl (vb rfl c18)<|wp_seq<|wp_rs rfl<|RQ.y rfl (Y.assign (v:=.bool false) rfl)<|RQ.nil<|then_n<|wp_ret ?_
   obtain rfl:=sj hm
   exact (then_r (ret1 rfl rfl rfl ⟨rfl,T⟩))
  replace hm:=cT c17 hm
  refine cond_t rfl (vb rfl c17)<|wp_seq<|wp_rs rfl<|RQ.y rfl (Y.assign (v:=.bool false) rfl)<|RQ.nil<|then_n<|wp_ret ?_
  obtain rfl:=sj hm
  exact (then_r (ret1 rfl rfl rfl ⟨rfl,T⟩))
noncomputable def m_laws_eqFrameS_A1:Option Bool:=
  some true
noncomputable def m_laws_eqFrameS_B1 (d0:List DFrame) (d1:List DFrame) (rec1:Int→Option Bool) (K1:Option Bool) (i3:Int):Option Bool:=
  (bif (decide (i3 < (d0.length:Int))) then ((getI d0 i3).bind fun x6=>((getI d1 i3).bind fun x19=>((m_laws_eqFrame x6 x19).bind fun y32=>(bif y32 then (rec1 (i3+1)) else some false)))) else (K1))
noncomputable def m_laws_eqFrameS_L1 (d0:List DFrame) (d1:List DFrame) (K1:Option Bool):Nat→Int→Option Bool
  |0,_=>none
  |g+1,i3=>m_laws_eqFrameS_B1 d0 d1 (m_laws_eqFrameS_L1 d0 d1 K1 g) K1 i3
noncomputable def m_laws_eqFrameS (d0:List DFrame) (d1:List DFrame):Option Bool:=
  (bif ((d0.length:Int) != (d1.length:Int)) then some false else (m_laws_eqFrameS_L1 d0 d1 m_laws_eqFrameS_A1 (d0.length+1) 0))
set_option maxHeartbeats 2000000 in
theorem c_m_laws_eqFrameS (d0:List DFrame) (d1:List DFrame) (r:Bool) (hm:m_laws_eqFrameS d0 d1=some r) (v0:Value) (v1:Value) (w:World) (hv0:Sl frameRd 8 w v0 d0) (hv1:Sl frameRd 8 w v1 d1) :
    Calls Tryz.prog 67 #[v0,v1] w fun e w'=>e=.returned (.bool r)∧Below w.heap.size w w':=by
  obtain ⟨Aa0,na0,ca0,rfl,ha0,ra0⟩:=hv0
  have ea0:=ha0.len; subst ea0
  have qa0:=len_le ra0
  obtain ⟨Aa1,na1,ca1,rfl,ha1,ra1⟩:=hv1
  have ea1:=ha1.len; subst ea1
  have qa1:=len_le ra1
  have T:=Below.refl w.heap.size w
  unfold m_laws_eqFrameS at hm
  refine enter 27 Tryz.func67 rfl rfl rfl ?_
  intro f hf
  have s0:f 0=.slice Aa0 d0.length ca0:=hf 0 _ rfl
  have s1:f 1=.slice Aa1 d1.length ca1:=hf 1 _ rfl
  refine wp_seq<|wp_rs rfl<|RQ.y rfl (Y.assign (v:=.bool false) rfl)<|RQ.nil<|then_n<|wp_seq<|wp_seq<|wp_rs rfl<|RQ.y rfl (Y.move (v:=.slice Aa0 d0.length ca0) s0)<|RQ.y rfl (Y.len (by kernel_rfl) rfl)<|RQ.y rfl (Y.move (v:=.slice Aa1 d1.length ca1) s1)<|RQ.y rfl (Y.len (by kernel_rfl) rfl)<|RQ.y rfl (Y.binI (v:=.bool ((d0.length:Int) != (d1.length:Int))) rfl rfl rfl)<|RQ.nil<|then_n ?_
  rcases bcases ((d0.length:Int) != (d1.length:Int)) with c1|c1
  ·replace hm:=cF c1 hm
   refine cond_f rfl (vb rfl c1)<|wp_skip<|then_n<|wp_seq<|wp_seq<|wp_rs rfl<|RQ.y rfl (Y.assign (v:=.int .i64 0) rfl)<|RQ.nil<|then_n<|wp_block ?_
   obtain ⟨K1,hK1,hm⟩ :∃K,K=m_laws_eqFrameS_A1∧m_laws_eqFrameS_L1 d0 d1 K (d0.length+1) 0=some r:=⟨_,rfl,hm⟩
   refine wp_loopX (fun g f w'=>∃(i3:Int),f 0=.slice Aa0 d0.length ca0∧f 1=.slice Aa1 d1.length ca1∧f 5=.int .i64 i3∧0≤i3∧Below w.heap.size w w'∧m_laws_eqFrameS_L1 d0 d1 K1 g i3=some r) 0 (fun f w'=>Below w.heap.size w w'∧m_laws_eqFrameS_A1  = some r) (d0.length+1) ⟨0,s0,s1,rfl,(by omega),T,hm⟩ ?_ ?_
   ·rintro f w2 ⟨T,hm⟩
    unfold m_laws_eqFrameS_A1 at hm
    refine blk_hit (then_n ?_)
    refine wp_seq<|wp_rs rfl<|RQ.y rfl (Y.assign (v:=.bool true) rfl)<|RQ.nil<|then_n<|wp_ret ?_
    obtain rfl:=sj hm
    exact (ret1 rfl rfl rfl ⟨rfl,T⟩)
   rintro g f w4 ⟨i3,s0_1,s1_1,s5_1,nn5_1,T,hm⟩
   rcases g with _|g
   ·simp only [m_laws_eqFrameS_L1] at hm; cases hm
   obtain ⟨rec1,hrec1,hm⟩ :∃z,z=m_laws_eqFrameS_L1 d0 d1 K1 g∧m_laws_eqFrameS_B1 d0 d1 z K1 i3=some r:=⟨_,rfl,hm⟩
   unfold m_laws_eqFrameS_B1 at hm
   refine wp_seq<|wp_seq<|wp_rs rfl<|RQ.y rfl (Y.move (v:=.int .i64 i3) s5_1)<|RQ.y rfl (Y.move (v:=.slice Aa0 d0.length ca0) s0_1)<|RQ.y rfl (Y.len (by kernel_rfl) rfl)<|RQ.y rfl (Y.binI (v:=.bool (decide (i3 < (d0.length:Int)))) rfl rfl rfl)<|RQ.nil<|then_n ?_
   rcases bcases (decide (i3 < (d0.length:Int))) with c5|c5
   ·replace hm:=cF c5 hm
    have pc5:=of_decide_eq_false c5
    refine cond_f rfl (vb rfl c5)<|wp_exit ?_
    exact (then_x (then_x (hit_x ⟨_,rfl,⟨T,(by rw [hK1] at hm; exact hm)⟩⟩)))
   replace hm:=cT c5 hm
   have pc5:=of_decide_eq_true c5
   refine cond_t rfl (vb rfl c5)<|wp_skip<|then_n<|wp_seq<|wp_block<|wp_seq<|wp_rbd (by kernel_rfl) (by kernel_rfl)<|RQ.y rfl (Y.move (v:=.slice Aa0 d0.length ca0) s0_1)<|RQ.y rfl (Y.move (v:=.int .i64 i3) s5_1) ?_
   obtain ⟨x6,hx9,hm⟩:=bnd hm
   obtain ⟨k7,hk10,hl11,hx9⟩:=getI_some hx9
   obtain ⟨b13,o14,rfl,hbb13⟩:=ha0.addr (by omega)
   obtain ⟨cs8,hRcs8,hc12⟩:=ha0.el hx9
   have hScs8:=hRcs8
   obtain ⟨A15,n15,c15,A16,n16,c16,A17,n17,c17,A18,n18,c18,rfl,⟨h15,r15⟩,⟨h16,r16⟩,⟨h17,r17⟩,⟨h18,r18⟩⟩:=hRcs8
   have e15:=h15.len; subst e15
   have q15:=len_le r15
   have e16:=h16.len; subst e16
   have q16:=len_le r16
   have e17:=h17.len; subst e17
   have q17:=len_le r17
   have e18:=h18.len; subst e18
   have q18:=len_le r18
   refine RQ.y rfl (Y.indexAddr (m:=k7) (sz:=8) rfl rfl hk10 hl11 (by kernel_rfl))<|RQ.y rfl (Y.loadN (cs:=[.int .i64 x6.kind,.int .i64 x6.value,.slice A15 x6.data.length c15,.int .i64 x6.closure.term.kind,.int .i64 x6.closure.term.value,.slice A16 x6.closure.term.data.length c16,.slice A17 x6.closure.term.kids.length c17,.slice A18 x6.closure.env.length c18]) rfl (by kernel_rfl) (cells8 (beC (cellT T (hc12 0 _ rfl))) (beC (cellT T (hc12 1 _ rfl))) (beC (cellT T (hc12 2 _ rfl))) (beC (cellT T (hc12 3 _ rfl))) (beC (cellT T (hc12 4 _ rfl))) (beC (cellT T (hc12 5 _ rfl))) (beC (cellT T (hc12 6 _ rfl))) (beC (cellT T (hc12 7 _ rfl)))))<|RQ.y rfl (Y.move (v:=.slice Aa1 d1.length ca1) s1_1)<|RQ.y rfl (Y.move (v:=.int .i64 i3) s5_1) ?_
   obtain ⟨x19,hx22,hm⟩:=bnd hm
   obtain ⟨k20,hk23,hl24,hx22⟩:=getI_some hx22
   obtain ⟨b26,o27,rfl,hbb26⟩:=ha1.addr (by omega)
   obtain ⟨cs21,hRcs21,hc25⟩:=ha1.el hx22
   have hScs21:=hRcs21
   obtain ⟨A28,n28,c28,A29,n29,c29,A30,n30,c30,A31,n31,c31,rfl,⟨h28,r28⟩,⟨h29,r29⟩,⟨h30,r30⟩,⟨h31,r31⟩⟩:=hRcs21
   have e28:=h28.len; subst e28
   have q28:=len_le r28
   have e29:=h29.len; subst e29
   have q29:=len_le r29
   have e30:=h30.len; subst e30
   have q30:=len_le r30
   have e31:=h31.len; subst e31
   have q31:=len_le r31
   refine RQ.y rfl (Y.indexAddr (m:=k20) (sz:=8) rfl rfl hk23 hl24 (by kernel_rfl))<|RQ.y rfl (Y.loadN (cs:=[.int .i64 x19.kind,.int .i64 x19.value,.slice A28 x19.data.length c28,.int .i64 x19.closure.term.kind,.int .i64 x19.closure.term.value,.slice A29 x19.closure.term.data.length c29,.slice A30 x19.closure.term.kids.length c30,.slice A31 x19.closure.env.length c31]) rfl (by kernel_rfl) (cells8 (beC (cellT T (hc25 0 _ rfl))) (beC (cellT T (hc25 1 _ rfl))) (beC (cellT T (hc25 2 _ rfl))) (beC (cellT T (hc25 3 _ rfl))) (beC (cellT T (hc25 4 _ rfl))) (beC (cellT T (hc25 5 _ rfl))) (beC (cellT T (hc25 6 _ rfl))) (beC (cellT T (hc25 7 _ rfl))))) ?_
   obtain ⟨y32,e33,hm⟩:=bnd hm
   refine RQ.call rfl (am2 rfl rfl) (by kernel_rfl) (v:=.bool y32) (bel (K:=fun _=>True) fun w' hb'=>(c_m_laws_eqFrame x6 x19 _ e33 _ _ w' (stArg (R:=frameRd) ⟨_,_,_,_,_,_,_,_,_,_,_,_,rfl,⟨SlAt.now intRd_ok h15 (Nat.le_refl _) (Tt T hb'),r15⟩,⟨SlAt.now intRd_ok h16 (Nat.le_refl _) (Tt T hb'),r16⟩,⟨SlAt.now coreRd_ok h17 (Nat.le_refl _) (Tt T hb'),r17⟩,⟨SlAt.now intRd_ok h18 (Nat.le_refl _) (Tt T hb'),r18⟩⟩) (stArg (R:=frameRd) ⟨_,_,_,_,_,_,_,_,_,_,_,_,rfl,⟨SlAt.now intRd_ok h28 (Nat.le_refl _) (Tt T hb'),r28⟩,⟨SlAt.now intRd_ok h29 (Nat.le_refl _) (Tt T hb'),r29⟩,⟨SlAt.now coreRd_ok h30 (Nat.le_refl _) (Tt T hb'),r30⟩,⟨SlAt.now intRd_ok h31 (Nat.le_refl _) (Tt T hb'),r31⟩⟩)))<|RQ.y rfl (Y.not (b':=(!y32)) rfl rfl)<|RQ.nil ?_
   intro w34 hb35
   have szw34:=hb35.size
   have T:=Tt T hb35
   refine then_n ?_
   rcases bcases y32 with c36|c36
   ·replace hm:=cF c36 hm
    refine cond_t rfl (vbn rfl c36 rfl)<|wp_seq<|wp_rs rfl<|RQ.y rfl (Y.assign (v:=.bool false) rfl)<|RQ.nil<|then_n<|wp_ret ?_
    obtain rfl:=sj hm
    exact (blk_r (then_r (then_r (hit_r (blk_r (then_r (ret1 rfl rfl rfl ⟨rfl,T⟩)))))))
   replace hm:=cT c36 hm
   refine cond_f rfl (vbn rfl c36 rfl)<|wp_skip ?_
   refine blk_n (then_n ?_)
   refine wp_rs rfl<|RQ.y rfl (Y.move (v:=.int .i64 i3) s5_1)<|RQ.y rfl (Y.binI rfl rfl (binI_add (m:=i3) (by omega)))<|RQ.y rfl (Y.assign (v:=.int .i64 (i3+1)) rfl)<|RQ.nil ?_
   exact (then_n ⟨g,_,Nat.lt_succ_self _,rfl,⟨(i3+1),s0_1,s1_1,rfl,(by omega),T,(by rw [← hrec1]; exact hm)⟩⟩)
  replace hm:=cT c1 hm
  refine cond_t rfl (vb rfl c1)<|wp_seq<|wp_rs rfl<|RQ.y rfl (Y.assign (v:=.bool false) rfl)<|RQ.nil<|then_n<|wp_ret ?_
  obtain rfl:=sj hm
  exact (then_r (ret1 rfl rfl rfl ⟨rfl,T⟩))
noncomputable def m_laws_eqThunk (d0:DThunk) (d1:DThunk):Option Bool:=
  (bif (d0.done != d1.done) then some false else ((m_laws_eqClosure (⟨(⟨d0.closure.term.kind,d0.closure.term.value,d0.closure.term.data,d0.closure.term.kids⟩:DCore),d0.closure.env⟩:DClosure) (⟨(⟨d1.closure.term.kind,d1.closure.term.value,d1.closure.term.data,d1.closure.term.kids⟩:DCore),d1.closure.env⟩:DClosure)).bind fun y16=>(bif y16 then some true else some false)))
set_option maxHeartbeats 2000000 in
theorem c_m_laws_eqThunk (d0:DThunk) (d1:DThunk) (r:Bool) (hm:m_laws_eqThunk d0 d1=some r) (v0:Value) (v1:Value) (w:World) (hv0:St thunkRd w v0 d0) (hv1:St thunkRd w v1 d1) :
    Calls Tryz.prog 127 #[v0,v1] w fun e w'=>e=.returned (.bool r)∧Below w.heap.size w w':=by
  obtain ⟨csa0,rfl,⟨A1,n1,c1,A2,n2,c2,A3,n3,c3,rfl,⟨h1,r1⟩,⟨h2,r2⟩,⟨h3,r3⟩⟩⟩:=hv0
  have e1:=h1.len; subst e1
  have q1:=len_le r1
  have e2:=h2.len; subst e2
  have q2:=len_le r2
  have e3:=h3.len; subst e3
  have q3:=len_le r3
  obtain ⟨csa1,rfl,⟨A4,n4,c4,A5,n5,c5,A6,n6,c6,rfl,⟨h4,r4⟩,⟨h5,r5⟩,⟨h6,r6⟩⟩⟩:=hv1
  have e4:=h4.len; subst e4
  have q4:=len_le r4
  have e5:=h5.len; subst e5
  have q5:=len_le r5
  have e6:=h6.len; subst e6
  have q6:=len_le r6
  have T:=Below.refl w.heap.size w
  unfold m_laws_eqThunk at hm
  refine enter 16 Tryz.func127 rfl rfl rfl ?_
  intro f hf
  have s0:f 0=.agg #[.bool d0.done,.int .i64 d0.closure.term.kind,.int .i64 d0.closure.term.value,.slice A1 d0.closure.term.data.length c1,.slice A2 d0.closure.term.kids.length c2,.slice A3 d0.closure.env.length c3]:=hf 0 _ rfl
  have s1:f 1=.agg #[.bool d1.done,.int .i64 d1.closure.term.kind,.int .i64 d1.closure.term.value,.slice A4 d1.closure.term.data.length c4,.slice A5 d1.closure.term.kids.length c5,.slice A6 d1.closure.env.length c6]:=hf 1 _ rfl
  refine wp_seq<|wp_rl rfl ?_
  refine RL.box rfl s0 (fun w7 B8 hb9 szw7=>?_)
  replace B8:Blk w7 w.heap.size 141 #[.bool d0.done,.int .i64 d0.closure.term.kind,.int .i64 d0.closure.term.value,.slice A1 d0.closure.term.data.length c1,.slice A2 d0.closure.term.kids.length c2,.slice A3 d0.closure.env.length c3]:=B8
  have GB8:w.heap.size≤w.heap.size:=T.size
  have T:=Tt T hb9
  refine RL.box rfl s1 (fun w11 B12 hb13 szw11=>?_)
  replace B12:Blk w11 w7.heap.size 141 #[.bool d1.done,.int .i64 d1.closure.term.kind,.int .i64 d1.closure.term.value,.slice A4 d1.closure.term.data.length c4,.slice A5 d1.closure.term.kids.length c5,.slice A6 d1.closure.env.length c6]:=B12
  have GB12:w.heap.size≤w7.heap.size:=T.size
  have Eob14_ob10:=Nat.ne_of_lt B8.lt
  have B8:=blkT B8 hb13
  have T:=Tt T hb13
  refine RL.y rfl (Y.assign (v:=.bool false) rfl)<|RL.nil<|then_n<|wp_seq<|wp_seq<|wp_rs rfl<|RQ.y rfl (Y.fieldAddr (off:=0) rfl (by kernel_rfl))<|RQ.y rfl (Y.load (v:=.bool d0.done) rfl (by kernel_rfl) (eqC (blkCell B8 (i:=0) rfl)))<|RQ.y rfl (Y.fieldAddr (off:=0) rfl (by kernel_rfl))<|RQ.y rfl (Y.load (v:=.bool d1.done) rfl (by kernel_rfl) (eqC (blkCell B12 (i:=0) rfl)))<|RQ.y rfl (Y.beq (c:=(d0.done != d1.done)) (by kernel_rfl) rfl rfl (.inr ⟨rfl,rfl⟩))<|RQ.nil<|then_n ?_
  rcases bcases (d0.done != d1.done) with c15|c15
  ·replace hm:=cF c15 hm
   refine cond_f rfl (vb rfl c15)<|wp_skip<|then_n<|wp_seq<|wp_seq<|wp_rb rfl<|RQ.y rfl (Y.fieldAddr (off:=1) rfl (by kernel_rfl))<|RQ.y rfl (Y.loadN (cs:=[.int .i64 d0.closure.term.kind,.int .i64 d0.closure.term.value,.slice A1 d0.closure.term.data.length c1,.slice A2 d0.closure.term.kids.length c2,.slice A3 d0.closure.env.length c3]) rfl (by kernel_rfl) (cells5 (beC (blkCell B8 (i:=1) rfl)) (beC (blkCell B8 (i:=2) rfl)) (beC (blkCell B8 (i:=3) rfl)) (beC (blkCell B8 (i:=4) rfl)) (beC (blkCell B8 (i:=5) rfl))))<|RQ.y rfl (Y.fieldAddr (off:=1) rfl (by kernel_rfl))<|RQ.y rfl (Y.loadN (cs:=[.int .i64 d1.closure.term.kind,.int .i64 d1.closure.term.value,.slice A4 d1.closure.term.data.length c4,.slice A5 d1.closure.term.kids.length c5,.slice A6 d1.closure.env.length c6]) rfl (by kernel_rfl) (cells5 (beC (blkCell B12 (i:=1) rfl)) (beC (blkCell B12 (i:=2) rfl)) (beC (blkCell B12 (i:=3) rfl)) (beC (blkCell B12 (i:=4) rfl)) (beC (blkCell B12 (i:=5) rfl)))) ?_
   obtain ⟨y16,e17,hm⟩:=bnd hm
   refine RQ.call rfl (am2 rfl rfl) (by kernel_rfl) (v:=.bool y16) (bel (K:=fun _=>True) fun w' hb'=>(c_m_laws_eqClosure (⟨(⟨d0.closure.term.kind,d0.closure.term.value,d0.closure.term.data,d0.closure.term.kids⟩:DCore),d0.closure.env⟩:DClosure) (⟨(⟨d1.closure.term.kind,d1.closure.term.value,d1.closure.term.data,d1.closure.term.kids⟩:DCore),d1.closure.env⟩:DClosure) _ e17 _ _ w' (stArg (R:=closureRd) ⟨_,_,_,_,_,_,_,_,_,rfl,⟨SlAt.now intRd_ok h1 (Nat.le_refl _) (Tt T hb'),r1⟩,⟨SlAt.now coreRd_ok h2 (Nat.le_refl _) (Tt T hb'),r2⟩,⟨SlAt.now intRd_ok h3 (Nat.le_refl _) (Tt T hb'),r3⟩⟩) (stArg (R:=closureRd) ⟨_,_,_,_,_,_,_,_,_,rfl,⟨SlAt.now intRd_ok h4 (Nat.le_refl _) (Tt T hb'),r4⟩,⟨SlAt.now coreRd_ok h5 (Nat.le_refl _) (Tt T hb'),r5⟩,⟨SlAt.now intRd_ok h6 (Nat.le_refl _) (Tt T hb'),r6⟩⟩)))<|RQ.y rfl (Y.not (b':=(!y16)) rfl rfl)<|RQ.nil ?_
   intro w18 hb19
   have szw18:=hb19.size
   have T:=Tt T hb19
   refine then_n ?_
   rcases bcases y16 with c20|c20
   ·replace hm:=cF c20 hm
    refine cond_t rfl (vbn rfl c20 rfl)<|wp_seq<|wp_rs rfl<|RQ.y rfl (Y.assign (v:=.bool false) rfl)<|RQ.nil<|then_n<|wp_ret ?_
    obtain rfl:=sj hm
    exact (then_r (ret1 rfl rfl rfl ⟨rfl,T⟩))
   replace hm:=cT c20 hm
   refine cond_f rfl (vbn rfl c20 rfl)<|wp_skip<|then_n<|wp_seq<|wp_rs rfl<|RQ.y rfl (Y.assign (v:=.bool true) rfl)<|RQ.nil<|then_n<|wp_ret ?_
   obtain rfl:=sj hm
   exact (ret1 rfl rfl rfl ⟨rfl,T⟩)
  replace hm:=cT c15 hm
  refine cond_t rfl (vb rfl c15)<|wp_seq<|wp_rs rfl<|RQ.y rfl (Y.assign (v:=.bool false) rfl)<|RQ.nil<|then_n<|wp_ret ?_
  obtain rfl:=sj hm
  exact (then_r (ret1 rfl rfl rfl ⟨rfl,T⟩))
noncomputable def m_laws_eqThunkS_A1:Option Bool:=
  some true
noncomputable def m_laws_eqThunkS_B1 (d0:List DThunk) (d1:List DThunk) (rec1:Int→Option Bool) (K1:Option Bool) (i3:Int):Option Bool:=
  (bif (decide (i3 < (d0.length:Int))) then ((getI d0 i3).bind fun x6=>((getI d1 i3).bind fun x18=>((m_laws_eqThunk x6 x18).bind fun y30=>(bif y30 then (rec1 (i3+1)) else some false)))) else (K1))
noncomputable def m_laws_eqThunkS_L1 (d0:List DThunk) (d1:List DThunk) (K1:Option Bool):Nat→Int→Option Bool
  |0,_=>none
  |g+1,i3=>m_laws_eqThunkS_B1 d0 d1 (m_laws_eqThunkS_L1 d0 d1 K1 g) K1 i3
noncomputable def m_laws_eqThunkS (d0:List DThunk) (d1:List DThunk):Option Bool:=
  (bif ((d0.length:Int) != (d1.length:Int)) then some false else (m_laws_eqThunkS_L1 d0 d1 m_laws_eqThunkS_A1 (d0.length+1) 0))
set_option maxHeartbeats 2000000 in
theorem c_m_laws_eqThunkS (d0:List DThunk) (d1:List DThunk) (r:Bool) (hm:m_laws_eqThunkS d0 d1=some r) (v0:Value) (v1:Value) (w:World) (hv0:Sl thunkRd 6 w v0 d0) (hv1:Sl thunkRd 6 w v1 d1) :
    Calls Tryz.prog 68 #[v0,v1] w fun e w'=>e=.returned (.bool r)∧Below w.heap.size w w':=by
  obtain ⟨Aa0,na0,ca0,rfl,ha0,ra0⟩:=hv0
  have ea0:=ha0.len; subst ea0
  have qa0:=len_le ra0
  obtain ⟨Aa1,na1,ca1,rfl,ha1,ra1⟩:=hv1
  have ea1:=ha1.len; subst ea1
  have qa1:=len_le ra1
  have T:=Below.refl w.heap.size w
  unfold m_laws_eqThunkS at hm
  refine enter 27 Tryz.func68 rfl rfl rfl ?_
  intro f hf
  have s0:f 0=.slice Aa0 d0.length ca0:=hf 0 _ rfl
  have s1:f 1=.slice Aa1 d1.length ca1:=hf 1 _ rfl
  refine wp_seq<|wp_rs rfl<|RQ.y rfl (Y.assign (v:=.bool false) rfl)<|RQ.nil<|then_n<|wp_seq<|wp_seq<|wp_rs rfl<|RQ.y rfl (Y.move (v:=.slice Aa0 d0.length ca0) s0)<|RQ.y rfl (Y.len (by kernel_rfl) rfl)<|RQ.y rfl (Y.move (v:=.slice Aa1 d1.length ca1) s1)<|RQ.y rfl (Y.len (by kernel_rfl) rfl)<|RQ.y rfl (Y.binI (v:=.bool ((d0.length:Int) != (d1.length:Int))) rfl rfl rfl)<|RQ.nil<|then_n ?_
  rcases bcases ((d0.length:Int) != (d1.length:Int)) with c1|c1
  ·replace hm:=cF c1 hm
   refine cond_f rfl (vb rfl c1)<|wp_skip<|then_n<|wp_seq<|wp_seq<|wp_rs rfl<|RQ.y rfl (Y.assign (v:=.int .i64 0) rfl)<|RQ.nil<|then_n<|wp_block ?_
   obtain ⟨K1,hK1,hm⟩ :∃K,K=m_laws_eqThunkS_A1∧m_laws_eqThunkS_L1 d0 d1 K (d0.length+1) 0=some r:=⟨_,rfl,hm⟩
   refine wp_loopX (fun g f w'=>∃(i3:Int),f 0=.slice Aa0 d0.length ca0∧f 1=.slice Aa1 d1.length ca1∧f 5=.int .i64 i3∧0≤i3∧Below w.heap.size w w'∧m_laws_eqThunkS_L1 d0 d1 K1 g i3=some r) 0 (fun f w'=>Below w.heap.size w w'∧m_laws_eqThunkS_A1  = some r) (d0.length+1) ⟨0,s0,s1,rfl,(by omega),T,hm⟩ ?_ ?_
   ·rintro f w2 ⟨T,hm⟩
    unfold m_laws_eqThunkS_A1 at hm
    refine blk_hit (then_n ?_)
    refine wp_seq<|wp_rs rfl<|RQ.y rfl (Y.assign (v:=.bool true) rfl)<|RQ.nil<|then_n<|wp_ret ?_
    obtain rfl:=sj hm
    exact (ret1 rfl rfl rfl ⟨rfl,T⟩)
   rintro g f w4 ⟨i3,s0_1,s1_1,s5_1,nn5_1,T,hm⟩
   rcases g with _|g
   ·simp only [m_laws_eqThunkS_L1] at hm; cases hm
   obtain ⟨rec1,hrec1,hm⟩ :∃z,z=m_laws_eqThunkS_L1 d0 d1 K1 g∧m_laws_eqThunkS_B1 d0 d1 z K1 i3=some r:=⟨_,rfl,hm⟩
   unfold m_laws_eqThunkS_B1 at hm
   refine wp_seq<|wp_seq<|wp_rs rfl<|RQ.y rfl (Y.move (v:=.int .i64 i3) s5_1)<|RQ.y rfl (Y.move (v:=.slice Aa0 d0.length ca0) s0_1)<|RQ.y rfl (Y.len (by kernel_rfl) rfl)<|RQ.y rfl (Y.binI (v:=.bool (decide (i3 < (d0.length:Int)))) rfl rfl rfl)<|RQ.nil<|then_n ?_
   rcases bcases (decide (i3 < (d0.length:Int))) with c5|c5
   ·replace hm:=cF c5 hm
    have pc5:=of_decide_eq_false c5
    refine cond_f rfl (vb rfl c5)<|wp_exit ?_
    exact (then_x (then_x (hit_x ⟨_,rfl,⟨T,(by rw [hK1] at hm; exact hm)⟩⟩)))
   replace hm:=cT c5 hm
   have pc5:=of_decide_eq_true c5
   refine cond_t rfl (vb rfl c5)<|wp_skip<|then_n<|wp_seq<|wp_block<|wp_seq<|wp_rbd (by kernel_rfl) (by kernel_rfl)<|RQ.y rfl (Y.move (v:=.slice Aa0 d0.length ca0) s0_1)<|RQ.y rfl (Y.move (v:=.int .i64 i3) s5_1) ?_
   obtain ⟨x6,hx9,hm⟩:=bnd hm
   obtain ⟨k7,hk10,hl11,hx9⟩:=getI_some hx9
   obtain ⟨b13,o14,rfl,hbb13⟩:=ha0.addr (by omega)
   obtain ⟨cs8,hRcs8,hc12⟩:=ha0.el hx9
   have hScs8:=hRcs8
   obtain ⟨A15,n15,c15,A16,n16,c16,A17,n17,c17,rfl,⟨h15,r15⟩,⟨h16,r16⟩,⟨h17,r17⟩⟩:=hRcs8
   have e15:=h15.len; subst e15
   have q15:=len_le r15
   have e16:=h16.len; subst e16
   have q16:=len_le r16
   have e17:=h17.len; subst e17
   have q17:=len_le r17
   refine RQ.y rfl (Y.indexAddr (m:=k7) (sz:=6) rfl rfl hk10 hl11 (by kernel_rfl))<|RQ.y rfl (Y.loadN (cs:=[.bool x6.done,.int .i64 x6.closure.term.kind,.int .i64 x6.closure.term.value,.slice A15 x6.closure.term.data.length c15,.slice A16 x6.closure.term.kids.length c16,.slice A17 x6.closure.env.length c17]) rfl (by kernel_rfl) (cells6 (beC (cellT T (hc12 0 _ rfl))) (beC (cellT T (hc12 1 _ rfl))) (beC (cellT T (hc12 2 _ rfl))) (beC (cellT T (hc12 3 _ rfl))) (beC (cellT T (hc12 4 _ rfl))) (beC (cellT T (hc12 5 _ rfl)))))<|RQ.y rfl (Y.move (v:=.slice Aa1 d1.length ca1) s1_1)<|RQ.y rfl (Y.move (v:=.int .i64 i3) s5_1) ?_
   obtain ⟨x18,hx21,hm⟩:=bnd hm
   obtain ⟨k19,hk22,hl23,hx21⟩:=getI_some hx21
   obtain ⟨b25,o26,rfl,hbb25⟩:=ha1.addr (by omega)
   obtain ⟨cs20,hRcs20,hc24⟩:=ha1.el hx21
   have hScs20:=hRcs20
   obtain ⟨A27,n27,c27,A28,n28,c28,A29,n29,c29,rfl,⟨h27,r27⟩,⟨h28,r28⟩,⟨h29,r29⟩⟩:=hRcs20
   have e27:=h27.len; subst e27
   have q27:=len_le r27
   have e28:=h28.len; subst e28
   have q28:=len_le r28
   have e29:=h29.len; subst e29
   have q29:=len_le r29
   refine RQ.y rfl (Y.indexAddr (m:=k19) (sz:=6) rfl rfl hk22 hl23 (by kernel_rfl))<|RQ.y rfl (Y.loadN (cs:=[.bool x18.done,.int .i64 x18.closure.term.kind,.int .i64 x18.closure.term.value,.slice A27 x18.closure.term.data.length c27,.slice A28 x18.closure.term.kids.length c28,.slice A29 x18.closure.env.length c29]) rfl (by kernel_rfl) (cells6 (beC (cellT T (hc24 0 _ rfl))) (beC (cellT T (hc24 1 _ rfl))) (beC (cellT T (hc24 2 _ rfl))) (beC (cellT T (hc24 3 _ rfl))) (beC (cellT T (hc24 4 _ rfl))) (beC (cellT T (hc24 5 _ rfl))))) ?_
   obtain ⟨y30,e31,hm⟩:=bnd hm
   refine RQ.call rfl (am2 rfl rfl) (by kernel_rfl) (v:=.bool y30) (bel (K:=fun _=>True) fun w' hb'=>(c_m_laws_eqThunk x6 x18 _ e31 _ _ w' (stArg (R:=thunkRd) ⟨_,_,_,_,_,_,_,_,_,rfl,⟨SlAt.now intRd_ok h15 (Nat.le_refl _) (Tt T hb'),r15⟩,⟨SlAt.now coreRd_ok h16 (Nat.le_refl _) (Tt T hb'),r16⟩,⟨SlAt.now intRd_ok h17 (Nat.le_refl _) (Tt T hb'),r17⟩⟩) (stArg (R:=thunkRd) ⟨_,_,_,_,_,_,_,_,_,rfl,⟨SlAt.now intRd_ok h27 (Nat.le_refl _) (Tt T hb'),r27⟩,⟨SlAt.now coreRd_ok h28 (Nat.le_refl _) (Tt T hb'),r28⟩,⟨SlAt.now intRd_ok h29 (Nat.le_refl _) (Tt T hb'),r29⟩⟩)))<|RQ.y rfl (Y.not (b':=(!y30)) rfl rfl)<|RQ.nil ?_
   intro w32 hb33
   have szw32:=hb33.size
   have T:=Tt T hb33
   refine then_n ?_
   rcases bcases y30 with c34|c34
   ·replace hm:=cF c34 hm
    refine cond_t rfl (vbn rfl c34 rfl)<|wp_seq<|wp_rs rfl<|RQ.y rfl (Y.assign (v:=.bool false) rfl)<|RQ.nil<|then_n<|wp_ret ?_
    obtain rfl:=sj hm
    exact (blk_r (then_r (then_r (hit_r (blk_r (then_r (ret1 rfl rfl rfl ⟨rfl,T⟩)))))))
   replace hm:=cT c34 hm
   refine cond_f rfl (vbn rfl c34 rfl)<|wp_skip ?_
   refine blk_n (then_n ?_)
   refine wp_rs rfl<|RQ.y rfl (Y.move (v:=.int .i64 i3) s5_1)<|RQ.y rfl (Y.binI rfl rfl (binI_add (m:=i3) (by omega)))<|RQ.y rfl (Y.assign (v:=.int .i64 (i3+1)) rfl)<|RQ.nil ?_
   exact (then_n ⟨g,_,Nat.lt_succ_self _,rfl,⟨(i3+1),s0_1,s1_1,rfl,(by omega),T,(by rw [← hrec1]; exact hm)⟩⟩)
  replace hm:=cT c1 hm
  refine cond_t rfl (vb rfl c1)<|wp_seq<|wp_rs rfl<|RQ.y rfl (Y.assign (v:=.bool false) rfl)<|RQ.nil<|then_n<|wp_ret ?_
  obtain rfl:=sj hm
  exact (then_r (ret1 rfl rfl rfl ⟨rfl,T⟩))
noncomputable def m_laws_eqNeed (d0:DNeed) (d1:DNeed):Option Bool:=
  ((m_laws_eqClosure (⟨(⟨d0.control.term.kind,d0.control.term.value,d0.control.term.data,d0.control.term.kids⟩:DCore),d0.control.env⟩:DClosure) (⟨(⟨d1.control.term.kind,d1.control.term.value,d1.control.term.data,d1.control.term.kids⟩:DCore),d1.control.env⟩:DClosure)).bind fun y19=>(bif y19 then ((m_laws_eqFrameS d0.stack d1.stack).bind fun y24=>(bif y24 then ((m_laws_eqThunkS d0.heap d1.heap).bind fun y29=>(bif y29 then some true else some false)) else some false)) else some false))
set_option maxHeartbeats 2000000 in
theorem c_m_laws_eqNeed (d0:DNeed) (d1:DNeed) (r:Bool) (hm:m_laws_eqNeed d0 d1=some r) (v0:Value) (v1:Value) (w:World) (hv0:St needRd w v0 d0) (hv1:St needRd w v1 d1) :
    Calls Tryz.prog 28 #[v0,v1] w fun e w'=>e=.returned (.bool r)∧Below w.heap.size w w':=by
  obtain ⟨csa0,rfl,⟨A1,n1,c1,A2,n2,c2,A3,n3,c3,A4,n4,c4,A5,n5,c5,rfl,⟨h1,r1⟩,⟨h2,r2⟩,⟨h3,r3⟩,⟨h4,r4⟩,⟨h5,r5⟩⟩⟩:=hv0
  have e1:=h1.len; subst e1
  have q1:=len_le r1
  have e2:=h2.len; subst e2
  have q2:=len_le r2
  have e3:=h3.len; subst e3
  have q3:=len_le r3
  have e4:=h4.len; subst e4
  have q4:=len_le r4
  have e5:=h5.len; subst e5
  have q5:=len_le r5
  obtain ⟨csa1,rfl,⟨A6,n6,c6,A7,n7,c7,A8,n8,c8,A9,n9,c9,A10,n10,c10,rfl,⟨h6,r6⟩,⟨h7,r7⟩,⟨h8,r8⟩,⟨h9,r9⟩,⟨h10,r10⟩⟩⟩:=hv1
  have e6:=h6.len; subst e6
  have q6:=len_le r6
  have e7:=h7.len; subst e7
  have q7:=len_le r7
  have e8:=h8.len; subst e8
  have q8:=len_le r8
  have e9:=h9.len; subst e9
  have q9:=len_le r9
  have e10:=h10.len; subst e10
  have q10:=len_le r10
  have T:=Below.refl w.heap.size w
  unfold m_laws_eqNeed at hm
  refine enter 23 Tryz.func28 rfl rfl rfl ?_
  intro f hf
  have s0:f 0=.agg #[.int .i64 d0.control.term.kind,.int .i64 d0.control.term.value,.slice A1 d0.control.term.data.length c1,.slice A2 d0.control.term.kids.length c2,.slice A3 d0.control.env.length c3,.slice A4 d0.stack.length c4,.slice A5 d0.heap.length c5]:=hf 0 _ rfl
  have s1:f 1=.agg #[.int .i64 d1.control.term.kind,.int .i64 d1.control.term.value,.slice A6 d1.control.term.data.length c6,.slice A7 d1.control.term.kids.length c7,.slice A8 d1.control.env.length c8,.slice A9 d1.stack.length c9,.slice A10 d1.heap.length c10]:=hf 1 _ rfl
  refine wp_seq<|wp_rl rfl ?_
  refine RL.box rfl s0 (fun w11 B12 hb13 szw11=>?_)
  replace B12:Blk w11 w.heap.size 84 #[.int .i64 d0.control.term.kind,.int .i64 d0.control.term.value,.slice A1 d0.control.term.data.length c1,.slice A2 d0.control.term.kids.length c2,.slice A3 d0.control.env.length c3,.slice A4 d0.stack.length c4,.slice A5 d0.heap.length c5]:=B12
  have GB12:w.heap.size≤w.heap.size:=T.size
  have T:=Tt T hb13
  refine RL.box rfl s1 (fun w15 B16 hb17 szw15=>?_)
  replace B16:Blk w15 w11.heap.size 84 #[.int .i64 d1.control.term.kind,.int .i64 d1.control.term.value,.slice A6 d1.control.term.data.length c6,.slice A7 d1.control.term.kids.length c7,.slice A8 d1.control.env.length c8,.slice A9 d1.stack.length c9,.slice A10 d1.heap.length c10]:=B16
  have GB16:w.heap.size≤w11.heap.size:=T.size
  have Eob18_ob14:=Nat.ne_of_lt B12.lt
  have B12:=blkT B12 hb17
  have T:=Tt T hb17
  refine RL.y rfl (Y.assign (v:=.bool false) rfl)<|RL.nil<|then_n<|wp_seq<|wp_seq<|wp_rb rfl<|RQ.y rfl (Y.fieldAddr (off:=0) rfl (by kernel_rfl))<|RQ.y rfl (Y.loadN (cs:=[.int .i64 d0.control.term.kind,.int .i64 d0.control.term.value,.slice A1 d0.control.term.data.length c1,.slice A2 d0.control.term.kids.length c2,.slice A3 d0.control.env.length c3]) rfl (by kernel_rfl) (cells5 (beC (blkCell B12 (i:=0) rfl)) (beC (blkCell B12 (i:=1) rfl)) (beC (blkCell B12 (i:=2) rfl)) (beC (blkCell B12 (i:=3) rfl)) (beC (blkCell B12 (i:=4) rfl))))<|RQ.y rfl (Y.fieldAddr (off:=0) rfl (by kernel_rfl))<|RQ.y rfl (Y.loadN (cs:=[.int .i64 d1.control.term.kind,.int .i64 d1.control.term.value,.slice A6 d1.control.term.data.length c6,.slice A7 d1.control.term.kids.length c7,.slice A8 d1.control.env.length c8]) rfl (by kernel_rfl) (cells5 (beC (blkCell B16 (i:=0) rfl)) (beC (blkCell B16 (i:=1) rfl)) (beC (blkCell B16 (i:=2) rfl)) (beC (blkCell B16 (i:=3) rfl)) (beC (blkCell B16 (i:=4) rfl)))) ?_
  obtain ⟨y19,e20,hm⟩:=bnd hm
  refine RQ.call rfl (am2 rfl rfl) (by kernel_rfl) (v:=.bool y19) (bel (K:=fun _=>True) fun w' hb'=>(c_m_laws_eqClosure (⟨(⟨d0.control.term.kind,d0.control.term.value,d0.control.term.data,d0.control.term.kids⟩:DCore),d0.control.env⟩:DClosure) (⟨(⟨d1.control.term.kind,d1.control.term.value,d1.control.term.data,d1.control.term.kids⟩:DCore),d1.control.env⟩:DClosure) _ e20 _ _ w' (stArg (R:=closureRd) ⟨_,_,_,_,_,_,_,_,_,rfl,⟨SlAt.now intRd_ok h1 (Nat.le_refl _) (Tt T hb'),r1⟩,⟨SlAt.now coreRd_ok h2 (Nat.le_refl _) (Tt T hb'),r2⟩,⟨SlAt.now intRd_ok h3 (Nat.le_refl _) (Tt T hb'),r3⟩⟩) (stArg (R:=closureRd) ⟨_,_,_,_,_,_,_,_,_,rfl,⟨SlAt.now intRd_ok h6 (Nat.le_refl _) (Tt T hb'),r6⟩,⟨SlAt.now coreRd_ok h7 (Nat.le_refl _) (Tt T hb'),r7⟩,⟨SlAt.now intRd_ok h8 (Nat.le_refl _) (Tt T hb'),r8⟩⟩)))<|RQ.y rfl (Y.not (b':=(!y19)) rfl rfl)<|RQ.nil ?_
  intro w21 hb22
  have szw21:=hb22.size
  have B12:=blkT B12 hb22
  have B16:=blkT B16 hb22
  have T:=Tt T hb22
  refine then_n ?_
  rcases bcases y19 with c23|c23
  ·replace hm:=cF c23 hm
   refine cond_t rfl (vbn rfl c23 rfl)<|wp_seq<|wp_rs rfl<|RQ.y rfl (Y.assign (v:=.bool false) rfl)<|RQ.nil<|then_n<|wp_ret ?_
   obtain rfl:=sj hm
   exact (then_r (ret1 rfl rfl rfl ⟨rfl,T⟩))
  replace hm:=cT c23 hm
  refine cond_f rfl (vbn rfl c23 rfl)<|wp_skip<|then_n<|wp_seq<|wp_seq<|wp_rb rfl<|RQ.y rfl (Y.fieldAddr (off:=5) rfl (by kernel_rfl))<|RQ.y rfl (Y.load (v:=.slice A4 d0.stack.length c4) rfl (by kernel_rfl) (beC (blkCell B12 (i:=5) rfl)))<|RQ.y rfl (Y.fieldAddr (off:=5) rfl (by kernel_rfl))<|RQ.y rfl (Y.load (v:=.slice A9 d1.stack.length c9) rfl (by kernel_rfl) (beC (blkCell B16 (i:=5) rfl))) ?_
  obtain ⟨y24,e25,hm⟩:=bnd hm
  refine RQ.call rfl (am2 rfl rfl) (by kernel_rfl) (v:=.bool y24) (bel (K:=fun _=>True) fun w' hb'=>(c_m_laws_eqFrameS d0.stack d1.stack _ e25 _ _ w' (slArg frameRd_ok h4 r4 (Tt T hb')) (slArg frameRd_ok h9 r9 (Tt T hb'))))<|RQ.y rfl (Y.not (b':=(!y24)) rfl rfl)<|RQ.nil ?_
  intro w26 hb27
  have szw26:=hb27.size
  have B12:=blkT B12 hb27
  have B16:=blkT B16 hb27
  have T:=Tt T hb27
  refine then_n ?_
  rcases bcases y24 with c28|c28
  ·replace hm:=cF c28 hm
   refine cond_t rfl (vbn rfl c28 rfl)<|wp_seq<|wp_rs rfl<|RQ.y rfl (Y.assign (v:=.bool false) rfl)<|RQ.nil<|then_n<|wp_ret ?_
   obtain rfl:=sj hm
   exact (then_r (ret1 rfl rfl rfl ⟨rfl,T⟩))
  replace hm:=cT c28 hm
  refine cond_f rfl (vbn rfl c28 rfl)<|wp_skip<|then_n<|wp_seq<|wp_seq<|wp_rb rfl<|RQ.y rfl (Y.fieldAddr (off:=6) rfl (by kernel_rfl))<|RQ.y rfl (Y.load (v:=.slice A5 d0.heap.length c5) rfl (by kernel_rfl) (beC (blkCell B12 (i:=6) rfl)))<|RQ.y rfl (Y.fieldAddr (off:=6) rfl (by kernel_rfl))<|RQ.y rfl (Y.load (v:=.slice A10 d1.heap.length c10) rfl (by kernel_rfl) (beC (blkCell B16 (i:=6) rfl))) ?_
  obtain ⟨y29,e30,hm⟩:=bnd hm
  refine RQ.call rfl (am2 rfl rfl) (by kernel_rfl) (v:=.bool y29) (bel (K:=fun _=>True) fun w' hb'=>(c_m_laws_eqThunkS d0.heap d1.heap _ e30 _ _ w' (slArg thunkRd_ok h5 r5 (Tt T hb')) (slArg thunkRd_ok h10 r10 (Tt T hb'))))<|RQ.y rfl (Y.not (b':=(!y29)) rfl rfl)<|RQ.nil ?_
  intro w31 hb32
  have szw31:=hb32.size
  have T:=Tt T hb32
  refine then_n ?_
  rcases bcases y29 with c33|c33
  ·replace hm:=cF c33 hm
   refine cond_t rfl (vbn rfl c33 rfl)<|wp_seq<|wp_rs rfl<|RQ.y rfl (Y.assign (v:=.bool false) rfl)<|RQ.nil<|then_n<|wp_ret ?_
   obtain rfl:=sj hm
   exact (then_r (ret1 rfl rfl rfl ⟨rfl,T⟩))
  replace hm:=cT c33 hm
  refine cond_f rfl (vbn rfl c33 rfl)<|wp_skip<|then_n<|wp_seq<|wp_rs rfl<|RQ.y rfl (Y.assign (v:=.bool true) rfl)<|RQ.nil<|then_n<|wp_ret ?_
  obtain rfl:=sj hm
  exact (ret1 rfl rfl rfl ⟨rfl,T⟩)
noncomputable def m_laws_toCoreS_A1 (xs8:List DCore):Option (List DCore):=
  some xs8
noncomputable def m_laws_toCoreS_B1 (self1:DCore→Option DCore) (d0:List DCore) (rec1:List DCore→Int→Option (List DCore)) (K1:List DCore→Option (List DCore)) (xs10:List DCore) (i11:Int):Option (List DCore):=
  (bif (decide (i11 < (d0.length:Int))) then ((getI d0 i11).bind fun x14=>((self1 x14).bind fun y25=>((getI xs10 i11).bind fun x38=>(rec1 (setI xs10 i11 y25) (i11+1))))) else (K1 xs10))
noncomputable def m_laws_toCoreS_L1 (self1:DCore→Option DCore) (d0:List DCore) (K1:List DCore→Option (List DCore)):Nat→List DCore→Int→Option (List DCore)
  |0,_,_=>none
  |g+1,xs10,i11=>m_laws_toCoreS_B1 self1 d0 (m_laws_toCoreS_L1 self1 d0 K1 g) K1 xs10 i11
noncomputable def m_laws_toCoreS_R (self0:(List DCore)→Option (List DCore)) (self1:DCore→Option DCore) (d0:List DCore):Option (List DCore):=
  ((mustP (d0.length≤4294967296)).bind fun _=>(m_laws_toCoreS_L1 self1 d0 m_laws_toCoreS_A1 (d0.length+1) (List.replicate d0.length ((⟨0,0,[],[]⟩:DCore):DCore)) 0))
set_option maxHeartbeats 2000000 in
theorem c_m_laws_toCoreS_S (self0:(List DCore)→Option (List DCore)) (self1:DCore→Option DCore) (ih0 :∀(d0:List DCore) (r:List DCore) (hm:self0 d0=some r) (v0:Value) (w:World) (hv0:Sl coreRd 4 w v0 d0),Calls Tryz.prog 59 #[v0] w fun e w'=>(∃(v0:Value) (bs0:List Nat),e=.returned (v0)∧OwN 78 coreOw 4 w' w.heap.size v0 r bs0)∧Below w.heap.size w w') (ih1 :∀(d0:DCore) (r:DCore) (hm:self1 d0=some r) (v0:Value) (w:World) (hv0:St coreRd w v0 d0),Calls Tryz.prog 114 #[v0] w fun e w'=>(∃(v0:Value) (v1:Value) (bs1:List Nat),e=.returned (.agg #[.int .i64 r.kind,.int .i64 r.value,v0,v1])∧OwF 2 encI 1 w' w.heap.size v0 r.data∧OwN 78 coreOw 4 w' w.heap.size v1 r.kids bs1∧Ap (fb v0) bs1)∧Below w.heap.size w w') :∀(d0:List DCore) (r:List DCore) (hm:m_laws_toCoreS_R self0 self1 d0=some r) (v0:Value) (w:World) (hv0:Sl coreRd 4 w v0 d0),
    Calls Tryz.prog 59 #[v0] w fun e w'=>(∃(v0:Value) (bs0:List Nat),e=.returned (v0)∧OwN 78 coreOw 4 w' w.heap.size v0 r bs0)∧Below w.heap.size w w':=by
  intro d0 r hm v0 w hv0
  obtain ⟨Aa0,na0,ca0,rfl,ha0,ra0⟩:=hv0
  have ea0:=ha0.len; subst ea0
  have qa0:=len_le ra0
  have T:=Below.refl w.heap.size w
  unfold m_laws_toCoreS_R at hm
  refine enter 23 Tryz.func59 rfl rfl rfl ?_
  intro f hf
  have s0:f 0=.slice Aa0 d0.length ca0:=hf 0 _ rfl
  refine wp_seq<|wp_rs rfl<|RQ.y rfl (Y.assign (v:=.slice none 0 0) rfl)<|RQ.nil<|then_n<|wp_seq<|wp_rl rfl<|RL.y rfl (Y.move (v:=.slice Aa0 d0.length ca0) s0)<|RL.y rfl (Y.len (by kernel_rfl) rfl) ?_
  obtain ⟨_,m1,hm⟩:=bnd hm
  have hk2:=mustP_some m1
  refine RL.makeN (O:=coreOw) (x0:=(⟨0,0,[],[]⟩:DCore)) (n:=d0.length) app_impl_Core (by decide) (fun w=>(coreOw_in ⟨none,0,0,none,0,0,[],[],rfl,⟨⟨rfl,.inl ⟨rfl,rfl⟩⟩,Nat.le_refl _,Nat.zero_le _⟩,⟨⟨rfl,.inl ⟨rfl,rfl⟩⟩,Nat.le_refl _,Nat.zero_le _⟩,rfl⟩)) rfl rfl rfl hk2 (fun w3 G4 hb5 szw3=>?_)
  replace G4:=OwN.mono G4 T.size
  have T:=Tt T hb5
  refine RL.y rfl (Y.assign (v:=.slice (some ⟨w.heap.size,0,none⟩) d0.length d0.length) rfl)<|RL.nil<|then_n<|wp_seq<|wp_seq<|wp_rs rfl<|RQ.y rfl (Y.assign (v:=.int .i64 0) rfl)<|RQ.nil<|then_n<|wp_block ?_
  obtain ⟨K1,hK1,hm⟩ :∃K,K=m_laws_toCoreS_A1∧m_laws_toCoreS_L1 self1 d0 K (d0.length+1) (List.replicate d0.length ((⟨0,0,[],[]⟩:DCore):DCore)) 0=some r:=⟨_,rfl,hm⟩
  refine wp_loopX (fun g f w'=>∃(xs10:List DCore) (i11:Int) (uxs10:Value) (bsxs10:List Nat),f 0=.slice Aa0 d0.length ca0∧f 3=uxs10∧OwN 78 coreOw 4 w' w.heap.size uxs10 xs10 bsxs10∧f 4=.int .i64 i11∧0≤i11∧Below w.heap.size w w'∧m_laws_toCoreS_L1 self1 d0 K1 g xs10 i11=some r) 0 (fun f w'=>∃(xs8:List DCore) (uxs8:Value) (bsxs8:List Nat),f 3=uxs8∧OwN 78 coreOw 4 w' w.heap.size uxs8 xs8 bsxs8∧Below w.heap.size w w'∧m_laws_toCoreS_A1 xs8=some r) (d0.length+1) ⟨(List.replicate d0.length ((⟨0,0,[],[]⟩:DCore):DCore)),0,(.slice (some ⟨w.heap.size,0,none⟩) d0.length d0.length),([w.heap.size]),s0,rfl,G4,rfl,(by omega),T,hm⟩ ?_ ?_
  ·rintro f w9 ⟨xs8,uxs8,bsxs8,s3_1x,Guxs8,T,hm⟩
   unfold m_laws_toCoreS_A1 at hm
   refine blk_hit (then_n ?_)
   refine wp_seq<|wp_rs rfl<|RQ.y rfl (Y.move (v:=uxs8) s3_1x)<|RQ.y rfl (Y.assign (v:=uxs8) rfl)<|RQ.nil<|then_n<|wp_ret ?_
   obtain rfl:=sj hm
   exact (ret1 rfl rfl rfl ⟨⟨_,_,rfl,Guxs8⟩,T⟩)
  rintro g f w12 ⟨xs10,i11,uxs10,bsxs10,s0_1,s3_1,Guxs10,s4_1,nn4_1,T,hm⟩
  rcases g with _|g
  ·simp only [m_laws_toCoreS_L1] at hm; cases hm
  obtain ⟨rec1,hrec1,hm⟩ :∃z,z=m_laws_toCoreS_L1 self1 d0 K1 g∧m_laws_toCoreS_B1 self1 d0 z K1 xs10 i11=some r:=⟨_,rfl,hm⟩
  unfold m_laws_toCoreS_B1 at hm
  refine wp_seq<|wp_seq<|wp_rs rfl<|RQ.y rfl (Y.move (v:=.int .i64 i11) s4_1)<|RQ.y rfl (Y.move (v:=.slice Aa0 d0.length ca0) s0_1)<|RQ.y rfl (Y.len (by kernel_rfl) rfl)<|RQ.y rfl (Y.binI (v:=.bool (decide (i11 < (d0.length:Int)))) rfl rfl rfl)<|RQ.nil<|then_n ?_
  rcases bcases (decide (i11 < (d0.length:Int))) with c13|c13
  ·replace hm:=cF c13 hm
   have pc13:=of_decide_eq_false c13
   refine cond_f rfl (vb rfl c13)<|wp_exit ?_
   exact (then_x (then_x (hit_x ⟨_,rfl,⟨xs10,(uxs10),bsxs10,s3_1,Guxs10,T,(by rw [hK1] at hm; exact hm)⟩⟩)))
  replace hm:=cT c13 hm
  have pc13:=of_decide_eq_true c13
  refine cond_t rfl (vb rfl c13)<|wp_skip<|then_n<|wp_seq<|wp_block<|wp_rl rfl<|RL.y rfl (Y.move (v:=uxs10) s3_1)<|RL.y rfl (Y.move (v:=.int .i64 i11) s4_1)<|RL.y rfl (Y.move (v:=.slice Aa0 d0.length ca0) s0_1)<|RL.y rfl (Y.move (v:=.int .i64 i11) s4_1) ?_
  obtain ⟨x14,hx17,hm⟩:=bnd hm
  obtain ⟨k15,hk18,hl19,hx17⟩:=getI_some hx17
  obtain ⟨b21,o22,rfl,hbb21⟩:=ha0.addr (by omega)
  obtain ⟨cs16,hRcs16,hc20⟩:=ha0.el hx17
  have hScs16:=hRcs16
  obtain ⟨A23,n23,c23,A24,n24,c24,rfl,⟨h23,r23⟩,⟨h24,r24⟩⟩:=(coreRd_out hRcs16)
  have e23:=h23.len; subst e23
  have q23:=len_le r23
  have e24:=h24.len; subst e24
  have q24:=len_le r24
  refine RL.y rfl (Y.indexAddr (m:=k15) (sz:=4) rfl rfl hk18 hl19 (by kernel_rfl))<|RL.y rfl (Y.loadN (cs:=[.int .i64 x14.kind,.int .i64 x14.value,.slice A23 x14.data.length c23,.slice A24 x14.kids.length c24]) rfl (by kernel_rfl) (cells4 (eqC (cellT T (hc20 0 _ rfl))) (eqC (cellT T (hc20 1 _ rfl))) (eqC (cellT T (hc20 2 _ rfl))) (eqC (cellT T (hc20 3 _ rfl))))) ?_
  obtain ⟨y25,e26,hm⟩:=bnd hm
  refine RL.call rfl (am1 rfl) (by kernel_rfl) ((ih1 x14 _ e26 _ _ (stArg (R:=coreRd) (coreRd_in ⟨_,_,_,_,_,_,rfl,⟨SlAt.now intRd_ok h23 (Nat.le_refl _) T,r23⟩,⟨SlAt.now coreRd_ok h24 (Nat.le_refl _) T,r24⟩⟩))).mono ?_)
  rintro _ w34 ⟨⟨v27,v30,bs33,rfl,G28,G31,Ro29_o32⟩,hb35⟩
  refine ⟨_,rfl,?_⟩
  have szw34:=hb35.size
  have T0w34:=T.size
  have Zo29_oxs10:Ap (fb v27) bsxs10:=(Ap.new (OwF.flo G28) (OwN.hi Guxs10))
  have Zo32_oxs10:Ap bs33 bsxs10:=(Ap.new (OwN.lo_ G31) (OwN.hi Guxs10))
  have Guxs10:=OwN.below coreOw_ok Guxs10 hb35
  have T:=Tt T hb35
  replace G28:=OwF.mono G28 T0w34
  replace G31:=OwN.mono G31 T0w34
  obtain ⟨A36,c37,rfl⟩:=OwN.form Guxs10
  have qbA36:=OwN.bound Guxs10
  obtain ⟨x38,hx40,hm⟩:=bnd hm
  obtain ⟨k39,hk41,hl42,hx40⟩:=getI_some hx40
  obtain ⟨b43,rfl⟩:=OwN.addr0 Guxs10 (by omega)
  refine RL.y rfl (Y.indexAddr (m:=k39) (sz:=4) rfl rfl hk41 hl42 (by kernel_rfl)) ?_
  obtain ⟨A44,c45,rfl⟩:=OwF.form G28
  have qbA44:=OwF.bound G28
  obtain ⟨A46,c47,rfl⟩:=OwN.form G31
  have qbA46:=OwN.bound G31
  obtain ⟨l49,a48,nd50,sb51,r52⟩:=OwF.own2 fI G28
  obtain ⟨_,_,_,l54,hea53,a53,nd55,sb56,r57⟩:=OwN.own1 coreOw_ok G31
  injection hea53 with e1 e2 e3; subst e1 e2 e3
  refine RL.storeNW (k:=k39) (a':=y25) (l:=(l49 ++ l54)) (fp:=((fb (.slice A44 y25.data.length c45)) ++ bs33)) coreOw_ok coreOw_one rfl rfl rfl Guxs10 hx40 (coreOw_in ⟨_,_,_,_,_,_,l49,l54,rfl,⟨a48,r52⟩,⟨a53,r57⟩,rfl⟩) (nodup2 nd50 nd55 sb51 sb56 Ro29_o32) (sub2 sb51 sb56) (Ap.symm (Ap.append Zo29_oxs10 Zo32_oxs10)) (all2 (OwF.fboth G28 (Nat.le_refl _)) (OwN.both G31 (Nat.le_refl _))) (by kernel_rfl) (fun w58 G59 ho60=>?_)
  have szw58:=ho60.size
  have T:=T.trans (ho60.below (by intro b hb; simp at hb; subst hb; exact OwN.lo_ Guxs10 _ (OwN.row Guxs10 rfl)))
  have G59:OwN 78 coreOw 4 w58 w.heap.size (.slice (some ⟨b43,0,none⟩) xs10.length c37) (setI xs10 i11 y25) (bsxs10 ++ ((fb (.slice A44 y25.data.length c45)) ++ bs33)):=by rw [setI_eq hk41]; exact G59
  refine RL.nil ?_
  refine blk_n (then_n ?_)
  refine wp_rs rfl<|RQ.y rfl (Y.move (v:=.int .i64 i11) s4_1)<|RQ.y rfl (Y.binI rfl rfl (binI_add (m:=i11) (by omega)))<|RQ.y rfl (Y.assign (v:=.int .i64 (i11+1)) rfl)<|RQ.nil ?_
  exact (then_n ⟨g,_,Nat.lt_succ_self _,rfl,⟨(setI xs10 i11 y25),(i11+1),(.slice (some ⟨b43,0,none⟩) xs10.length c37),(bsxs10 ++ ((fb (.slice A44 y25.data.length c45)) ++ bs33)),s0_1,s3_1,G59,rfl,(by omega),T,(by rw [← hrec1]; exact hm)⟩⟩)
noncomputable def m_laws_toCore_R (self0:(List DCore)→Option (List DCore)) (self1:DCore→Option DCore) (d0:DCore):Option DCore:=
  ((m_laws_toInt64S d0.data).bind fun y21=>((self0 d0.kids).bind fun y33=>some (⟨d0.kind,d0.value,y21,y33⟩:DCore)))
set_option maxHeartbeats 2000000 in
theorem c_m_laws_toCore_S (self0:(List DCore)→Option (List DCore)) (self1:DCore→Option DCore) (ih0 :∀(d0:List DCore) (r:List DCore) (hm:self0 d0=some r) (v0:Value) (w:World) (hv0:Sl coreRd 4 w v0 d0),Calls Tryz.prog 59 #[v0] w fun e w'=>(∃(v0:Value) (bs0:List Nat),e=.returned (v0)∧OwN 78 coreOw 4 w' w.heap.size v0 r bs0)∧Below w.heap.size w w') (ih1 :∀(d0:DCore) (r:DCore) (hm:self1 d0=some r) (v0:Value) (w:World) (hv0:St coreRd w v0 d0),Calls Tryz.prog 114 #[v0] w fun e w'=>(∃(v0:Value) (v1:Value) (bs1:List Nat),e=.returned (.agg #[.int .i64 r.kind,.int .i64 r.value,v0,v1])∧OwF 2 encI 1 w' w.heap.size v0 r.data∧OwN 78 coreOw 4 w' w.heap.size v1 r.kids bs1∧Ap (fb v0) bs1)∧Below w.heap.size w w') :∀(d0:DCore) (r:DCore) (hm:m_laws_toCore_R self0 self1 d0=some r) (v0:Value) (w:World) (hv0:St coreRd w v0 d0),
    Calls Tryz.prog 114 #[v0] w fun e w'=>(∃(v0:Value) (v1:Value) (bs1:List Nat),e=.returned (.agg #[.int .i64 r.kind,.int .i64 r.value,v0,v1])∧OwF 2 encI 1 w' w.heap.size v0 r.data∧OwN 78 coreOw 4 w' w.heap.size v1 r.kids bs1∧Ap (fb v0) bs1)∧Below w.heap.size w w':=by
  intro d0 r hm v0 w hv0
  obtain ⟨csa0,rfl,hRR0⟩:=hv0
  obtain ⟨A1,n1,c1,A2,n2,c2,rfl,⟨h1,r1⟩,⟨h2,r2⟩⟩:=(coreRd_out hRR0)
  have e1:=h1.len; subst e1
  have q1:=len_le r1
  have e2:=h2.len; subst e2
  have q2:=len_le r2
  have T:=Below.refl w.heap.size w
  unfold m_laws_toCore_R at hm
  refine enter 19 Tryz.func114 rfl rfl rfl ?_
  intro f hf
  have s0:f 0=.agg #[.int .i64 d0.kind,.int .i64 d0.value,.slice A1 d0.data.length c1,.slice A2 d0.kids.length c2]:=hf 0 _ rfl
  refine wp_seq<|wp_rl rfl ?_
  refine RL.box rfl s0 (fun w3 B4 hb5 szw3=>?_)
  replace B4:Blk w3 w.heap.size 62 #[.int .i64 d0.kind,.int .i64 d0.value,.slice A1 d0.data.length c1,.slice A2 d0.kids.length c2]:=B4
  have GB4:w.heap.size≤w.heap.size:=T.size
  have T:=Tt T hb5
  refine RL.alloc (z:=.agg #[.int .i64 0,.int .i64 0,.slice none 0 0,.slice none 0 0]) rfl (by kernel_rfl) (fun w7 B8 hb9 szw7=>?_)
  replace B8:Blk w7 w3.heap.size 78 #[.int .i64 0,.int .i64 0,.slice none 0 0,.slice none 0 0]:=B8
  have GB8:w.heap.size≤w3.heap.size:=T.size
  have Eob10_ob6:=Nat.ne_of_lt B4.lt
  have B4:=blkT B4 hb9
  have T:=Tt T hb9
  refine RL.nil<|then_n<|wp_seq<|wp_rl rfl ?_
  refine RL.alloc (z:=.agg #[.int .i64 0,.int .i64 0,.slice none 0 0,.slice none 0 0]) rfl (by kernel_rfl) (fun w11 B12 hb13 szw11=>?_)
  replace B12:Blk w11 w7.heap.size 78 #[.int .i64 0,.int .i64 0,.slice none 0 0,.slice none 0 0]:=B12
  have GB12:w.heap.size≤w7.heap.size:=T.size
  have Eob14_ob6:=Nat.ne_of_lt B4.lt
  have Eob14_ob10:=Nat.ne_of_lt B8.lt
  have B4:=blkT B4 hb13
  have B8:=blkT B8 hb13
  have T:=Tt T hb13
  refine RL.nil<|then_n<|wp_seq<|wp_rl rfl<|RL.y rfl (Y.fieldAddr (off:=0) rfl (by kernel_rfl))<|RL.y rfl (Y.load (v:=.int .i64 d0.kind) rfl (by kernel_rfl) (eqC (blkCell B4 (i:=0) rfl)))<|RL.y rfl (Y.fieldAddr (off:=0) rfl (by kernel_rfl)) ?_
  refine RL.store (v:=.int .i64 d0.kind) (cs':=#[.int .i64 d0.kind,.int .i64 0,.slice none 0 0,.slice none 0 0]) rfl rfl rfl B12 (by kernel_rfl) (by rfl) (by rfl) (by rfl) (fun w15 B16 ho17=>?_)
  have szw15:=ho17.size
  have B4:=B4.only_ ho17 (by intro hin; simp at hin; exact Eob14_ob6 hin)
  have B8:=B8.only_ ho17 (by intro hin; simp at hin; exact Eob14_ob10 hin)
  have T:=T.trans (ho17.below (by first|(simp; done)|(simp; omega)))
  refine RL.nil<|then_n<|wp_seq<|wp_rl rfl<|RL.y rfl (Y.fieldAddr (off:=1) rfl (by kernel_rfl))<|RL.y rfl (Y.load (v:=.int .i64 d0.value) rfl (by kernel_rfl) (eqC (blkCell B4 (i:=1) rfl)))<|RL.y rfl (Y.fieldAddr (off:=1) rfl (by kernel_rfl)) ?_
  refine RL.store (v:=.int .i64 d0.value) (cs':=#[.int .i64 d0.kind,.int .i64 d0.value,.slice none 0 0,.slice none 0 0]) rfl rfl rfl B16 (by kernel_rfl) (by rfl) (by rfl) (by rfl) (fun w18 B19 ho20=>?_)
  have szw18:=ho20.size
  have B4:=B4.only_ ho20 (by intro hin; simp at hin; exact Eob14_ob6 hin)
  have B8:=B8.only_ ho20 (by intro hin; simp at hin; exact Eob14_ob10 hin)
  have T:=T.trans (ho20.below (by first|(simp; done)|(simp; omega)))
  refine RL.nil<|then_n<|wp_seq<|wp_rl rfl<|RL.y rfl (Y.fieldAddr (off:=2) rfl (by kernel_rfl))<|RL.y rfl (Y.load (v:=.slice A1 d0.data.length c1) rfl (by kernel_rfl) (eqC (blkCell B4 (i:=2) rfl))) ?_
  obtain ⟨y21,e22,hm⟩:=bnd hm
  refine RL.call rfl (am1 rfl) (by kernel_rfl) ((c_m_laws_toInt64S d0.data _ e22 _ _ (slArg intRd_ok h1 r1 T)).mono ?_)
  rintro _ w26 ⟨⟨v23,rfl,G24⟩,hb27⟩
  refine ⟨_,rfl,?_⟩
  have szw26:=hb27.size
  have T0w26:=T.size
  have Zo25_ob6:=ap_ne (Ap.new (OwF.flo G24) (one_hi B4.lt))
  have Zo25_ob10:=ap_ne (Ap.new (OwF.flo G24) (one_hi B8.lt))
  have Zo25_ob14:=ap_ne (Ap.new (OwF.flo G24) (one_hi B19.lt))
  have B4:=blkT B4 hb27
  have B8:=blkT B8 hb27
  have B19:=blkT B19 hb27
  have T:=Tt T hb27
  replace G24:=OwF.mono G24 T0w26
  refine RL.y rfl (Y.fieldAddr (off:=2) rfl (by kernel_rfl)) ?_
  obtain ⟨A28,c29,rfl⟩:=OwF.form G24
  have qbA28:=OwF.bound G24
  refine RL.store (v:=.slice A28 y21.length c29) (cs':=#[.int .i64 d0.kind,.int .i64 d0.value,.slice A28 y21.length c29,.slice none 0 0]) rfl rfl rfl B19 (by kernel_rfl) (by rfl) (by rfl) (by rfl) (fun w30 B31 ho32=>?_)
  have szw30:=ho32.size
  have B4:=B4.only_ ho32 (by intro hin; simp at hin; exact Eob14_ob6 hin)
  have B8:=B8.only_ ho32 (by intro hin; simp at hin; exact Eob14_ob10 hin)
  have G24:=OwF.only G24 ho32 Zo25_ob14
  have T:=T.trans (ho32.below (by first|(simp; done)|(simp; omega)))
  refine RL.nil<|then_n<|wp_seq<|wp_rl rfl<|RL.y rfl (Y.fieldAddr (off:=3) rfl (by kernel_rfl))<|RL.y rfl (Y.load (v:=.slice A2 d0.kids.length c2) rfl (by kernel_rfl) (eqC (blkCell B4 (i:=3) rfl))) ?_
  obtain ⟨y33,e34,hm⟩:=bnd hm
  refine RL.call rfl (am1 rfl) (by kernel_rfl) ((ih0 d0.kids _ e34 _ _ (slArg coreRd_ok h2 r2 T)).mono ?_)
  rintro _ w39 ⟨⟨v35,bs38,rfl,G36⟩,hb40⟩
  refine ⟨_,rfl,?_⟩
  have szw39:=hb40.size
  have T0w39:=T.size
  have Zo37_ob6:Ap bs38 [w.heap.size]:=(Ap.new (OwN.lo_ G36) (one_hi B4.lt))
  have Zo37_ob10:Ap bs38 [w3.heap.size]:=(Ap.new (OwN.lo_ G36) (one_hi B8.lt))
  have Zo37_ob14:Ap bs38 [w7.heap.size]:=(Ap.new (OwN.lo_ G36) (one_hi B31.lt))
  have Zo37_o25:Ap bs38 (fb (.slice A28 y21.length c29)):=(Ap.new (OwN.lo_ G36) (OwF.fhi G24))
  have B4:=blkT B4 hb40
  have B8:=blkT B8 hb40
  have B31:=blkT B31 hb40
  have G24:=OwF.below G24 hb40
  have T:=Tt T hb40
  replace G36:=OwN.mono G36 T0w39
  refine RL.y rfl (Y.fieldAddr (off:=3) rfl (by kernel_rfl)) ?_
  obtain ⟨A41,c42,rfl⟩:=OwN.form G36
  have qbA41:=OwN.bound G36
  refine RL.store (v:=.slice A41 y33.length c42) (cs':=#[.int .i64 d0.kind,.int .i64 d0.value,.slice A28 y21.length c29,.slice A41 y33.length c42]) rfl rfl rfl B31 (by kernel_rfl) (by rfl) (by rfl) (by rfl) (fun w43 B44 ho45=>?_)
  have szw43:=ho45.size
  have B4:=B4.only_ ho45 (by intro hin; simp at hin; exact Eob14_ob6 hin)
  have B8:=B8.only_ ho45 (by intro hin; simp at hin; exact Eob14_ob10 hin)
  have G24:=OwF.only G24 ho45 Zo25_ob14
  have G36:=OwN.only coreOw_ok G36 ho45 (Ap.one Zo37_ob14)
  have T:=T.trans (ho45.below (by first|(simp; done)|(simp; omega)))
  refine RL.nil<|then_n<|wp_seq<|wp_rl rfl<|RL.y rfl (Y.loadN (cs:=[.int .i64 d0.kind,.int .i64 d0.value,.slice A28 y21.length c29,.slice A41 y33.length c42]) rfl (by kernel_rfl) (cells4 (eqC (blkCell B44 (i:=0) rfl)) (eqC (blkCell B44 (i:=1) rfl)) (eqC (blkCell B44 (i:=2) rfl)) (eqC (blkCell B44 (i:=3) rfl)))) ?_
  refine RL.store (v:=.agg #[.int .i64 d0.kind,.int .i64 d0.value,.slice A28 y21.length c29,.slice A41 y33.length c42]) (cs':=#[.int .i64 d0.kind,.int .i64 d0.value,.slice A28 y21.length c29,.slice A41 y33.length c42]) rfl rfl rfl B8 (by kernel_rfl) (by rfl) (by rfl) (by rfl) (fun w46 B47 ho48=>?_)
  have szw46:=ho48.size
  have B44:=B44.only_ ho48 (by intro hin; simp at hin; exact Eob14_ob10.symm hin)
  have G24:=OwF.only G24 ho48 Zo25_ob10
  have G36:=OwN.only coreOw_ok G36 ho48 (Ap.one Zo37_ob10)
  have T:=T.trans (ho48.below (by first|(simp; done)|(simp; omega)))
  refine RL.nil<|then_n<|wp_ret ?_
  obtain rfl:=sj hm
  exact (retc (cs:=[.int .i64 d0.kind,.int .i64 d0.value,.slice A28 y21.length c29,.slice A41 y33.length c42]) rfl rfl rfl (by kernel_rfl) (blkCells B47) ⟨⟨_,_,_,rfl,G24,G36,(Ap.symm Zo37_o25)⟩,T⟩)
noncomputable def g_m_laws_toCoreS:Nat→((List DCore)→Option (List DCore)) × (DCore→Option DCore)
  |0=>(fun _=>none,fun _=>none)
  |gas+1=>(m_laws_toCoreS_R (g_m_laws_toCoreS gas).1 (g_m_laws_toCoreS gas).2,m_laws_toCore_R (g_m_laws_toCoreS gas).1 (g_m_laws_toCoreS gas).2)
noncomputable def m_laws_toCoreS (gas:Nat):(List DCore)→Option (List DCore):=(g_m_laws_toCoreS gas).1
noncomputable def m_laws_toCore (gas:Nat):DCore→Option DCore:=(g_m_laws_toCoreS gas).2
theorem c_g_m_laws_toCoreS :∀gas:Nat,(∀(d0:List DCore) (r:List DCore) (hm:m_laws_toCoreS gas d0=some r) (v0:Value) (w:World) (hv0:Sl coreRd 4 w v0 d0),Calls Tryz.prog 59 #[v0] w fun e w'=>(∃(v0:Value) (bs0:List Nat),e=.returned (v0)∧OwN 78 coreOw 4 w' w.heap.size v0 r bs0)∧Below w.heap.size w w')∧(∀(d0:DCore) (r:DCore) (hm:m_laws_toCore gas d0=some r) (v0:Value) (w:World) (hv0:St coreRd w v0 d0),Calls Tryz.prog 114 #[v0] w fun e w'=>(∃(v0:Value) (v1:Value) (bs1:List Nat),e=.returned (.agg #[.int .i64 r.kind,.int .i64 r.value,v0,v1])∧OwF 2 encI 1 w' w.heap.size v0 r.data∧OwN 78 coreOw 4 w' w.heap.size v1 r.kids bs1∧Ap (fb v0) bs1)∧Below w.heap.size w w'):=by
  intro gas
  induction gas with
  |zero=>exact ⟨(fun _ r hm=>by have h0:(none:Option _)=some r:=hm; cases h0),(fun _ r hm=>by have h0:(none:Option _)=some r:=hm; cases h0)⟩
  |succ gas ih=>exact ⟨c_m_laws_toCoreS_S _ _ (ih).1 (ih).2,c_m_laws_toCore_S _ _ (ih).1 (ih).2⟩
theorem c_m_laws_toCoreS (gas : Nat) : ∀ (d0 : List DCore) (r : List DCore) (hm : m_laws_toCoreS gas d0 = some r) (v0 : Value) (w : World) (hv0 : Sl coreRd 4 w v0 d0), Calls Tryz.prog 59 #[v0] w fun e w' => (∃ (v0 : Value) (bs0 : List Nat), e = .returned (v0) ∧ OwN 78 coreOw 4 w' w.heap.size v0 r bs0) ∧ Below w.heap.size w w' := (c_g_m_laws_toCoreS gas).1
theorem c_m_laws_toCore (gas : Nat) : ∀ (d0 : DCore) (r : DCore) (hm : m_laws_toCore gas d0 = some r) (v0 : Value) (w : World) (hv0 : St coreRd w v0 d0), Calls Tryz.prog 114 #[v0] w fun e w' => (∃ (v0 : Value) (v1 : Value) (bs1 : List Nat), e = .returned (.agg #[.int .i64 r.kind, .int .i64 r.value, v0, v1]) ∧ OwF 2 encI 1 w' w.heap.size v0 r.data ∧ OwN 78 coreOw 4 w' w.heap.size v1 r.kids bs1 ∧ Ap (fb v0) bs1) ∧ Below w.heap.size w w' := (c_g_m_laws_toCoreS gas).2
noncomputable def m_laws_toBook (d0:DBook):Option DBook:=
  ((m_laws_toCoreS (SizeOf.sizeOf d0.defs) d0.defs).bind fun y14=>some (⟨y14⟩:DBook))
set_option maxHeartbeats 2000000 in
theorem c_m_laws_toBook (d0:DBook) (r:DBook) (hm:m_laws_toBook d0=some r) (v0:Value) (w:World) (hv0:St bookRd w v0 d0) :
    Calls Tryz.prog 23 #[v0] w fun e w'=>(∃(v0:Value) (bs0:List Nat),e=.returned (.agg #[v0])∧OwN 78 coreOw 4 w' w.heap.size v0 r.defs bs0)∧Below w.heap.size w w':=by
  obtain ⟨csa0,rfl,⟨A1,n1,c1,rfl,⟨h1,r1⟩⟩⟩:=hv0
  have e1:=h1.len; subst e1
  have q1:=len_le r1
  have T:=Below.refl w.heap.size w
  unfold m_laws_toBook at hm
  refine enter 9 Tryz.func23 rfl rfl rfl ?_
  intro f hf
  have s0:f 0=.agg #[.slice A1 d0.defs.length c1]:=hf 0 _ rfl
  refine wp_seq<|wp_rl rfl ?_
  refine RL.box rfl s0 (fun w2 B3 hb4 szw2=>?_)
  replace B3:Blk w2 w.heap.size 59 #[.slice A1 d0.defs.length c1]:=B3
  have GB3:w.heap.size≤w.heap.size:=T.size
  have T:=Tt T hb4
  refine RL.alloc (z:=.agg #[.slice none 0 0]) rfl (by kernel_rfl) (fun w6 B7 hb8 szw6=>?_)
  replace B7:Blk w6 w2.heap.size 75 #[.slice none 0 0]:=B7
  have GB7:w.heap.size≤w2.heap.size:=T.size
  have Eob9_ob5:=Nat.ne_of_lt B3.lt
  have B3:=blkT B3 hb8
  have T:=Tt T hb8
  refine RL.nil<|then_n<|wp_seq<|wp_rl rfl ?_
  refine RL.alloc (z:=.agg #[.slice none 0 0]) rfl (by kernel_rfl) (fun w10 B11 hb12 szw10=>?_)
  replace B11:Blk w10 w6.heap.size 75 #[.slice none 0 0]:=B11
  have GB11:w.heap.size≤w6.heap.size:=T.size
  have Eob13_ob5:=Nat.ne_of_lt B3.lt
  have Eob13_ob9:=Nat.ne_of_lt B7.lt
  have B3:=blkT B3 hb12
  have B7:=blkT B7 hb12
  have T:=Tt T hb12
  refine RL.nil<|then_n<|wp_seq<|wp_rl rfl<|RL.y rfl (Y.fieldAddr (off:=0) rfl (by kernel_rfl))<|RL.y rfl (Y.load (v:=.slice A1 d0.defs.length c1) rfl (by kernel_rfl) (eqC (blkCell B3 (i:=0) rfl))) ?_
  obtain ⟨y14,e15,hm⟩:=bnd hm
  refine RL.call rfl (am1 rfl) (by kernel_rfl) ((c_m_laws_toCoreS (SizeOf.sizeOf d0.defs) d0.defs _ e15 _ _ (slArg coreRd_ok h1 r1 T)).mono ?_)
  rintro _ w20 ⟨⟨v16,bs19,rfl,G17⟩,hb21⟩
  refine ⟨_,rfl,?_⟩
  have szw20:=hb21.size
  have T0w20:=T.size
  have Zo18_ob5:Ap bs19 [w.heap.size]:=(Ap.new (OwN.lo_ G17) (one_hi B3.lt))
  have Zo18_ob9:Ap bs19 [w2.heap.size]:=(Ap.new (OwN.lo_ G17) (one_hi B7.lt))
  have Zo18_ob13:Ap bs19 [w6.heap.size]:=(Ap.new (OwN.lo_ G17) (one_hi B11.lt))
  have B3:=blkT B3 hb21
  have B7:=blkT B7 hb21
  have B11:=blkT B11 hb21
  have T:=Tt T hb21
  replace G17:=OwN.mono G17 T0w20
  refine RL.y rfl (Y.fieldAddr (off:=0) rfl (by kernel_rfl)) ?_
  obtain ⟨A22,c23,rfl⟩:=OwN.form G17
  have qbA22:=OwN.bound G17
  refine RL.store (v:=.slice A22 y14.length c23) (cs':=#[.slice A22 y14.length c23]) rfl rfl rfl B11 (by kernel_rfl) (by rfl) (by rfl) (by rfl) (fun w24 B25 ho26=>?_)
  have szw24:=ho26.size
  have B3:=B3.only_ ho26 (by intro hin; simp at hin; exact Eob13_ob5 hin)
  have B7:=B7.only_ ho26 (by intro hin; simp at hin; exact Eob13_ob9 hin)
  have G17:=OwN.only coreOw_ok G17 ho26 (Ap.one Zo18_ob13)
  have T:=T.trans (ho26.below (by first|(simp; done)|(simp; omega)))
  refine RL.nil<|then_n<|wp_seq<|wp_rl rfl<|RL.y rfl (Y.loadN (cs:=[.slice A22 y14.length c23]) rfl (by kernel_rfl) (cells1 (eqC (blkCell B25 (i:=0) rfl)))) ?_
  refine RL.store (v:=.agg #[.slice A22 y14.length c23]) (cs':=#[.slice A22 y14.length c23]) rfl rfl rfl B7 (by kernel_rfl) (by rfl) (by rfl) (by rfl) (fun w27 B28 ho29=>?_)
  have szw27:=ho29.size
  have B25:=B25.only_ ho29 (by intro hin; simp at hin; exact Eob13_ob9.symm hin)
  have G17:=OwN.only coreOw_ok G17 ho29 (Ap.one Zo18_ob9)
  have T:=T.trans (ho29.below (by first|(simp; done)|(simp; omega)))
  refine RL.nil<|then_n<|wp_ret ?_
  obtain rfl:=sj hm
  exact (retc (cs:=[.slice A22 y14.length c23]) rfl rfl rfl (by kernel_rfl) (blkCells B28) ⟨⟨_,_,rfl,G17⟩,T⟩)
noncomputable def m_laws_toClosure (d0:DClosure):Option DClosure:=
  ((m_laws_toCore (SizeOf.sizeOf (⟨d0.term.kind,d0.term.value,d0.term.data,d0.term.kids⟩:DCore)) (⟨d0.term.kind,d0.term.value,d0.term.data,d0.term.kids⟩:DCore)).bind fun y16=>((m_laws_toInt64S d0.env).bind fun y34=>some (⟨(⟨y16.kind,y16.value,y16.data,y16.kids⟩:DCore),y34⟩:DClosure)))
set_option maxHeartbeats 2000000 in
theorem c_m_laws_toClosure (d0:DClosure) (r:DClosure) (hm:m_laws_toClosure d0=some r) (v0:Value) (w:World) (hv0:St closureRd w v0 d0) :
    Calls Tryz.prog 60 #[v0] w fun e w'=>(∃(v0:Value) (v1:Value) (bs1:List Nat) (v2:Value),e=.returned (.agg #[.int .i64 r.term.kind,.int .i64 r.term.value,v0,v1,v2])∧OwF 2 encI 1 w' w.heap.size v0 r.term.data∧OwN 78 coreOw 4 w' w.heap.size v1 r.term.kids bs1∧OwF 2 encI 1 w' w.heap.size v2 r.env∧Ap (fb v0) bs1∧Dj v0 v2∧Ap bs1 (fb v2))∧Below w.heap.size w w':=by
  obtain ⟨csa0,rfl,⟨A1,n1,c1,A2,n2,c2,A3,n3,c3,rfl,⟨h1,r1⟩,⟨h2,r2⟩,⟨h3,r3⟩⟩⟩:=hv0
  have e1:=h1.len; subst e1
  have q1:=len_le r1
  have e2:=h2.len; subst e2
  have q2:=len_le r2
  have e3:=h3.len; subst e3
  have q3:=len_le r3
  have T:=Below.refl w.heap.size w
  unfold m_laws_toClosure at hm
  refine enter 13 Tryz.func60 rfl rfl rfl ?_
  intro f hf
  have s0:f 0=.agg #[.int .i64 d0.term.kind,.int .i64 d0.term.value,.slice A1 d0.term.data.length c1,.slice A2 d0.term.kids.length c2,.slice A3 d0.env.length c3]:=hf 0 _ rfl
  refine wp_seq<|wp_rl rfl ?_
  refine RL.box rfl s0 (fun w4 B5 hb6 szw4=>?_)
  replace B5:Blk w4 w.heap.size 64 #[.int .i64 d0.term.kind,.int .i64 d0.term.value,.slice A1 d0.term.data.length c1,.slice A2 d0.term.kids.length c2,.slice A3 d0.env.length c3]:=B5
  have GB5:w.heap.size≤w.heap.size:=T.size
  have T:=Tt T hb6
  refine RL.alloc (z:=.agg #[.int .i64 0,.int .i64 0,.slice none 0 0,.slice none 0 0,.slice none 0 0]) rfl (by kernel_rfl) (fun w8 B9 hb10 szw8=>?_)
  replace B9:Blk w8 w4.heap.size 80 #[.int .i64 0,.int .i64 0,.slice none 0 0,.slice none 0 0,.slice none 0 0]:=B9
  have GB9:w.heap.size≤w4.heap.size:=T.size
  have Eob11_ob7:=Nat.ne_of_lt B5.lt
  have B5:=blkT B5 hb10
  have T:=Tt T hb10
  refine RL.nil<|then_n<|wp_seq<|wp_rl rfl ?_
  refine RL.alloc (z:=.agg #[.int .i64 0,.int .i64 0,.slice none 0 0,.slice none 0 0,.slice none 0 0]) rfl (by kernel_rfl) (fun w12 B13 hb14 szw12=>?_)
  replace B13:Blk w12 w8.heap.size 80 #[.int .i64 0,.int .i64 0,.slice none 0 0,.slice none 0 0,.slice none 0 0]:=B13
  have GB13:w.heap.size≤w8.heap.size:=T.size
  have Eob15_ob7:=Nat.ne_of_lt B5.lt
  have Eob15_ob11:=Nat.ne_of_lt B9.lt
  have B5:=blkT B5 hb14
  have B9:=blkT B9 hb14
  have T:=Tt T hb14
  refine RL.nil<|then_n<|wp_seq<|wp_rl rfl<|RL.y rfl (Y.fieldAddr (off:=0) rfl (by kernel_rfl))<|RL.y rfl (Y.loadN (cs:=[.int .i64 d0.term.kind,.int .i64 d0.term.value,.slice A1 d0.term.data.length c1,.slice A2 d0.term.kids.length c2]) rfl (by kernel_rfl) (cells4 (eqC (blkCell B5 (i:=0) rfl)) (eqC (blkCell B5 (i:=1) rfl)) (eqC (blkCell B5 (i:=2) rfl)) (eqC (blkCell B5 (i:=3) rfl)))) ?_
  obtain ⟨y16,e17,hm⟩:=bnd hm
  refine RL.call rfl (am1 rfl) (by kernel_rfl) ((c_m_laws_toCore (SizeOf.sizeOf (⟨d0.term.kind,d0.term.value,d0.term.data,d0.term.kids⟩:DCore)) (⟨d0.term.kind,d0.term.value,d0.term.data,d0.term.kids⟩:DCore) _ e17 _ _ (stArg (R:=coreRd) (coreRd_in ⟨_,_,_,_,_,_,rfl,⟨SlAt.now intRd_ok h1 (Nat.le_refl _) T,r1⟩,⟨SlAt.now coreRd_ok h2 (Nat.le_refl _) T,r2⟩⟩))).mono ?_)
  rintro _ w25 ⟨⟨v18,v21,bs24,rfl,G19,G22,Ro20_o23⟩,hb26⟩
  refine ⟨_,rfl,?_⟩
  have szw25:=hb26.size
  have T0w25:=T.size
  have Zo20_ob7:=ap_ne (Ap.new (OwF.flo G19) (one_hi B5.lt))
  have Zo20_ob11:=ap_ne (Ap.new (OwF.flo G19) (one_hi B9.lt))
  have Zo20_ob15:=ap_ne (Ap.new (OwF.flo G19) (one_hi B13.lt))
  have Zo23_ob7:Ap bs24 [w.heap.size]:=(Ap.new (OwN.lo_ G22) (one_hi B5.lt))
  have Zo23_ob11:Ap bs24 [w4.heap.size]:=(Ap.new (OwN.lo_ G22) (one_hi B9.lt))
  have Zo23_ob15:Ap bs24 [w8.heap.size]:=(Ap.new (OwN.lo_ G22) (one_hi B13.lt))
  have B5:=blkT B5 hb26
  have B9:=blkT B9 hb26
  have B13:=blkT B13 hb26
  have T:=Tt T hb26
  replace G19:=OwF.mono G19 T0w25
  replace G22:=OwN.mono G22 T0w25
  refine RL.y rfl (Y.fieldAddr (off:=0) rfl (by kernel_rfl)) ?_
  obtain ⟨A27,c28,rfl⟩:=OwF.form G19
  have qbA27:=OwF.bound G19
  obtain ⟨A29,c30,rfl⟩:=OwN.form G22
  have qbA29:=OwN.bound G22
  refine RL.store (v:=.agg #[.int .i64 y16.kind,.int .i64 y16.value,.slice A27 y16.data.length c28,.slice A29 y16.kids.length c30]) (cs':=#[.int .i64 y16.kind,.int .i64 y16.value,.slice A27 y16.data.length c28,.slice A29 y16.kids.length c30,.slice none 0 0]) rfl rfl rfl B13 (by kernel_rfl) (by rfl) (by rfl) (by rfl) (fun w31 B32 ho33=>?_)
  have szw31:=ho33.size
  have B5:=B5.only_ ho33 (by intro hin; simp at hin; exact Eob15_ob7 hin)
  have B9:=B9.only_ ho33 (by intro hin; simp at hin; exact Eob15_ob11 hin)
  have G19:=OwF.only G19 ho33 Zo20_ob15
  have G22:=OwN.only coreOw_ok G22 ho33 (Ap.one Zo23_ob15)
  have T:=T.trans (ho33.below (by first|(simp; done)|(simp; omega)))
  refine RL.nil<|then_n<|wp_seq<|wp_rl rfl<|RL.y rfl (Y.fieldAddr (off:=4) rfl (by kernel_rfl))<|RL.y rfl (Y.load (v:=.slice A3 d0.env.length c3) rfl (by kernel_rfl) (eqC (blkCell B5 (i:=4) rfl))) ?_
  obtain ⟨y34,e35,hm⟩:=bnd hm
  refine RL.call rfl (am1 rfl) (by kernel_rfl) ((c_m_laws_toInt64S d0.env _ e35 _ _ (slArg intRd_ok h3 r3 T)).mono ?_)
  rintro _ w39 ⟨⟨v36,rfl,G37⟩,hb40⟩
  refine ⟨_,rfl,?_⟩
  have szw39:=hb40.size
  have T0w39:=T.size
  have Zo38_ob7:=ap_ne (Ap.new (OwF.flo G37) (one_hi B5.lt))
  have Zo38_ob11:=ap_ne (Ap.new (OwF.flo G37) (one_hi B9.lt))
  have Zo38_ob15:=ap_ne (Ap.new (OwF.flo G37) (one_hi B32.lt))
  have Zo38_o20:=Ap.dj (Ap.new (OwF.flo G37) (OwF.fhi G19))
  have Zo38_o23:Ap (fb v36) bs24:=(Ap.new (OwF.flo G37) (OwN.hi G22))
  have B5:=blkT B5 hb40
  have B9:=blkT B9 hb40
  have B32:=blkT B32 hb40
  have G19:=OwF.below G19 hb40
  have G22:=OwN.below coreOw_ok G22 hb40
  have T:=Tt T hb40
  replace G37:=OwF.mono G37 T0w39
  refine RL.y rfl (Y.fieldAddr (off:=4) rfl (by kernel_rfl)) ?_
  obtain ⟨A41,c42,rfl⟩:=OwF.form G37
  have qbA41:=OwF.bound G37
  refine RL.store (v:=.slice A41 y34.length c42) (cs':=#[.int .i64 y16.kind,.int .i64 y16.value,.slice A27 y16.data.length c28,.slice A29 y16.kids.length c30,.slice A41 y34.length c42]) rfl rfl rfl B32 (by kernel_rfl) (by rfl) (by rfl) (by rfl) (fun w43 B44 ho45=>?_)
  have szw43:=ho45.size
  have B5:=B5.only_ ho45 (by intro hin; simp at hin; exact Eob15_ob7 hin)
  have B9:=B9.only_ ho45 (by intro hin; simp at hin; exact Eob15_ob11 hin)
  have G19:=OwF.only G19 ho45 Zo20_ob15
  have G22:=OwN.only coreOw_ok G22 ho45 (Ap.one Zo23_ob15)
  have G37:=OwF.only G37 ho45 Zo38_ob15
  have T:=T.trans (ho45.below (by first|(simp; done)|(simp; omega)))
  refine RL.nil<|then_n<|wp_seq<|wp_rl rfl<|RL.y rfl (Y.loadN (cs:=[.int .i64 y16.kind,.int .i64 y16.value,.slice A27 y16.data.length c28,.slice A29 y16.kids.length c30,.slice A41 y34.length c42]) rfl (by kernel_rfl) (cells5 (eqC (blkCell B44 (i:=0) rfl)) (eqC (blkCell B44 (i:=1) rfl)) (eqC (blkCell B44 (i:=2) rfl)) (eqC (blkCell B44 (i:=3) rfl)) (eqC (blkCell B44 (i:=4) rfl)))) ?_
  refine RL.store (v:=.agg #[.int .i64 y16.kind,.int .i64 y16.value,.slice A27 y16.data.length c28,.slice A29 y16.kids.length c30,.slice A41 y34.length c42]) (cs':=#[.int .i64 y16.kind,.int .i64 y16.value,.slice A27 y16.data.length c28,.slice A29 y16.kids.length c30,.slice A41 y34.length c42]) rfl rfl rfl B9 (by kernel_rfl) (by rfl) (by rfl) (by rfl) (fun w46 B47 ho48=>?_)
  have szw46:=ho48.size
  have B44:=B44.only_ ho48 (by intro hin; simp at hin; exact Eob15_ob11.symm hin)
  have G19:=OwF.only G19 ho48 Zo20_ob11
  have G22:=OwN.only coreOw_ok G22 ho48 (Ap.one Zo23_ob11)
  have G37:=OwF.only G37 ho48 Zo38_ob11
  have T:=T.trans (ho48.below (by first|(simp; done)|(simp; omega)))
  refine RL.nil<|then_n<|wp_ret ?_
  obtain rfl:=sj hm
  exact (retc (cs:=[.int .i64 y16.kind,.int .i64 y16.value,.slice A27 y16.data.length c28,.slice A29 y16.kids.length c30,.slice A41 y34.length c42]) rfl rfl rfl (by kernel_rfl) (blkCells B47) ⟨⟨_,_,_,_,rfl,G19,G22,G37,Ro20_o23,(Ap.dj (Ap.symm (Dj.ap Zo38_o20))),(Ap.symm Zo38_o23)⟩,T⟩)
noncomputable def m_laws_toFrame (d0:DFrame):Option DFrame:=
  ((m_laws_toInt64S d0.data).bind fun y23=>((m_laws_toClosure (⟨(⟨d0.closure.term.kind,d0.closure.term.value,d0.closure.term.data,d0.closure.term.kids⟩:DCore),d0.closure.env⟩:DClosure)).bind fun y35=>some (⟨d0.kind,d0.value,y23,(⟨(⟨y35.term.kind,y35.term.value,y35.term.data,y35.term.kids⟩:DCore),y35.env⟩:DClosure)⟩:DFrame)))
set_option maxHeartbeats 2000000 in
theorem c_m_laws_toFrame (d0:DFrame) (r:DFrame) (hm:m_laws_toFrame d0=some r) (v0:Value) (w:World) (hv0:St frameRd w v0 d0) :
    Calls Tryz.prog 116 #[v0] w fun e w'=>(∃(v0:Value) (v1:Value) (v2:Value) (bs2:List Nat) (v3:Value),e=.returned (.agg #[.int .i64 r.kind,.int .i64 r.value,v0,.int .i64 r.closure.term.kind,.int .i64 r.closure.term.value,v1,v2,v3])∧OwF 2 encI 1 w' w.heap.size v0 r.data∧OwF 2 encI 1 w' w.heap.size v1 r.closure.term.data∧OwN 78 coreOw 4 w' w.heap.size v2 r.closure.term.kids bs2∧OwF 2 encI 1 w' w.heap.size v3 r.closure.env∧Dj v0 v1∧Ap (fb v0) bs2∧Ap (fb v1) bs2∧Dj v0 v3∧Dj v1 v3∧Ap bs2 (fb v3))∧Below w.heap.size w w':=by
  obtain ⟨csa0,rfl,⟨A1,n1,c1,A2,n2,c2,A3,n3,c3,A4,n4,c4,rfl,⟨h1,r1⟩,⟨h2,r2⟩,⟨h3,r3⟩,⟨h4,r4⟩⟩⟩:=hv0
  have e1:=h1.len; subst e1
  have q1:=len_le r1
  have e2:=h2.len; subst e2
  have q2:=len_le r2
  have e3:=h3.len; subst e3
  have q3:=len_le r3
  have e4:=h4.len; subst e4
  have q4:=len_le r4
  have T:=Below.refl w.heap.size w
  unfold m_laws_toFrame at hm
  refine enter 19 Tryz.func116 rfl rfl rfl ?_
  intro f hf
  have s0:f 0=.agg #[.int .i64 d0.kind,.int .i64 d0.value,.slice A1 d0.data.length c1,.int .i64 d0.closure.term.kind,.int .i64 d0.closure.term.value,.slice A2 d0.closure.term.data.length c2,.slice A3 d0.closure.term.kids.length c3,.slice A4 d0.closure.env.length c4]:=hf 0 _ rfl
  refine wp_seq<|wp_rl rfl ?_
  refine RL.box rfl s0 (fun w5 B6 hb7 szw5=>?_)
  replace B6:Blk w5 w.heap.size 188 #[.int .i64 d0.kind,.int .i64 d0.value,.slice A1 d0.data.length c1,.int .i64 d0.closure.term.kind,.int .i64 d0.closure.term.value,.slice A2 d0.closure.term.data.length c2,.slice A3 d0.closure.term.kids.length c3,.slice A4 d0.closure.env.length c4]:=B6
  have GB6:w.heap.size≤w.heap.size:=T.size
  have T:=Tt T hb7
  refine RL.alloc (z:=.agg #[.int .i64 0,.int .i64 0,.slice none 0 0,.int .i64 0,.int .i64 0,.slice none 0 0,.slice none 0 0,.slice none 0 0]) rfl (by kernel_rfl) (fun w9 B10 hb11 szw9=>?_)
  replace B10:Blk w9 w5.heap.size 145 #[.int .i64 0,.int .i64 0,.slice none 0 0,.int .i64 0,.int .i64 0,.slice none 0 0,.slice none 0 0,.slice none 0 0]:=B10
  have GB10:w.heap.size≤w5.heap.size:=T.size
  have Eob12_ob8:=Nat.ne_of_lt B6.lt
  have B6:=blkT B6 hb11
  have T:=Tt T hb11
  refine RL.nil<|then_n<|wp_seq<|wp_rl rfl ?_
  refine RL.alloc (z:=.agg #[.int .i64 0,.int .i64 0,.slice none 0 0,.int .i64 0,.int .i64 0,.slice none 0 0,.slice none 0 0,.slice none 0 0]) rfl (by kernel_rfl) (fun w13 B14 hb15 szw13=>?_)
  replace B14:Blk w13 w9.heap.size 145 #[.int .i64 0,.int .i64 0,.slice none 0 0,.int .i64 0,.int .i64 0,.slice none 0 0,.slice none 0 0,.slice none 0 0]:=B14
  have GB14:w.heap.size≤w9.heap.size:=T.size
  have Eob16_ob8:=Nat.ne_of_lt B6.lt
  have Eob16_ob12:=Nat.ne_of_lt B10.lt
  have B6:=blkT B6 hb15
  have B10:=blkT B10 hb15
  have T:=Tt T hb15
  refine RL.nil<|then_n<|wp_seq<|wp_rl rfl<|RL.y rfl (Y.fieldAddr (off:=0) rfl (by kernel_rfl))<|RL.y rfl (Y.load (v:=.int .i64 d0.kind) rfl (by kernel_rfl) (eqC (blkCell B6 (i:=0) rfl)))<|RL.y rfl (Y.fieldAddr (off:=0) rfl (by kernel_rfl)) ?_
  refine RL.store (v:=.int .i64 d0.kind) (cs':=#[.int .i64 d0.kind,.int .i64 0,.slice none 0 0,.int .i64 0,.int .i64 0,.slice none 0 0,.slice none 0 0,.slice none 0 0]) rfl rfl rfl B14 (by kernel_rfl) (by rfl) (by rfl) (by rfl) (fun w17 B18 ho19=>?_)
  have szw17:=ho19.size
  have B6:=B6.only_ ho19 (by intro hin; simp at hin; exact Eob16_ob8 hin)
  have B10:=B10.only_ ho19 (by intro hin; simp at hin; exact Eob16_ob12 hin)
  have T:=T.trans (ho19.below (by first|(simp; done)|(simp; omega)))
  refine RL.nil<|then_n<|wp_seq<|wp_rl rfl<|RL.y rfl (Y.fieldAddr (off:=1) rfl (by kernel_rfl))<|RL.y rfl (Y.load (v:=.int .i64 d0.value) rfl (by kernel_rfl) (eqC (blkCell B6 (i:=1) rfl)))<|RL.y rfl (Y.fieldAddr (off:=1) rfl (by kernel_rfl)) ?_
  refine RL.store (v:=.int .i64 d0.value) (cs':=#[.int .i64 d0.kind,.int .i64 d0.value,.slice none 0 0,.int .i64 0,.int .i64 0,.slice none 0 0,.slice none 0 0,.slice none 0 0]) rfl rfl rfl B18 (by kernel_rfl) (by rfl) (by rfl) (by rfl) (fun w20 B21 ho22=>?_)
  have szw20:=ho22.size
  have B6:=B6.only_ ho22 (by intro hin; simp at hin; exact Eob16_ob8 hin)
  have B10:=B10.only_ ho22 (by intro hin; simp at hin; exact Eob16_ob12 hin)
  have T:=T.trans (ho22.below (by first|(simp; done)|(simp; omega)))
  refine RL.nil<|then_n<|wp_seq<|wp_rl rfl<|RL.y rfl (Y.fieldAddr (off:=2) rfl (by kernel_rfl))<|RL.y rfl (Y.load (v:=.slice A1 d0.data.length c1) rfl (by kernel_rfl) (eqC (blkCell B6 (i:=2) rfl))) ?_
  obtain ⟨y23,e24,hm⟩:=bnd hm
  refine RL.call rfl (am1 rfl) (by kernel_rfl) ((c_m_laws_toInt64S d0.data _ e24 _ _ (slArg intRd_ok h1 r1 T)).mono ?_)
  rintro _ w28 ⟨⟨v25,rfl,G26⟩,hb29⟩
  refine ⟨_,rfl,?_⟩
  have szw28:=hb29.size
  have T0w28:=T.size
  have Zo27_ob8:=ap_ne (Ap.new (OwF.flo G26) (one_hi B6.lt))
  have Zo27_ob12:=ap_ne (Ap.new (OwF.flo G26) (one_hi B10.lt))
  have Zo27_ob16:=ap_ne (Ap.new (OwF.flo G26) (one_hi B21.lt))
  have B6:=blkT B6 hb29
  have B10:=blkT B10 hb29
  have B21:=blkT B21 hb29
  have T:=Tt T hb29
  replace G26:=OwF.mono G26 T0w28
  refine RL.y rfl (Y.fieldAddr (off:=2) rfl (by kernel_rfl)) ?_
  obtain ⟨A30,c31,rfl⟩:=OwF.form G26
  have qbA30:=OwF.bound G26
  refine RL.store (v:=.slice A30 y23.length c31) (cs':=#[.int .i64 d0.kind,.int .i64 d0.value,.slice A30 y23.length c31,.int .i64 0,.int .i64 0,.slice none 0 0,.slice none 0 0,.slice none 0 0]) rfl rfl rfl B21 (by kernel_rfl) (by rfl) (by rfl) (by rfl) (fun w32 B33 ho34=>?_)
  have szw32:=ho34.size
  have B6:=B6.only_ ho34 (by intro hin; simp at hin; exact Eob16_ob8 hin)
  have B10:=B10.only_ ho34 (by intro hin; simp at hin; exact Eob16_ob12 hin)
  have G26:=OwF.only G26 ho34 Zo27_ob16
  have T:=T.trans (ho34.below (by first|(simp; done)|(simp; omega)))
  refine RL.nil<|then_n<|wp_seq<|wp_rl rfl<|RL.y rfl (Y.fieldAddr (off:=3) rfl (by kernel_rfl))<|RL.y rfl (Y.loadN (cs:=[.int .i64 d0.closure.term.kind,.int .i64 d0.closure.term.value,.slice A2 d0.closure.term.data.length c2,.slice A3 d0.closure.term.kids.length c3,.slice A4 d0.closure.env.length c4]) rfl (by kernel_rfl) (cells5 (eqC (blkCell B6 (i:=3) rfl)) (eqC (blkCell B6 (i:=4) rfl)) (eqC (blkCell B6 (i:=5) rfl)) (eqC (blkCell B6 (i:=6) rfl)) (eqC (blkCell B6 (i:=7) rfl)))) ?_
  obtain ⟨y35,e36,hm⟩:=bnd hm
  refine RL.call rfl (am1 rfl) (by kernel_rfl) ((c_m_laws_toClosure (⟨(⟨d0.closure.term.kind,d0.closure.term.value,d0.closure.term.data,d0.closure.term.kids⟩:DCore),d0.closure.env⟩:DClosure) _ e36 _ _ (stArg (R:=closureRd) ⟨_,_,_,_,_,_,_,_,_,rfl,⟨SlAt.now intRd_ok h2 (Nat.le_refl _) T,r2⟩,⟨SlAt.now coreRd_ok h3 (Nat.le_refl _) T,r3⟩,⟨SlAt.now intRd_ok h4 (Nat.le_refl _) T,r4⟩⟩)).mono ?_)
  rintro _ w47 ⟨⟨v37,v40,bs43,v44,rfl,G38,G41,G45,Ro39_o42,Ro39_o46,Ro42_o46⟩,hb48⟩
  refine ⟨_,rfl,?_⟩
  have szw47:=hb48.size
  have T0w47:=T.size
  have Zo39_ob8:=ap_ne (Ap.new (OwF.flo G38) (one_hi B6.lt))
  have Zo39_ob12:=ap_ne (Ap.new (OwF.flo G38) (one_hi B10.lt))
  have Zo39_ob16:=ap_ne (Ap.new (OwF.flo G38) (one_hi B33.lt))
  have Zo39_o27:=Ap.dj (Ap.new (OwF.flo G38) (OwF.fhi G26))
  have Zo42_ob8:Ap bs43 [w.heap.size]:=(Ap.new (OwN.lo_ G41) (one_hi B6.lt))
  have Zo42_ob12:Ap bs43 [w5.heap.size]:=(Ap.new (OwN.lo_ G41) (one_hi B10.lt))
  have Zo42_ob16:Ap bs43 [w9.heap.size]:=(Ap.new (OwN.lo_ G41) (one_hi B33.lt))
  have Zo42_o27:Ap bs43 (fb (.slice A30 y23.length c31)):=(Ap.new (OwN.lo_ G41) (OwF.fhi G26))
  have Zo46_ob8:=ap_ne (Ap.new (OwF.flo G45) (one_hi B6.lt))
  have Zo46_ob12:=ap_ne (Ap.new (OwF.flo G45) (one_hi B10.lt))
  have Zo46_ob16:=ap_ne (Ap.new (OwF.flo G45) (one_hi B33.lt))
  have Zo46_o27:=Ap.dj (Ap.new (OwF.flo G45) (OwF.fhi G26))
  have B6:=blkT B6 hb48
  have B10:=blkT B10 hb48
  have B33:=blkT B33 hb48
  have G26:=OwF.below G26 hb48
  have T:=Tt T hb48
  replace G38:=OwF.mono G38 T0w47
  replace G41:=OwN.mono G41 T0w47
  replace G45:=OwF.mono G45 T0w47
  refine RL.y rfl (Y.fieldAddr (off:=3) rfl (by kernel_rfl)) ?_
  obtain ⟨A49,c50,rfl⟩:=OwF.form G38
  have qbA49:=OwF.bound G38
  obtain ⟨A51,c52,rfl⟩:=OwN.form G41
  have qbA51:=OwN.bound G41
  obtain ⟨A53,c54,rfl⟩:=OwF.form G45
  have qbA53:=OwF.bound G45
  refine RL.store (v:=.agg #[.int .i64 y35.term.kind,.int .i64 y35.term.value,.slice A49 y35.term.data.length c50,.slice A51 y35.term.kids.length c52,.slice A53 y35.env.length c54]) (cs':=#[.int .i64 d0.kind,.int .i64 d0.value,.slice A30 y23.length c31,.int .i64 y35.term.kind,.int .i64 y35.term.value,.slice A49 y35.term.data.length c50,.slice A51 y35.term.kids.length c52,.slice A53 y35.env.length c54]) rfl rfl rfl B33 (by kernel_rfl) (by rfl) (by rfl) (by rfl) (fun w55 B56 ho57=>?_)
  have szw55:=ho57.size
  have B6:=B6.only_ ho57 (by intro hin; simp at hin; exact Eob16_ob8 hin)
  have B10:=B10.only_ ho57 (by intro hin; simp at hin; exact Eob16_ob12 hin)
  have G26:=OwF.only G26 ho57 Zo27_ob16
  have G38:=OwF.only G38 ho57 Zo39_ob16
  have G41:=OwN.only coreOw_ok G41 ho57 (Ap.one Zo42_ob16)
  have G45:=OwF.only G45 ho57 Zo46_ob16
  have T:=T.trans (ho57.below (by first|(simp; done)|(simp; omega)))
  refine RL.nil<|then_n<|wp_seq<|wp_rl rfl<|RL.y rfl (Y.loadN (cs:=[.int .i64 d0.kind,.int .i64 d0.value,.slice A30 y23.length c31,.int .i64 y35.term.kind,.int .i64 y35.term.value,.slice A49 y35.term.data.length c50,.slice A51 y35.term.kids.length c52,.slice A53 y35.env.length c54]) rfl (by kernel_rfl) (cells8 (eqC (blkCell B56 (i:=0) rfl)) (eqC (blkCell B56 (i:=1) rfl)) (eqC (blkCell B56 (i:=2) rfl)) (eqC (blkCell B56 (i:=3) rfl)) (eqC (blkCell B56 (i:=4) rfl)) (eqC (blkCell B56 (i:=5) rfl)) (eqC (blkCell B56 (i:=6) rfl)) (eqC (blkCell B56 (i:=7) rfl)))) ?_
  refine RL.store (v:=.agg #[.int .i64 d0.kind,.int .i64 d0.value,.slice A30 y23.length c31,.int .i64 y35.term.kind,.int .i64 y35.term.value,.slice A49 y35.term.data.length c50,.slice A51 y35.term.kids.length c52,.slice A53 y35.env.length c54]) (cs':=#[.int .i64 d0.kind,.int .i64 d0.value,.slice A30 y23.length c31,.int .i64 y35.term.kind,.int .i64 y35.term.value,.slice A49 y35.term.data.length c50,.slice A51 y35.term.kids.length c52,.slice A53 y35.env.length c54]) rfl rfl rfl B10 (by kernel_rfl) (by rfl) (by rfl) (by rfl) (fun w58 B59 ho60=>?_)
  have szw58:=ho60.size
  have B56:=B56.only_ ho60 (by intro hin; simp at hin; exact Eob16_ob12.symm hin)
  have G26:=OwF.only G26 ho60 Zo27_ob12
  have G38:=OwF.only G38 ho60 Zo39_ob12
  have G41:=OwN.only coreOw_ok G41 ho60 (Ap.one Zo42_ob12)
  have G45:=OwF.only G45 ho60 Zo46_ob12
  have T:=T.trans (ho60.below (by first|(simp; done)|(simp; omega)))
  refine RL.nil<|then_n<|wp_ret ?_
  obtain rfl:=sj hm
  exact (retc (cs:=[.int .i64 d0.kind,.int .i64 d0.value,.slice A30 y23.length c31,.int .i64 y35.term.kind,.int .i64 y35.term.value,.slice A49 y35.term.data.length c50,.slice A51 y35.term.kids.length c52,.slice A53 y35.env.length c54]) rfl rfl rfl (by kernel_rfl) (blkCells B59) ⟨⟨_,_,_,_,_,rfl,G26,G38,G41,G45,(Ap.dj (Ap.symm (Dj.ap Zo39_o27))),(Ap.symm Zo42_o27),Ro39_o42,(Ap.dj (Ap.symm (Dj.ap Zo46_o27))),(Ap.dj (Dj.ap Ro39_o46)),Ro42_o46⟩,T⟩)
noncomputable def m_laws_toFrameS_A1 (xs8:List DFrame):Option (List DFrame):=
  some xs8
noncomputable def m_laws_toFrameS_B1 (d0:List DFrame) (rec1:List DFrame→Int→Option (List DFrame)) (K1:List DFrame→Option (List DFrame)) (xs10:List DFrame) (i11:Int):Option (List DFrame):=
  (bif (decide (i11 < (d0.length:Int))) then ((getI d0 i11).bind fun x14=>((m_laws_toFrame x14).bind fun y27=>((getI xs10 i11).bind fun x46=>(rec1 (setI xs10 i11 y27) (i11+1))))) else (K1 xs10))
noncomputable def m_laws_toFrameS_L1 (d0:List DFrame) (K1:List DFrame→Option (List DFrame)):Nat→List DFrame→Int→Option (List DFrame)
  |0,_,_=>none
  |g+1,xs10,i11=>m_laws_toFrameS_B1 d0 (m_laws_toFrameS_L1 d0 K1 g) K1 xs10 i11
noncomputable def m_laws_toFrameS (d0:List DFrame):Option (List DFrame):=
  ((mustP (d0.length≤4294967296)).bind fun _=>(m_laws_toFrameS_L1 d0 m_laws_toFrameS_A1 (d0.length+1) (List.replicate d0.length ((⟨0,0,[],(⟨(⟨0,0,[],[]⟩:DCore),[]⟩:DClosure)⟩:DFrame):DFrame)) 0))
set_option maxHeartbeats 2000000 in
theorem c_m_laws_toFrameS (d0:List DFrame) (r:List DFrame) (hm:m_laws_toFrameS d0=some r) (v0:Value) (w:World) (hv0:Sl frameRd 8 w v0 d0) :
    Calls Tryz.prog 61 #[v0] w fun e w'=>(∃(v0:Value) (bs0:List Nat),e=.returned (v0)∧OwN 145 frameOw 8 w' w.heap.size v0 r bs0)∧Below w.heap.size w w':=by
  obtain ⟨Aa0,na0,ca0,rfl,ha0,ra0⟩:=hv0
  have ea0:=ha0.len; subst ea0
  have qa0:=len_le ra0
  have T:=Below.refl w.heap.size w
  unfold m_laws_toFrameS at hm
  refine enter 23 Tryz.func61 rfl rfl rfl ?_
  intro f hf
  have s0:f 0=.slice Aa0 d0.length ca0:=hf 0 _ rfl
  refine wp_seq<|wp_rs rfl<|RQ.y rfl (Y.assign (v:=.slice none 0 0) rfl)<|RQ.nil<|then_n<|wp_seq<|wp_rl rfl<|RL.y rfl (Y.move (v:=.slice Aa0 d0.length ca0) s0)<|RL.y rfl (Y.len (by kernel_rfl) rfl) ?_
  obtain ⟨_,m1,hm⟩:=bnd hm
  have hk2:=mustP_some m1
  refine RL.makeN (O:=frameOw) (x0:=(⟨0,0,[],(⟨(⟨0,0,[],[]⟩:DCore),[]⟩:DClosure)⟩:DFrame)) (n:=d0.length) app_impl_Frame (by decide) (fun w=>⟨none,0,0,none,0,0,none,0,0,none,0,0,[],[],[],[],rfl,⟨⟨rfl,.inl ⟨rfl,rfl⟩⟩,Nat.le_refl _,Nat.zero_le _⟩,⟨⟨rfl,.inl ⟨rfl,rfl⟩⟩,Nat.le_refl _,Nat.zero_le _⟩,⟨⟨rfl,.inl ⟨rfl,rfl⟩⟩,Nat.le_refl _,Nat.zero_le _⟩,⟨⟨rfl,.inl ⟨rfl,rfl⟩⟩,Nat.le_refl _,Nat.zero_le _⟩,rfl⟩) rfl rfl rfl hk2 (fun w3 G4 hb5 szw3=>?_)
  replace G4:=OwN.mono G4 T.size
  have T:=Tt T hb5
  refine RL.y rfl (Y.assign (v:=.slice (some ⟨w.heap.size,0,none⟩) d0.length d0.length) rfl)<|RL.nil<|then_n<|wp_seq<|wp_seq<|wp_rs rfl<|RQ.y rfl (Y.assign (v:=.int .i64 0) rfl)<|RQ.nil<|then_n<|wp_block ?_
  obtain ⟨K1,hK1,hm⟩ :∃K,K=m_laws_toFrameS_A1∧m_laws_toFrameS_L1 d0 K (d0.length+1) (List.replicate d0.length ((⟨0,0,[],(⟨(⟨0,0,[],[]⟩:DCore),[]⟩:DClosure)⟩:DFrame):DFrame)) 0=some r:=⟨_,rfl,hm⟩
  refine wp_loopX (fun g f w'=>∃(xs10:List DFrame) (i11:Int) (uxs10:Value) (bsxs10:List Nat),f 0=.slice Aa0 d0.length ca0∧f 3=uxs10∧OwN 145 frameOw 8 w' w.heap.size uxs10 xs10 bsxs10∧f 4=.int .i64 i11∧0≤i11∧Below w.heap.size w w'∧m_laws_toFrameS_L1 d0 K1 g xs10 i11=some r) 0 (fun f w'=>∃(xs8:List DFrame) (uxs8:Value) (bsxs8:List Nat),f 3=uxs8∧OwN 145 frameOw 8 w' w.heap.size uxs8 xs8 bsxs8∧Below w.heap.size w w'∧m_laws_toFrameS_A1 xs8=some r) (d0.length+1) ⟨(List.replicate d0.length ((⟨0,0,[],(⟨(⟨0,0,[],[]⟩:DCore),[]⟩:DClosure)⟩:DFrame):DFrame)),0,(.slice (some ⟨w.heap.size,0,none⟩) d0.length d0.length),([w.heap.size]),s0,rfl,G4,rfl,(by omega),T,hm⟩ ?_ ?_
  ·rintro f w9 ⟨xs8,uxs8,bsxs8,s3_1x,Guxs8,T,hm⟩
   unfold m_laws_toFrameS_A1 at hm
   refine blk_hit (then_n ?_)
   refine wp_seq<|wp_rs rfl<|RQ.y rfl (Y.move (v:=uxs8) s3_1x)<|RQ.y rfl (Y.assign (v:=uxs8) rfl)<|RQ.nil<|then_n<|wp_ret ?_
   obtain rfl:=sj hm
   exact (ret1 rfl rfl rfl ⟨⟨_,_,rfl,Guxs8⟩,T⟩)
  rintro g f w12 ⟨xs10,i11,uxs10,bsxs10,s0_1,s3_1,Guxs10,s4_1,nn4_1,T,hm⟩
  rcases g with _|g
  ·simp only [m_laws_toFrameS_L1] at hm; cases hm
  obtain ⟨rec1,hrec1,hm⟩ :∃z,z=m_laws_toFrameS_L1 d0 K1 g∧m_laws_toFrameS_B1 d0 z K1 xs10 i11=some r:=⟨_,rfl,hm⟩
  unfold m_laws_toFrameS_B1 at hm
  refine wp_seq<|wp_seq<|wp_rs rfl<|RQ.y rfl (Y.move (v:=.int .i64 i11) s4_1)<|RQ.y rfl (Y.move (v:=.slice Aa0 d0.length ca0) s0_1)<|RQ.y rfl (Y.len (by kernel_rfl) rfl)<|RQ.y rfl (Y.binI (v:=.bool (decide (i11 < (d0.length:Int)))) rfl rfl rfl)<|RQ.nil<|then_n ?_
  rcases bcases (decide (i11 < (d0.length:Int))) with c13|c13
  ·replace hm:=cF c13 hm
   have pc13:=of_decide_eq_false c13
   refine cond_f rfl (vb rfl c13)<|wp_exit ?_
   exact (then_x (then_x (hit_x ⟨_,rfl,⟨xs10,(uxs10),bsxs10,s3_1,Guxs10,T,(by rw [hK1] at hm; exact hm)⟩⟩)))
  replace hm:=cT c13 hm
  have pc13:=of_decide_eq_true c13
  refine cond_t rfl (vb rfl c13)<|wp_skip<|then_n<|wp_seq<|wp_block<|wp_rl rfl<|RL.y rfl (Y.move (v:=uxs10) s3_1)<|RL.y rfl (Y.move (v:=.int .i64 i11) s4_1)<|RL.y rfl (Y.move (v:=.slice Aa0 d0.length ca0) s0_1)<|RL.y rfl (Y.move (v:=.int .i64 i11) s4_1) ?_
  obtain ⟨x14,hx17,hm⟩:=bnd hm
  obtain ⟨k15,hk18,hl19,hx17⟩:=getI_some hx17
  obtain ⟨b21,o22,rfl,hbb21⟩:=ha0.addr (by omega)
  obtain ⟨cs16,hRcs16,hc20⟩:=ha0.el hx17
  have hScs16:=hRcs16
  obtain ⟨A23,n23,c23,A24,n24,c24,A25,n25,c25,A26,n26,c26,rfl,⟨h23,r23⟩,⟨h24,r24⟩,⟨h25,r25⟩,⟨h26,r26⟩⟩:=hRcs16
  have e23:=h23.len; subst e23
  have q23:=len_le r23
  have e24:=h24.len; subst e24
  have q24:=len_le r24
  have e25:=h25.len; subst e25
  have q25:=len_le r25
  have e26:=h26.len; subst e26
  have q26:=len_le r26
  refine RL.y rfl (Y.indexAddr (m:=k15) (sz:=8) rfl rfl hk18 hl19 (by kernel_rfl))<|RL.y rfl (Y.loadN (cs:=[.int .i64 x14.kind,.int .i64 x14.value,.slice A23 x14.data.length c23,.int .i64 x14.closure.term.kind,.int .i64 x14.closure.term.value,.slice A24 x14.closure.term.data.length c24,.slice A25 x14.closure.term.kids.length c25,.slice A26 x14.closure.env.length c26]) rfl (by kernel_rfl) (cells8 (eqC (cellT T (hc20 0 _ rfl))) (eqC (cellT T (hc20 1 _ rfl))) (eqC (cellT T (hc20 2 _ rfl))) (eqC (cellT T (hc20 3 _ rfl))) (eqC (cellT T (hc20 4 _ rfl))) (eqC (cellT T (hc20 5 _ rfl))) (eqC (cellT T (hc20 6 _ rfl))) (eqC (cellT T (hc20 7 _ rfl))))) ?_
  obtain ⟨y27,e28,hm⟩:=bnd hm
  refine RL.call rfl (am1 rfl) (by kernel_rfl) ((c_m_laws_toFrame x14 _ e28 _ _ (stArg (R:=frameRd) ⟨_,_,_,_,_,_,_,_,_,_,_,_,rfl,⟨SlAt.now intRd_ok h23 (Nat.le_refl _) T,r23⟩,⟨SlAt.now intRd_ok h24 (Nat.le_refl _) T,r24⟩,⟨SlAt.now coreRd_ok h25 (Nat.le_refl _) T,r25⟩,⟨SlAt.now intRd_ok h26 (Nat.le_refl _) T,r26⟩⟩)).mono ?_)
  rintro _ w42 ⟨⟨v29,v32,v35,bs38,v39,rfl,G30,G33,G36,G40,Ro31_o34,Ro31_o37,Ro34_o37,Ro31_o41,Ro34_o41,Ro37_o41⟩,hb43⟩
  refine ⟨_,rfl,?_⟩
  have szw42:=hb43.size
  have T0w42:=T.size
  have Zo31_oxs10:Ap (fb v29) bsxs10:=(Ap.new (OwF.flo G30) (OwN.hi Guxs10))
  have Zo34_oxs10:Ap (fb v32) bsxs10:=(Ap.new (OwF.flo G33) (OwN.hi Guxs10))
  have Zo37_oxs10:Ap bs38 bsxs10:=(Ap.new (OwN.lo_ G36) (OwN.hi Guxs10))
  have Zo41_oxs10:Ap (fb v39) bsxs10:=(Ap.new (OwF.flo G40) (OwN.hi Guxs10))
  have Guxs10:=OwN.below frameOw_ok Guxs10 hb43
  have T:=Tt T hb43
  replace G30:=OwF.mono G30 T0w42
  replace G33:=OwF.mono G33 T0w42
  replace G36:=OwN.mono G36 T0w42
  replace G40:=OwF.mono G40 T0w42
  obtain ⟨A44,c45,rfl⟩:=OwN.form Guxs10
  have qbA44:=OwN.bound Guxs10
  obtain ⟨x46,hx48,hm⟩:=bnd hm
  obtain ⟨k47,hk49,hl50,hx48⟩:=getI_some hx48
  obtain ⟨b51,rfl⟩:=OwN.addr0 Guxs10 (by omega)
  refine RL.y rfl (Y.indexAddr (m:=k47) (sz:=8) rfl rfl hk49 hl50 (by kernel_rfl)) ?_
  obtain ⟨A52,c53,rfl⟩:=OwF.form G30
  have qbA52:=OwF.bound G30
  obtain ⟨A54,c55,rfl⟩:=OwF.form G33
  have qbA54:=OwF.bound G33
  obtain ⟨A56,c57,rfl⟩:=OwN.form G36
  have qbA56:=OwN.bound G36
  obtain ⟨A58,c59,rfl⟩:=OwF.form G40
  have qbA58:=OwF.bound G40
  obtain ⟨l61,a60,nd62,sb63,r64⟩:=OwF.own2 fI G30
  obtain ⟨l66,a65,nd67,sb68,r69⟩:=OwF.own2 fI G33
  obtain ⟨_,_,_,l71,hea70,a70,nd72,sb73,r74⟩:=OwN.own1 coreOw_ok G36
  injection hea70 with e1 e2 e3; subst e1 e2 e3
  obtain ⟨l76,a75,nd77,sb78,r79⟩:=OwF.own2 fI G40
  refine RL.storeNW (k:=k47) (a':=y27) (l:=(((l61 ++ l66) ++ l71) ++ l76)) (fp:=((((fb (.slice A52 y27.data.length c53)) ++ (fb (.slice A54 y27.closure.term.data.length c55))) ++ bs38) ++ (fb (.slice A58 y27.closure.env.length c59)))) frameOw_ok frameOw_one rfl rfl rfl Guxs10 hx48 ⟨_,_,_,_,_,_,_,_,_,_,_,_,l61,l66,l71,l76,rfl,⟨a60,r64⟩,⟨a65,r69⟩,⟨a70,r74⟩,⟨a75,r79⟩,rfl⟩ (nodup2 (nodup2 (nodup2 nd62 nd67 sb63 sb68 (Dj.ap Ro31_o34)) nd72 (sub2 sb63 sb68) sb73 (Ap.append Ro31_o37 Ro34_o37)) nd77 (sub2 (sub2 sb63 sb68) sb73) sb78 (Ap.append (Ap.append (Dj.ap Ro31_o41) (Dj.ap Ro34_o41)) Ro37_o41)) (sub2 (sub2 (sub2 sb63 sb68) sb73) sb78) (Ap.symm (Ap.append (Ap.append (Ap.append Zo31_oxs10 Zo34_oxs10) Zo37_oxs10) Zo41_oxs10)) (all2 (all2 (all2 (OwF.fboth G30 (Nat.le_refl _)) (OwF.fboth G33 (Nat.le_refl _))) (OwN.both G36 (Nat.le_refl _))) (OwF.fboth G40 (Nat.le_refl _))) (by kernel_rfl) (fun w80 G81 ho82=>?_)
  have szw80:=ho82.size
  have T:=T.trans (ho82.below (by intro b hb; simp at hb; subst hb; exact OwN.lo_ Guxs10 _ (OwN.row Guxs10 rfl)))
  have G81:OwN 145 frameOw 8 w80 w.heap.size (.slice (some ⟨b51,0,none⟩) xs10.length c45) (setI xs10 i11 y27) (bsxs10 ++ ((((fb (.slice A52 y27.data.length c53)) ++ (fb (.slice A54 y27.closure.term.data.length c55))) ++ bs38) ++ (fb (.slice A58 y27.closure.env.length c59)))):=by rw [setI_eq hk49]; exact G81
  refine RL.nil ?_
  refine blk_n (then_n ?_)
  refine wp_rs rfl<|RQ.y rfl (Y.move (v:=.int .i64 i11) s4_1)<|RQ.y rfl (Y.binI rfl rfl (binI_add (m:=i11) (by omega)))<|RQ.y rfl (Y.assign (v:=.int .i64 (i11+1)) rfl)<|RQ.nil ?_
  exact (then_n ⟨g,_,Nat.lt_succ_self _,rfl,⟨(setI xs10 i11 y27),(i11+1),(.slice (some ⟨b51,0,none⟩) xs10.length c45),(bsxs10 ++ ((((fb (.slice A52 y27.data.length c53)) ++ (fb (.slice A54 y27.closure.term.data.length c55))) ++ bs38) ++ (fb (.slice A58 y27.closure.env.length c59)))),s0_1,s3_1,G81,rfl,(by omega),T,(by rw [← hrec1]; exact hm)⟩⟩)
noncomputable def m_laws_toThunk (d0:DThunk):Option DThunk:=
  ((m_laws_toClosure (⟨(⟨d0.closure.term.kind,d0.closure.term.value,d0.closure.term.data,d0.closure.term.kids⟩:DCore),d0.closure.env⟩:DClosure)).bind fun y19=>some (⟨d0.done,(⟨(⟨y19.term.kind,y19.term.value,y19.term.data,y19.term.kids⟩:DCore),y19.env⟩:DClosure)⟩:DThunk))
set_option maxHeartbeats 2000000 in
theorem c_m_laws_toThunk (d0:DThunk) (r:DThunk) (hm:m_laws_toThunk d0=some r) (v0:Value) (w:World) (hv0:St thunkRd w v0 d0) :
    Calls Tryz.prog 117 #[v0] w fun e w'=>(∃(v0:Value) (v1:Value) (bs1:List Nat) (v2:Value),e=.returned (.agg #[.bool r.done,.int .i64 r.closure.term.kind,.int .i64 r.closure.term.value,v0,v1,v2])∧OwF 2 encI 1 w' w.heap.size v0 r.closure.term.data∧OwN 78 coreOw 4 w' w.heap.size v1 r.closure.term.kids bs1∧OwF 2 encI 1 w' w.heap.size v2 r.closure.env∧Ap (fb v0) bs1∧Dj v0 v2∧Ap bs1 (fb v2))∧Below w.heap.size w w':=by
  obtain ⟨csa0,rfl,⟨A1,n1,c1,A2,n2,c2,A3,n3,c3,rfl,⟨h1,r1⟩,⟨h2,r2⟩,⟨h3,r3⟩⟩⟩:=hv0
  have e1:=h1.len; subst e1
  have q1:=len_le r1
  have e2:=h2.len; subst e2
  have q2:=len_le r2
  have e3:=h3.len; subst e3
  have q3:=len_le r3
  have T:=Below.refl w.heap.size w
  unfold m_laws_toThunk at hm
  refine enter 12 Tryz.func117 rfl rfl rfl ?_
  intro f hf
  have s0:f 0=.agg #[.bool d0.done,.int .i64 d0.closure.term.kind,.int .i64 d0.closure.term.value,.slice A1 d0.closure.term.data.length c1,.slice A2 d0.closure.term.kids.length c2,.slice A3 d0.closure.env.length c3]:=hf 0 _ rfl
  refine wp_seq<|wp_rl rfl ?_
  refine RL.box rfl s0 (fun w4 B5 hb6 szw4=>?_)
  replace B5:Blk w4 w.heap.size 191 #[.bool d0.done,.int .i64 d0.closure.term.kind,.int .i64 d0.closure.term.value,.slice A1 d0.closure.term.data.length c1,.slice A2 d0.closure.term.kids.length c2,.slice A3 d0.closure.env.length c3]:=B5
  have GB5:w.heap.size≤w.heap.size:=T.size
  have T:=Tt T hb6
  refine RL.alloc (z:=.agg #[.bool false,.int .i64 0,.int .i64 0,.slice none 0 0,.slice none 0 0,.slice none 0 0]) rfl (by kernel_rfl) (fun w8 B9 hb10 szw8=>?_)
  replace B9:Blk w8 w4.heap.size 141 #[.bool false,.int .i64 0,.int .i64 0,.slice none 0 0,.slice none 0 0,.slice none 0 0]:=B9
  have GB9:w.heap.size≤w4.heap.size:=T.size
  have Eob11_ob7:=Nat.ne_of_lt B5.lt
  have B5:=blkT B5 hb10
  have T:=Tt T hb10
  refine RL.nil<|then_n<|wp_seq<|wp_rl rfl ?_
  refine RL.alloc (z:=.agg #[.bool false,.int .i64 0,.int .i64 0,.slice none 0 0,.slice none 0 0,.slice none 0 0]) rfl (by kernel_rfl) (fun w12 B13 hb14 szw12=>?_)
  replace B13:Blk w12 w8.heap.size 141 #[.bool false,.int .i64 0,.int .i64 0,.slice none 0 0,.slice none 0 0,.slice none 0 0]:=B13
  have GB13:w.heap.size≤w8.heap.size:=T.size
  have Eob15_ob7:=Nat.ne_of_lt B5.lt
  have Eob15_ob11:=Nat.ne_of_lt B9.lt
  have B5:=blkT B5 hb14
  have B9:=blkT B9 hb14
  have T:=Tt T hb14
  refine RL.nil<|then_n<|wp_seq<|wp_rl rfl<|RL.y rfl (Y.fieldAddr (off:=0) rfl (by kernel_rfl))<|RL.y rfl (Y.load (v:=.bool d0.done) rfl (by kernel_rfl) (eqC (blkCell B5 (i:=0) rfl)))<|RL.y rfl (Y.fieldAddr (off:=0) rfl (by kernel_rfl)) ?_
  refine RL.store (v:=.bool d0.done) (cs':=#[.bool d0.done,.int .i64 0,.int .i64 0,.slice none 0 0,.slice none 0 0,.slice none 0 0]) rfl rfl rfl B13 (by kernel_rfl) (by rfl) (by rfl) (by rfl) (fun w16 B17 ho18=>?_)
  have szw16:=ho18.size
  have B5:=B5.only_ ho18 (by intro hin; simp at hin; exact Eob15_ob7 hin)
  have B9:=B9.only_ ho18 (by intro hin; simp at hin; exact Eob15_ob11 hin)
  have T:=T.trans (ho18.below (by first|(simp; done)|(simp; omega)))
  refine RL.nil<|then_n<|wp_seq<|wp_rl rfl<|RL.y rfl (Y.fieldAddr (off:=1) rfl (by kernel_rfl))<|RL.y rfl (Y.loadN (cs:=[.int .i64 d0.closure.term.kind,.int .i64 d0.closure.term.value,.slice A1 d0.closure.term.data.length c1,.slice A2 d0.closure.term.kids.length c2,.slice A3 d0.closure.env.length c3]) rfl (by kernel_rfl) (cells5 (eqC (blkCell B5 (i:=1) rfl)) (eqC (blkCell B5 (i:=2) rfl)) (eqC (blkCell B5 (i:=3) rfl)) (eqC (blkCell B5 (i:=4) rfl)) (eqC (blkCell B5 (i:=5) rfl)))) ?_
  obtain ⟨y19,e20,hm⟩:=bnd hm
  refine RL.call rfl (am1 rfl) (by kernel_rfl) ((c_m_laws_toClosure (⟨(⟨d0.closure.term.kind,d0.closure.term.value,d0.closure.term.data,d0.closure.term.kids⟩:DCore),d0.closure.env⟩:DClosure) _ e20 _ _ (stArg (R:=closureRd) ⟨_,_,_,_,_,_,_,_,_,rfl,⟨SlAt.now intRd_ok h1 (Nat.le_refl _) T,r1⟩,⟨SlAt.now coreRd_ok h2 (Nat.le_refl _) T,r2⟩,⟨SlAt.now intRd_ok h3 (Nat.le_refl _) T,r3⟩⟩)).mono ?_)
  rintro _ w31 ⟨⟨v21,v24,bs27,v28,rfl,G22,G25,G29,Ro23_o26,Ro23_o30,Ro26_o30⟩,hb32⟩
  refine ⟨_,rfl,?_⟩
  have szw31:=hb32.size
  have T0w31:=T.size
  have Zo23_ob7:=ap_ne (Ap.new (OwF.flo G22) (one_hi B5.lt))
  have Zo23_ob11:=ap_ne (Ap.new (OwF.flo G22) (one_hi B9.lt))
  have Zo23_ob15:=ap_ne (Ap.new (OwF.flo G22) (one_hi B17.lt))
  have Zo26_ob7:Ap bs27 [w.heap.size]:=(Ap.new (OwN.lo_ G25) (one_hi B5.lt))
  have Zo26_ob11:Ap bs27 [w4.heap.size]:=(Ap.new (OwN.lo_ G25) (one_hi B9.lt))
  have Zo26_ob15:Ap bs27 [w8.heap.size]:=(Ap.new (OwN.lo_ G25) (one_hi B17.lt))
  have Zo30_ob7:=ap_ne (Ap.new (OwF.flo G29) (one_hi B5.lt))
  have Zo30_ob11:=ap_ne (Ap.new (OwF.flo G29) (one_hi B9.lt))
  have Zo30_ob15:=ap_ne (Ap.new (OwF.flo G29) (one_hi B17.lt))
  have B5:=blkT B5 hb32
  have B9:=blkT B9 hb32
  have B17:=blkT B17 hb32
  have T:=Tt T hb32
  replace G22:=OwF.mono G22 T0w31
  replace G25:=OwN.mono G25 T0w31
  replace G29:=OwF.mono G29 T0w31
  refine RL.y rfl (Y.fieldAddr (off:=1) rfl (by kernel_rfl)) ?_
  obtain ⟨A33,c34,rfl⟩:=OwF.form G22
  have qbA33:=OwF.bound G22
  obtain ⟨A35,c36,rfl⟩:=OwN.form G25
  have qbA35:=OwN.bound G25
  obtain ⟨A37,c38,rfl⟩:=OwF.form G29
  have qbA37:=OwF.bound G29
  refine RL.store (v:=.agg #[.int .i64 y19.term.kind,.int .i64 y19.term.value,.slice A33 y19.term.data.length c34,.slice A35 y19.term.kids.length c36,.slice A37 y19.env.length c38]) (cs':=#[.bool d0.done,.int .i64 y19.term.kind,.int .i64 y19.term.value,.slice A33 y19.term.data.length c34,.slice A35 y19.term.kids.length c36,.slice A37 y19.env.length c38]) rfl rfl rfl B17 (by kernel_rfl) (by rfl) (by rfl) (by rfl) (fun w39 B40 ho41=>?_)
  have szw39:=ho41.size
  have B5:=B5.only_ ho41 (by intro hin; simp at hin; exact Eob15_ob7 hin)
  have B9:=B9.only_ ho41 (by intro hin; simp at hin; exact Eob15_ob11 hin)
  have G22:=OwF.only G22 ho41 Zo23_ob15
  have G25:=OwN.only coreOw_ok G25 ho41 (Ap.one Zo26_ob15)
  have G29:=OwF.only G29 ho41 Zo30_ob15
  have T:=T.trans (ho41.below (by first|(simp; done)|(simp; omega)))
  refine RL.nil<|then_n<|wp_seq<|wp_rl rfl<|RL.y rfl (Y.loadN (cs:=[.bool d0.done,.int .i64 y19.term.kind,.int .i64 y19.term.value,.slice A33 y19.term.data.length c34,.slice A35 y19.term.kids.length c36,.slice A37 y19.env.length c38]) rfl (by kernel_rfl) (cells6 (eqC (blkCell B40 (i:=0) rfl)) (eqC (blkCell B40 (i:=1) rfl)) (eqC (blkCell B40 (i:=2) rfl)) (eqC (blkCell B40 (i:=3) rfl)) (eqC (blkCell B40 (i:=4) rfl)) (eqC (blkCell B40 (i:=5) rfl)))) ?_
  refine RL.store (v:=.agg #[.bool d0.done,.int .i64 y19.term.kind,.int .i64 y19.term.value,.slice A33 y19.term.data.length c34,.slice A35 y19.term.kids.length c36,.slice A37 y19.env.length c38]) (cs':=#[.bool d0.done,.int .i64 y19.term.kind,.int .i64 y19.term.value,.slice A33 y19.term.data.length c34,.slice A35 y19.term.kids.length c36,.slice A37 y19.env.length c38]) rfl rfl rfl B9 (by kernel_rfl) (by rfl) (by rfl) (by rfl) (fun w42 B43 ho44=>?_)
  have szw42:=ho44.size
  have B40:=B40.only_ ho44 (by intro hin; simp at hin; exact Eob15_ob11.symm hin)
  have G22:=OwF.only G22 ho44 Zo23_ob11
  have G25:=OwN.only coreOw_ok G25 ho44 (Ap.one Zo26_ob11)
  have G29:=OwF.only G29 ho44 Zo30_ob11
  have T:=T.trans (ho44.below (by first|(simp; done)|(simp; omega)))
  refine RL.nil<|then_n<|wp_ret ?_
  obtain rfl:=sj hm
  exact (retc (cs:=[.bool d0.done,.int .i64 y19.term.kind,.int .i64 y19.term.value,.slice A33 y19.term.data.length c34,.slice A35 y19.term.kids.length c36,.slice A37 y19.env.length c38]) rfl rfl rfl (by kernel_rfl) (blkCells B43) ⟨⟨_,_,_,_,rfl,G22,G25,G29,Ro23_o26,(Ap.dj (Dj.ap Ro23_o30)),Ro26_o30⟩,T⟩)
noncomputable def m_laws_toThunkS_A1 (xs8:List DThunk):Option (List DThunk):=
  some xs8
noncomputable def m_laws_toThunkS_B1 (d0:List DThunk) (rec1:List DThunk→Int→Option (List DThunk)) (K1:List DThunk→Option (List DThunk)) (xs10:List DThunk) (i11:Int):Option (List DThunk):=
  (bif (decide (i11 < (d0.length:Int))) then ((getI d0 i11).bind fun x14=>((m_laws_toThunk x14).bind fun y26=>((getI xs10 i11).bind fun x42=>(rec1 (setI xs10 i11 y26) (i11+1))))) else (K1 xs10))
noncomputable def m_laws_toThunkS_L1 (d0:List DThunk) (K1:List DThunk→Option (List DThunk)):Nat→List DThunk→Int→Option (List DThunk)
  |0,_,_=>none
  |g+1,xs10,i11=>m_laws_toThunkS_B1 d0 (m_laws_toThunkS_L1 d0 K1 g) K1 xs10 i11
noncomputable def m_laws_toThunkS (d0:List DThunk):Option (List DThunk):=
  ((mustP (d0.length≤4294967296)).bind fun _=>(m_laws_toThunkS_L1 d0 m_laws_toThunkS_A1 (d0.length+1) (List.replicate d0.length ((⟨false,(⟨(⟨0,0,[],[]⟩:DCore),[]⟩:DClosure)⟩:DThunk):DThunk)) 0))
set_option maxHeartbeats 2000000 in
theorem c_m_laws_toThunkS (d0:List DThunk) (r:List DThunk) (hm:m_laws_toThunkS d0=some r) (v0:Value) (w:World) (hv0:Sl thunkRd 6 w v0 d0) :
    Calls Tryz.prog 62 #[v0] w fun e w'=>(∃(v0:Value) (bs0:List Nat),e=.returned (v0)∧OwN 141 thunkOw 6 w' w.heap.size v0 r bs0)∧Below w.heap.size w w':=by
  obtain ⟨Aa0,na0,ca0,rfl,ha0,ra0⟩:=hv0
  have ea0:=ha0.len; subst ea0
  have qa0:=len_le ra0
  have T:=Below.refl w.heap.size w
  unfold m_laws_toThunkS at hm
  refine enter 23 Tryz.func62 rfl rfl rfl ?_
  intro f hf
  have s0:f 0=.slice Aa0 d0.length ca0:=hf 0 _ rfl
  refine wp_seq<|wp_rs rfl<|RQ.y rfl (Y.assign (v:=.slice none 0 0) rfl)<|RQ.nil<|then_n<|wp_seq<|wp_rl rfl<|RL.y rfl (Y.move (v:=.slice Aa0 d0.length ca0) s0)<|RL.y rfl (Y.len (by kernel_rfl) rfl) ?_
  obtain ⟨_,m1,hm⟩:=bnd hm
  have hk2:=mustP_some m1
  refine RL.makeN (O:=thunkOw) (x0:=(⟨false,(⟨(⟨0,0,[],[]⟩:DCore),[]⟩:DClosure)⟩:DThunk)) (n:=d0.length) app_impl_Thunk (by decide) (fun w=>⟨none,0,0,none,0,0,none,0,0,[],[],[],rfl,⟨⟨rfl,.inl ⟨rfl,rfl⟩⟩,Nat.le_refl _,Nat.zero_le _⟩,⟨⟨rfl,.inl ⟨rfl,rfl⟩⟩,Nat.le_refl _,Nat.zero_le _⟩,⟨⟨rfl,.inl ⟨rfl,rfl⟩⟩,Nat.le_refl _,Nat.zero_le _⟩,rfl⟩) rfl rfl rfl hk2 (fun w3 G4 hb5 szw3=>?_)
  replace G4:=OwN.mono G4 T.size
  have T:=Tt T hb5
  refine RL.y rfl (Y.assign (v:=.slice (some ⟨w.heap.size,0,none⟩) d0.length d0.length) rfl)<|RL.nil<|then_n<|wp_seq<|wp_seq<|wp_rs rfl<|RQ.y rfl (Y.assign (v:=.int .i64 0) rfl)<|RQ.nil<|then_n<|wp_block ?_
  obtain ⟨K1,hK1,hm⟩ :∃K,K=m_laws_toThunkS_A1∧m_laws_toThunkS_L1 d0 K (d0.length+1) (List.replicate d0.length ((⟨false,(⟨(⟨0,0,[],[]⟩:DCore),[]⟩:DClosure)⟩:DThunk):DThunk)) 0=some r:=⟨_,rfl,hm⟩
  refine wp_loopX (fun g f w'=>∃(xs10:List DThunk) (i11:Int) (uxs10:Value) (bsxs10:List Nat),f 0=.slice Aa0 d0.length ca0∧f 3=uxs10∧OwN 141 thunkOw 6 w' w.heap.size uxs10 xs10 bsxs10∧f 4=.int .i64 i11∧0≤i11∧Below w.heap.size w w'∧m_laws_toThunkS_L1 d0 K1 g xs10 i11=some r) 0 (fun f w'=>∃(xs8:List DThunk) (uxs8:Value) (bsxs8:List Nat),f 3=uxs8∧OwN 141 thunkOw 6 w' w.heap.size uxs8 xs8 bsxs8∧Below w.heap.size w w'∧m_laws_toThunkS_A1 xs8=some r) (d0.length+1) ⟨(List.replicate d0.length ((⟨false,(⟨(⟨0,0,[],[]⟩:DCore),[]⟩:DClosure)⟩:DThunk):DThunk)),0,(.slice (some ⟨w.heap.size,0,none⟩) d0.length d0.length),([w.heap.size]),s0,rfl,G4,rfl,(by omega),T,hm⟩ ?_ ?_
  ·rintro f w9 ⟨xs8,uxs8,bsxs8,s3_1x,Guxs8,T,hm⟩
   unfold m_laws_toThunkS_A1 at hm
   refine blk_hit (then_n ?_)
   refine wp_seq<|wp_rs rfl<|RQ.y rfl (Y.move (v:=uxs8) s3_1x)<|RQ.y rfl (Y.assign (v:=uxs8) rfl)<|RQ.nil<|then_n<|wp_ret ?_
   obtain rfl:=sj hm
   exact (ret1 rfl rfl rfl ⟨⟨_,_,rfl,Guxs8⟩,T⟩)
  rintro g f w12 ⟨xs10,i11,uxs10,bsxs10,s0_1,s3_1,Guxs10,s4_1,nn4_1,T,hm⟩
  rcases g with _|g
  ·simp only [m_laws_toThunkS_L1] at hm; cases hm
  obtain ⟨rec1,hrec1,hm⟩ :∃z,z=m_laws_toThunkS_L1 d0 K1 g∧m_laws_toThunkS_B1 d0 z K1 xs10 i11=some r:=⟨_,rfl,hm⟩
  unfold m_laws_toThunkS_B1 at hm
  refine wp_seq<|wp_seq<|wp_rs rfl<|RQ.y rfl (Y.move (v:=.int .i64 i11) s4_1)<|RQ.y rfl (Y.move (v:=.slice Aa0 d0.length ca0) s0_1)<|RQ.y rfl (Y.len (by kernel_rfl) rfl)<|RQ.y rfl (Y.binI (v:=.bool (decide (i11 < (d0.length:Int)))) rfl rfl rfl)<|RQ.nil<|then_n ?_
  rcases bcases (decide (i11 < (d0.length:Int))) with c13|c13
  ·replace hm:=cF c13 hm
   have pc13:=of_decide_eq_false c13
   refine cond_f rfl (vb rfl c13)<|wp_exit ?_
   exact (then_x (then_x (hit_x ⟨_,rfl,⟨xs10,(uxs10),bsxs10,s3_1,Guxs10,T,(by rw [hK1] at hm; exact hm)⟩⟩)))
  replace hm:=cT c13 hm
  have pc13:=of_decide_eq_true c13
  refine cond_t rfl (vb rfl c13)<|wp_skip<|then_n<|wp_seq<|wp_block<|wp_rl rfl<|RL.y rfl (Y.move (v:=uxs10) s3_1)<|RL.y rfl (Y.move (v:=.int .i64 i11) s4_1)<|RL.y rfl (Y.move (v:=.slice Aa0 d0.length ca0) s0_1)<|RL.y rfl (Y.move (v:=.int .i64 i11) s4_1) ?_
  obtain ⟨x14,hx17,hm⟩:=bnd hm
  obtain ⟨k15,hk18,hl19,hx17⟩:=getI_some hx17
  obtain ⟨b21,o22,rfl,hbb21⟩:=ha0.addr (by omega)
  obtain ⟨cs16,hRcs16,hc20⟩:=ha0.el hx17
  have hScs16:=hRcs16
  obtain ⟨A23,n23,c23,A24,n24,c24,A25,n25,c25,rfl,⟨h23,r23⟩,⟨h24,r24⟩,⟨h25,r25⟩⟩:=hRcs16
  have e23:=h23.len; subst e23
  have q23:=len_le r23
  have e24:=h24.len; subst e24
  have q24:=len_le r24
  have e25:=h25.len; subst e25
  have q25:=len_le r25
  refine RL.y rfl (Y.indexAddr (m:=k15) (sz:=6) rfl rfl hk18 hl19 (by kernel_rfl))<|RL.y rfl (Y.loadN (cs:=[.bool x14.done,.int .i64 x14.closure.term.kind,.int .i64 x14.closure.term.value,.slice A23 x14.closure.term.data.length c23,.slice A24 x14.closure.term.kids.length c24,.slice A25 x14.closure.env.length c25]) rfl (by kernel_rfl) (cells6 (eqC (cellT T (hc20 0 _ rfl))) (eqC (cellT T (hc20 1 _ rfl))) (eqC (cellT T (hc20 2 _ rfl))) (eqC (cellT T (hc20 3 _ rfl))) (eqC (cellT T (hc20 4 _ rfl))) (eqC (cellT T (hc20 5 _ rfl))))) ?_
  obtain ⟨y26,e27,hm⟩:=bnd hm
  refine RL.call rfl (am1 rfl) (by kernel_rfl) ((c_m_laws_toThunk x14 _ e27 _ _ (stArg (R:=thunkRd) ⟨_,_,_,_,_,_,_,_,_,rfl,⟨SlAt.now intRd_ok h23 (Nat.le_refl _) T,r23⟩,⟨SlAt.now coreRd_ok h24 (Nat.le_refl _) T,r24⟩,⟨SlAt.now intRd_ok h25 (Nat.le_refl _) T,r25⟩⟩)).mono ?_)
  rintro _ w38 ⟨⟨v28,v31,bs34,v35,rfl,G29,G32,G36,Ro30_o33,Ro30_o37,Ro33_o37⟩,hb39⟩
  refine ⟨_,rfl,?_⟩
  have szw38:=hb39.size
  have T0w38:=T.size
  have Zo30_oxs10:Ap (fb v28) bsxs10:=(Ap.new (OwF.flo G29) (OwN.hi Guxs10))
  have Zo33_oxs10:Ap bs34 bsxs10:=(Ap.new (OwN.lo_ G32) (OwN.hi Guxs10))
  have Zo37_oxs10:Ap (fb v35) bsxs10:=(Ap.new (OwF.flo G36) (OwN.hi Guxs10))
  have Guxs10:=OwN.below thunkOw_ok Guxs10 hb39
  have T:=Tt T hb39
  replace G29:=OwF.mono G29 T0w38
  replace G32:=OwN.mono G32 T0w38
  replace G36:=OwF.mono G36 T0w38
  obtain ⟨A40,c41,rfl⟩:=OwN.form Guxs10
  have qbA40:=OwN.bound Guxs10
  obtain ⟨x42,hx44,hm⟩:=bnd hm
  obtain ⟨k43,hk45,hl46,hx44⟩:=getI_some hx44
  obtain ⟨b47,rfl⟩:=OwN.addr0 Guxs10 (by omega)
  refine RL.y rfl (Y.indexAddr (m:=k43) (sz:=6) rfl rfl hk45 hl46 (by kernel_rfl)) ?_
  obtain ⟨A48,c49,rfl⟩:=OwF.form G29
  have qbA48:=OwF.bound G29
  obtain ⟨A50,c51,rfl⟩:=OwN.form G32
  have qbA50:=OwN.bound G32
  obtain ⟨A52,c53,rfl⟩:=OwF.form G36
  have qbA52:=OwF.bound G36
  obtain ⟨l55,a54,nd56,sb57,r58⟩:=OwF.own2 fI G29
  obtain ⟨_,_,_,l60,hea59,a59,nd61,sb62,r63⟩:=OwN.own1 coreOw_ok G32
  injection hea59 with e1 e2 e3; subst e1 e2 e3
  obtain ⟨l65,a64,nd66,sb67,r68⟩:=OwF.own2 fI G36
  refine RL.storeNW (k:=k43) (a':=y26) (l:=((l55 ++ l60) ++ l65)) (fp:=(((fb (.slice A48 y26.closure.term.data.length c49)) ++ bs34) ++ (fb (.slice A52 y26.closure.env.length c53)))) thunkOw_ok thunkOw_one rfl rfl rfl Guxs10 hx44 ⟨_,_,_,_,_,_,_,_,_,l55,l60,l65,rfl,⟨a54,r58⟩,⟨a59,r63⟩,⟨a64,r68⟩,rfl⟩ (nodup2 (nodup2 nd56 nd61 sb57 sb62 Ro30_o33) nd66 (sub2 sb57 sb62) sb67 (Ap.append (Dj.ap Ro30_o37) Ro33_o37)) (sub2 (sub2 sb57 sb62) sb67) (Ap.symm (Ap.append (Ap.append Zo30_oxs10 Zo33_oxs10) Zo37_oxs10)) (all2 (all2 (OwF.fboth G29 (Nat.le_refl _)) (OwN.both G32 (Nat.le_refl _))) (OwF.fboth G36 (Nat.le_refl _))) (by kernel_rfl) (fun w69 G70 ho71=>?_)
  have szw69:=ho71.size
  have T:=T.trans (ho71.below (by intro b hb; simp at hb; subst hb; exact OwN.lo_ Guxs10 _ (OwN.row Guxs10 rfl)))
  have G70:OwN 141 thunkOw 6 w69 w.heap.size (.slice (some ⟨b47,0,none⟩) xs10.length c41) (setI xs10 i11 y26) (bsxs10 ++ (((fb (.slice A48 y26.closure.term.data.length c49)) ++ bs34) ++ (fb (.slice A52 y26.closure.env.length c53)))):=by rw [setI_eq hk45]; exact G70
  refine RL.nil ?_
  refine blk_n (then_n ?_)
  refine wp_rs rfl<|RQ.y rfl (Y.move (v:=.int .i64 i11) s4_1)<|RQ.y rfl (Y.binI rfl rfl (binI_add (m:=i11) (by omega)))<|RQ.y rfl (Y.assign (v:=.int .i64 (i11+1)) rfl)<|RQ.nil ?_
  exact (then_n ⟨g,_,Nat.lt_succ_self _,rfl,⟨(setI xs10 i11 y26),(i11+1),(.slice (some ⟨b47,0,none⟩) xs10.length c41),(bsxs10 ++ (((fb (.slice A48 y26.closure.term.data.length c49)) ++ bs34) ++ (fb (.slice A52 y26.closure.env.length c53)))),s0_1,s3_1,G70,rfl,(by omega),T,(by rw [← hrec1]; exact hm)⟩⟩)
noncomputable def m_laws_toNeed (d0:DNeed):Option DNeed:=
  ((m_laws_toClosure (⟨(⟨d0.control.term.kind,d0.control.term.value,d0.control.term.data,d0.control.term.kids⟩:DCore),d0.control.env⟩:DClosure)).bind fun y18=>((m_laws_toFrameS d0.stack).bind fun y41=>((m_laws_toThunkS d0.heap).bind fun y54=>some (⟨(⟨(⟨y18.term.kind,y18.term.value,y18.term.data,y18.term.kids⟩:DCore),y18.env⟩:DClosure),y41,y54⟩:DNeed))))
set_option maxHeartbeats 2000000 in
theorem c_m_laws_toNeed (d0:DNeed) (r:DNeed) (hm:m_laws_toNeed d0=some r) (v0:Value) (w:World) (hv0:St needRd w v0 d0) :
    Calls Tryz.prog 24 #[v0] w fun e w'=>(∃(v0:Value) (v1:Value) (bs1:List Nat) (v2:Value) (v3:Value) (bs3:List Nat) (v4:Value) (bs4:List Nat),e=.returned (.agg #[.int .i64 r.control.term.kind,.int .i64 r.control.term.value,v0,v1,v2,v3,v4])∧OwF 2 encI 1 w' w.heap.size v0 r.control.term.data∧OwN 78 coreOw 4 w' w.heap.size v1 r.control.term.kids bs1∧OwF 2 encI 1 w' w.heap.size v2 r.control.env∧OwN 145 frameOw 8 w' w.heap.size v3 r.stack bs3∧OwN 141 thunkOw 6 w' w.heap.size v4 r.heap bs4∧Ap (fb v0) bs1∧Dj v0 v2∧Ap bs1 (fb v2)∧Ap (fb v0) bs3∧Ap bs1 bs3∧Ap (fb v2) bs3∧Ap (fb v0) bs4∧Ap bs1 bs4∧Ap (fb v2) bs4∧Ap bs3 bs4)∧Below w.heap.size w w':=by
  obtain ⟨csa0,rfl,⟨A1,n1,c1,A2,n2,c2,A3,n3,c3,A4,n4,c4,A5,n5,c5,rfl,⟨h1,r1⟩,⟨h2,r2⟩,⟨h3,r3⟩,⟨h4,r4⟩,⟨h5,r5⟩⟩⟩:=hv0
  have e1:=h1.len; subst e1
  have q1:=len_le r1
  have e2:=h2.len; subst e2
  have q2:=len_le r2
  have e3:=h3.len; subst e3
  have q3:=len_le r3
  have e4:=h4.len; subst e4
  have q4:=len_le r4
  have e5:=h5.len; subst e5
  have q5:=len_le r5
  have T:=Below.refl w.heap.size w
  unfold m_laws_toNeed at hm
  refine enter 17 Tryz.func24 rfl rfl rfl ?_
  intro f hf
  have s0:f 0=.agg #[.int .i64 d0.control.term.kind,.int .i64 d0.control.term.value,.slice A1 d0.control.term.data.length c1,.slice A2 d0.control.term.kids.length c2,.slice A3 d0.control.env.length c3,.slice A4 d0.stack.length c4,.slice A5 d0.heap.length c5]:=hf 0 _ rfl
  refine wp_seq<|wp_rl rfl ?_
  refine RL.box rfl s0 (fun w6 B7 hb8 szw6=>?_)
  replace B7:Blk w6 w.heap.size 68 #[.int .i64 d0.control.term.kind,.int .i64 d0.control.term.value,.slice A1 d0.control.term.data.length c1,.slice A2 d0.control.term.kids.length c2,.slice A3 d0.control.env.length c3,.slice A4 d0.stack.length c4,.slice A5 d0.heap.length c5]:=B7
  have GB7:w.heap.size≤w.heap.size:=T.size
  have T:=Tt T hb8
  refine RL.alloc (z:=.agg #[.int .i64 0,.int .i64 0,.slice none 0 0,.slice none 0 0,.slice none 0 0,.slice none 0 0,.slice none 0 0]) rfl (by kernel_rfl) (fun w10 B11 hb12 szw10=>?_)
  replace B11:Blk w10 w6.heap.size 84 #[.int .i64 0,.int .i64 0,.slice none 0 0,.slice none 0 0,.slice none 0 0,.slice none 0 0,.slice none 0 0]:=B11
  have GB11:w.heap.size≤w6.heap.size:=T.size
  have Eob13_ob9:=Nat.ne_of_lt B7.lt
  have B7:=blkT B7 hb12
  have T:=Tt T hb12
  refine RL.nil<|then_n<|wp_seq<|wp_rl rfl ?_
  refine RL.alloc (z:=.agg #[.int .i64 0,.int .i64 0,.slice none 0 0,.slice none 0 0,.slice none 0 0,.slice none 0 0,.slice none 0 0]) rfl (by kernel_rfl) (fun w14 B15 hb16 szw14=>?_)
  replace B15:Blk w14 w10.heap.size 84 #[.int .i64 0,.int .i64 0,.slice none 0 0,.slice none 0 0,.slice none 0 0,.slice none 0 0,.slice none 0 0]:=B15
  have GB15:w.heap.size≤w10.heap.size:=T.size
  have Eob17_ob9:=Nat.ne_of_lt B7.lt
  have Eob17_ob13:=Nat.ne_of_lt B11.lt
  have B7:=blkT B7 hb16
  have B11:=blkT B11 hb16
  have T:=Tt T hb16
  refine RL.nil<|then_n<|wp_seq<|wp_rl rfl<|RL.y rfl (Y.fieldAddr (off:=0) rfl (by kernel_rfl))<|RL.y rfl (Y.loadN (cs:=[.int .i64 d0.control.term.kind,.int .i64 d0.control.term.value,.slice A1 d0.control.term.data.length c1,.slice A2 d0.control.term.kids.length c2,.slice A3 d0.control.env.length c3]) rfl (by kernel_rfl) (cells5 (eqC (blkCell B7 (i:=0) rfl)) (eqC (blkCell B7 (i:=1) rfl)) (eqC (blkCell B7 (i:=2) rfl)) (eqC (blkCell B7 (i:=3) rfl)) (eqC (blkCell B7 (i:=4) rfl)))) ?_
  obtain ⟨y18,e19,hm⟩:=bnd hm
  refine RL.call rfl (am1 rfl) (by kernel_rfl) ((c_m_laws_toClosure (⟨(⟨d0.control.term.kind,d0.control.term.value,d0.control.term.data,d0.control.term.kids⟩:DCore),d0.control.env⟩:DClosure) _ e19 _ _ (stArg (R:=closureRd) ⟨_,_,_,_,_,_,_,_,_,rfl,⟨SlAt.now intRd_ok h1 (Nat.le_refl _) T,r1⟩,⟨SlAt.now coreRd_ok h2 (Nat.le_refl _) T,r2⟩,⟨SlAt.now intRd_ok h3 (Nat.le_refl _) T,r3⟩⟩)).mono ?_)
  rintro _ w30 ⟨⟨v20,v23,bs26,v27,rfl,G21,G24,G28,Ro22_o25,Ro22_o29,Ro25_o29⟩,hb31⟩
  refine ⟨_,rfl,?_⟩
  have szw30:=hb31.size
  have T0w30:=T.size
  have Zo22_ob9:=ap_ne (Ap.new (OwF.flo G21) (one_hi B7.lt))
  have Zo22_ob13:=ap_ne (Ap.new (OwF.flo G21) (one_hi B11.lt))
  have Zo22_ob17:=ap_ne (Ap.new (OwF.flo G21) (one_hi B15.lt))
  have Zo25_ob9:Ap bs26 [w.heap.size]:=(Ap.new (OwN.lo_ G24) (one_hi B7.lt))
  have Zo25_ob13:Ap bs26 [w6.heap.size]:=(Ap.new (OwN.lo_ G24) (one_hi B11.lt))
  have Zo25_ob17:Ap bs26 [w10.heap.size]:=(Ap.new (OwN.lo_ G24) (one_hi B15.lt))
  have Zo29_ob9:=ap_ne (Ap.new (OwF.flo G28) (one_hi B7.lt))
  have Zo29_ob13:=ap_ne (Ap.new (OwF.flo G28) (one_hi B11.lt))
  have Zo29_ob17:=ap_ne (Ap.new (OwF.flo G28) (one_hi B15.lt))
  have B7:=blkT B7 hb31
  have B11:=blkT B11 hb31
  have B15:=blkT B15 hb31
  have T:=Tt T hb31
  replace G21:=OwF.mono G21 T0w30
  replace G24:=OwN.mono G24 T0w30
  replace G28:=OwF.mono G28 T0w30
  refine RL.y rfl (Y.fieldAddr (off:=0) rfl (by kernel_rfl)) ?_
  obtain ⟨A32,c33,rfl⟩:=OwF.form G21
  have qbA32:=OwF.bound G21
  obtain ⟨A34,c35,rfl⟩:=OwN.form G24
  have qbA34:=OwN.bound G24
  obtain ⟨A36,c37,rfl⟩:=OwF.form G28
  have qbA36:=OwF.bound G28
  refine RL.store (v:=.agg #[.int .i64 y18.term.kind,.int .i64 y18.term.value,.slice A32 y18.term.data.length c33,.slice A34 y18.term.kids.length c35,.slice A36 y18.env.length c37]) (cs':=#[.int .i64 y18.term.kind,.int .i64 y18.term.value,.slice A32 y18.term.data.length c33,.slice A34 y18.term.kids.length c35,.slice A36 y18.env.length c37,.slice none 0 0,.slice none 0 0]) rfl rfl rfl B15 (by kernel_rfl) (by rfl) (by rfl) (by rfl) (fun w38 B39 ho40=>?_)
  have szw38:=ho40.size
  have B7:=B7.only_ ho40 (by intro hin; simp at hin; exact Eob17_ob9 hin)
  have B11:=B11.only_ ho40 (by intro hin; simp at hin; exact Eob17_ob13 hin)
  have G21:=OwF.only G21 ho40 Zo22_ob17
  have G24:=OwN.only coreOw_ok G24 ho40 (Ap.one Zo25_ob17)
  have G28:=OwF.only G28 ho40 Zo29_ob17
  have T:=T.trans (ho40.below (by first|(simp; done)|(simp; omega)))
  refine RL.nil<|then_n<|wp_seq<|wp_rl rfl<|RL.y rfl (Y.fieldAddr (off:=5) rfl (by kernel_rfl))<|RL.y rfl (Y.load (v:=.slice A4 d0.stack.length c4) rfl (by kernel_rfl) (eqC (blkCell B7 (i:=5) rfl))) ?_
  obtain ⟨y41,e42,hm⟩:=bnd hm
  refine RL.call rfl (am1 rfl) (by kernel_rfl) ((c_m_laws_toFrameS d0.stack _ e42 _ _ (slArg frameRd_ok h4 r4 T)).mono ?_)
  rintro _ w47 ⟨⟨v43,bs46,rfl,G44⟩,hb48⟩
  refine ⟨_,rfl,?_⟩
  have szw47:=hb48.size
  have T0w47:=T.size
  have Zo45_ob9:Ap bs46 [w.heap.size]:=(Ap.new (OwN.lo_ G44) (one_hi B7.lt))
  have Zo45_ob13:Ap bs46 [w6.heap.size]:=(Ap.new (OwN.lo_ G44) (one_hi B11.lt))
  have Zo45_ob17:Ap bs46 [w10.heap.size]:=(Ap.new (OwN.lo_ G44) (one_hi B39.lt))
  have Zo45_o22:Ap bs46 (fb (.slice A32 y18.term.data.length c33)):=(Ap.new (OwN.lo_ G44) (OwF.fhi G21))
  have Zo45_o25:Ap bs46 bs26:=(Ap.new (OwN.lo_ G44) (OwN.hi G24))
  have Zo45_o29:Ap bs46 (fb (.slice A36 y18.env.length c37)):=(Ap.new (OwN.lo_ G44) (OwF.fhi G28))
  have B7:=blkT B7 hb48
  have B11:=blkT B11 hb48
  have B39:=blkT B39 hb48
  have G21:=OwF.below G21 hb48
  have G24:=OwN.below coreOw_ok G24 hb48
  have G28:=OwF.below G28 hb48
  have T:=Tt T hb48
  replace G44:=OwN.mono G44 T0w47
  refine RL.y rfl (Y.fieldAddr (off:=5) rfl (by kernel_rfl)) ?_
  obtain ⟨A49,c50,rfl⟩:=OwN.form G44
  have qbA49:=OwN.bound G44
  refine RL.store (v:=.slice A49 y41.length c50) (cs':=#[.int .i64 y18.term.kind,.int .i64 y18.term.value,.slice A32 y18.term.data.length c33,.slice A34 y18.term.kids.length c35,.slice A36 y18.env.length c37,.slice A49 y41.length c50,.slice none 0 0]) rfl rfl rfl B39 (by kernel_rfl) (by rfl) (by rfl) (by rfl) (fun w51 B52 ho53=>?_)
  have szw51:=ho53.size
  have B7:=B7.only_ ho53 (by intro hin; simp at hin; exact Eob17_ob9 hin)
  have B11:=B11.only_ ho53 (by intro hin; simp at hin; exact Eob17_ob13 hin)
  have G21:=OwF.only G21 ho53 Zo22_ob17
  have G24:=OwN.only coreOw_ok G24 ho53 (Ap.one Zo25_ob17)
  have G28:=OwF.only G28 ho53 Zo29_ob17
  have G44:=OwN.only frameOw_ok G44 ho53 (Ap.one Zo45_ob17)
  have T:=T.trans (ho53.below (by first|(simp; done)|(simp; omega)))
  refine RL.nil<|then_n<|wp_seq<|wp_rl rfl<|RL.y rfl (Y.fieldAddr (off:=6) rfl (by kernel_rfl))<|RL.y rfl (Y.load (v:=.slice A5 d0.heap.length c5) rfl (by kernel_rfl) (eqC (blkCell B7 (i:=6) rfl))) ?_
  obtain ⟨y54,e55,hm⟩:=bnd hm
  refine RL.call rfl (am1 rfl) (by kernel_rfl) ((c_m_laws_toThunkS d0.heap _ e55 _ _ (slArg thunkRd_ok h5 r5 T)).mono ?_)
  rintro _ w60 ⟨⟨v56,bs59,rfl,G57⟩,hb61⟩
  refine ⟨_,rfl,?_⟩
  have szw60:=hb61.size
  have T0w60:=T.size
  have Zo58_ob9:Ap bs59 [w.heap.size]:=(Ap.new (OwN.lo_ G57) (one_hi B7.lt))
  have Zo58_ob13:Ap bs59 [w6.heap.size]:=(Ap.new (OwN.lo_ G57) (one_hi B11.lt))
  have Zo58_ob17:Ap bs59 [w10.heap.size]:=(Ap.new (OwN.lo_ G57) (one_hi B52.lt))
  have Zo58_o22:Ap bs59 (fb (.slice A32 y18.term.data.length c33)):=(Ap.new (OwN.lo_ G57) (OwF.fhi G21))
  have Zo58_o25:Ap bs59 bs26:=(Ap.new (OwN.lo_ G57) (OwN.hi G24))
  have Zo58_o29:Ap bs59 (fb (.slice A36 y18.env.length c37)):=(Ap.new (OwN.lo_ G57) (OwF.fhi G28))
  have Zo58_o45:Ap bs59 bs46:=(Ap.new (OwN.lo_ G57) (OwN.hi G44))
  have B7:=blkT B7 hb61
  have B11:=blkT B11 hb61
  have B52:=blkT B52 hb61
  have G21:=OwF.below G21 hb61
  have G24:=OwN.below coreOw_ok G24 hb61
  have G28:=OwF.below G28 hb61
  have G44:=OwN.below frameOw_ok G44 hb61
  have T:=Tt T hb61
  replace G57:=OwN.mono G57 T0w60
  refine RL.y rfl (Y.fieldAddr (off:=6) rfl (by kernel_rfl)) ?_
  obtain ⟨A62,c63,rfl⟩:=OwN.form G57
  have qbA62:=OwN.bound G57
  refine RL.store (v:=.slice A62 y54.length c63) (cs':=#[.int .i64 y18.term.kind,.int .i64 y18.term.value,.slice A32 y18.term.data.length c33,.slice A34 y18.term.kids.length c35,.slice A36 y18.env.length c37,.slice A49 y41.length c50,.slice A62 y54.length c63]) rfl rfl rfl B52 (by kernel_rfl) (by rfl) (by rfl) (by rfl) (fun w64 B65 ho66=>?_)
  have szw64:=ho66.size
  have B7:=B7.only_ ho66 (by intro hin; simp at hin; exact Eob17_ob9 hin)
  have B11:=B11.only_ ho66 (by intro hin; simp at hin; exact Eob17_ob13 hin)
  have G21:=OwF.only G21 ho66 Zo22_ob17
  have G24:=OwN.only coreOw_ok G24 ho66 (Ap.one Zo25_ob17)
  have G28:=OwF.only G28 ho66 Zo29_ob17
  have G44:=OwN.only frameOw_ok G44 ho66 (Ap.one Zo45_ob17)
  have G57:=OwN.only thunkOw_ok G57 ho66 (Ap.one Zo58_ob17)
  have T:=T.trans (ho66.below (by first|(simp; done)|(simp; omega)))
  refine RL.nil<|then_n<|wp_seq<|wp_rl rfl<|RL.y rfl (Y.loadN (cs:=[.int .i64 y18.term.kind,.int .i64 y18.term.value,.slice A32 y18.term.data.length c33,.slice A34 y18.term.kids.length c35,.slice A36 y18.env.length c37,.slice A49 y41.length c50,.slice A62 y54.length c63]) rfl (by kernel_rfl) (cells7 (eqC (blkCell B65 (i:=0) rfl)) (eqC (blkCell B65 (i:=1) rfl)) (eqC (blkCell B65 (i:=2) rfl)) (eqC (blkCell B65 (i:=3) rfl)) (eqC (blkCell B65 (i:=4) rfl)) (eqC (blkCell B65 (i:=5) rfl)) (eqC (blkCell B65 (i:=6) rfl)))) ?_
  refine RL.store (v:=.agg #[.int .i64 y18.term.kind,.int .i64 y18.term.value,.slice A32 y18.term.data.length c33,.slice A34 y18.term.kids.length c35,.slice A36 y18.env.length c37,.slice A49 y41.length c50,.slice A62 y54.length c63]) (cs':=#[.int .i64 y18.term.kind,.int .i64 y18.term.value,.slice A32 y18.term.data.length c33,.slice A34 y18.term.kids.length c35,.slice A36 y18.env.length c37,.slice A49 y41.length c50,.slice A62 y54.length c63]) rfl rfl rfl B11 (by kernel_rfl) (by rfl) (by rfl) (by rfl) (fun w67 B68 ho69=>?_)
  have szw67:=ho69.size
  have B65:=B65.only_ ho69 (by intro hin; simp at hin; exact Eob17_ob13.symm hin)
  have G21:=OwF.only G21 ho69 Zo22_ob13
  have G24:=OwN.only coreOw_ok G24 ho69 (Ap.one Zo25_ob13)
  have G28:=OwF.only G28 ho69 Zo29_ob13
  have G44:=OwN.only frameOw_ok G44 ho69 (Ap.one Zo45_ob13)
  have G57:=OwN.only thunkOw_ok G57 ho69 (Ap.one Zo58_ob13)
  have T:=T.trans (ho69.below (by first|(simp; done)|(simp; omega)))
  refine RL.nil<|then_n<|wp_ret ?_
  obtain rfl:=sj hm
  exact (retc (cs:=[.int .i64 y18.term.kind,.int .i64 y18.term.value,.slice A32 y18.term.data.length c33,.slice A34 y18.term.kids.length c35,.slice A36 y18.env.length c37,.slice A49 y41.length c50,.slice A62 y54.length c63]) rfl rfl rfl (by kernel_rfl) (blkCells B68) ⟨⟨_,_,_,_,_,_,_,_,rfl,G21,G24,G28,G44,G57,Ro22_o25,(Ap.dj (Dj.ap Ro22_o29)),Ro25_o29,(Ap.symm Zo45_o22),(Ap.symm Zo45_o25),(Ap.symm Zo45_o29),(Ap.symm Zo58_o22),(Ap.symm Zo58_o25),(Ap.symm Zo58_o29),(Ap.symm Zo58_o45)⟩,T⟩)
end
section
open Go.RowKit
/-- Rows are not longer than Go's largest length. -/
inductive OkCo:DCore→Prop
  |mk {x:DCore} (hd:x.data.length≤maxLen) (hl:x.kids.length≤maxLen) (hk :∀y,y∈x.kids→OkCo y):OkCo x
theorem OkCo.data {x:DCore} (h:OkCo x):x.data.length≤maxLen:=by cases h; assumption
theorem OkCo.len {x:DCore} (h:OkCo x):x.kids.length≤maxLen:=by cases h; assumption
theorem OkCo.kids {x:DCore} (h:OkCo x) :∀y∈x.kids,OkCo y:=by cases h; assumption
theorem SlAt.each {α:Type} {R:Rd α} {sz:Nat} {w:World} {B n:Nat} {A:Option Addr} {xs:List α} (h:SlAt R sz w B A n xs) :∀x∈xs,∃cs,R w B cs x:=fun x hx=>by
  obtain ⟨i,hi,rfl⟩:=List.getElem_of_mem hx
  have hn:0 < n:=by have:=h.1; omega
  obtain ⟨b,off,e,hb,hs⟩:=h.2 hn
  obtain ⟨cs,hR,hv⟩:=hs i _ (List.getElem?_eq_getElem hi)
  exact ⟨cs,hR⟩
theorem coreRd_okc {w:World} {B:Nat} :∀(gas:Nat) (cs:List Value) (x:DCore),SizeOf.sizeOf x≤gas→coreRd w B cs x→OkCo x
  |0,cs,x,h,_=>by have:=x.pos; omega
  |gas+1,cs,x,h,hR=>by
    obtain ⟨A1,n1,c1,A2,n2,c2,rfl,⟨h1,r1⟩,⟨h2,r2⟩⟩:=coreRd_out hR
    have e1:=h1.len
    have e2:=h2.len
    refine OkCo.mk (by have:=r1.1; have:=r1.2; omega) (by have:=r2.1; have:=r2.2; omega) (fun y hy=>?_)
    obtain ⟨cs',hR'⟩:=h2.each y hy
    exact coreRd_okc gas cs' y (by have:=DCore.kid_lt hy; omega) hR'
def OkCoS (xs:List DCore):Prop:=xs.length≤maxLen∧∀y∈xs,OkCo y
structure OkClo (c:DClosure):Prop where
  term:OkCo c.term
  env:c.env.length≤maxLen
structure OkNeed (m:DNeed):Prop where
  ct:OkClo m.control
  sl:m.stack.length≤maxLen
  st :∀f∈m.stack,OkClo f.closure∧f.data.length≤maxLen
  hl:m.heap.length≤maxLen
  hp :∀t∈m.heap,OkClo t.closure
theorem bookRd_ok2 {w:World} {B:Nat} {cs:List Value} {x:DBook} (h:bookRd w B cs x):OkCoS x.defs:=by
  obtain ⟨A1,n1,c1,rfl,⟨h1,r1⟩⟩:=h
  have e1:=h1.len
  refine ⟨by have:=r1.1; have:=r1.2; omega,fun y hy=>?_⟩
  obtain ⟨cs',hR⟩:=h1.each y hy
  exact coreRd_okc _ cs' y (Nat.le_refl _) hR
theorem cloOf {w:World} {B n1 c1 n2 c2 n3 c3:Nat} {A1 A2 A3:Option Addr} {c:DClosure} (h1:SlAt intRd 1 w B A1 n1 c.term.data) (r1:n1≤c1∧c1≤maxLen) (h2:SlAt coreRd 4 w B A2 n2 c.term.kids) (r2:n2≤c2∧c2≤maxLen) (h3:SlAt intRd 1 w B A3 n3 c.env) (r3:n3≤c3∧c3≤maxLen):OkClo c:=by
  have e1:=h1.len
  have e2:=h2.len
  have e3:=h3.len
  refine ⟨OkCo.mk (by have:=r1.1; have:=r1.2; omega) (by have:=r2.1; have:=r2.2; omega) (fun y hy=>?_),by have:=r3.1; have:=r3.2; omega⟩
  obtain ⟨cs',hR⟩:=h2.each y hy
  exact coreRd_okc _ cs' y (Nat.le_refl _) hR
theorem needRd_ok2 {w:World} {B:Nat} {cs:List Value} {x:DNeed} (h:needRd w B cs x):OkNeed x:=by
  obtain ⟨A1,n1,c1,A2,n2,c2,A3,n3,c3,A4,n4,c4,A5,n5,c5,rfl,⟨h1,r1⟩,⟨h2,r2⟩,⟨h3,r3⟩,⟨h4,r4⟩,⟨h5,r5⟩⟩:=h
  have e4:=h4.len
  have e5:=h5.len
  refine ⟨cloOf h1 r1 h2 r2 h3 r3,by have:=r4.1; have:=r4.2; omega,fun f hf=>?_,by have:=r5.1; have:=r5.2; omega,fun t ht=>?_⟩
  · obtain ⟨cs',A1,n1,c1,A2,n2,c2,A3,n3,c3,A4,n4,c4,rfl,⟨h1,r1⟩,⟨h2,r2⟩,⟨h3,r3⟩,⟨h4,r4⟩⟩:=h4.each f hf
    have e1:=h1.len
    exact ⟨cloOf h2 r2 h3 r3 h4 r4,by have:=r1.1; have:=r1.2; omega⟩
  · obtain ⟨cs',A1,n1,c1,A2,n2,c2,A3,n3,c3,rfl,⟨h1,r1⟩,⟨h2,r2⟩,⟨h3,r3⟩⟩:=h5.each t ht
    exact cloOf h1 r1 h2 r2 h3 r3
def szCoreS (xs:List DCore):Nat:=xs.length+szCoreL xs
theorem szCore_eq (x:DCore):szCore x=x.data.length+szCoreS x.kids:=by
  obtain ⟨a,b,c,d⟩:=x
  rw [szCore]; rfl
theorem szCoreL_eq :∀xs:List DCore,szCoreL xs=(xs.map szCore).sum
  |[]=>by rw [szCoreL]; rfl
  |x :: xs=>by rw [szCoreL,szCoreL_eq xs,List.map_cons,List.sum_cons]
theorem szCoreS_eq (xs:List DCore):szCoreS xs=xs.length+(xs.map szCore).sum:=by unfold szCoreS; rw [szCoreL_eq]
theorem szC_kids (x:DCore):SizeOf.sizeOf x.kids < SizeOf.sizeOf x:=by
  obtain ⟨a,b,c,d⟩:=x
  simp only [DCore.mk.sizeOf_spec]
  omega
theorem szC_posS (xs:List DCore):0 < SizeOf.sizeOf xs:=by cases xs <;> simp <;> omega
def szBook (b:DBook):Nat:=szCoreS b.defs
def szClosure (c:DClosure):Nat:=szCore c.term+c.env.length
def szFrame (f:DFrame):Nat:=f.data.length+szClosure f.closure
def szFrameS (xs:List DFrame):Nat:=xs.length+(xs.map szFrame).sum
def szThunk (t:DThunk):Nat:=szClosure t.closure
def szThunkS (xs:List DThunk):Nat:=xs.length+(xs.map szThunk).sum
def szNeed (m:DNeed):Nat:=szClosure m.control+(szFrameS m.stack+szThunkS m.heap)
theorem szL_leN {left:Int} {a:Nat} (h:left≤1048576):szL left a≤1048576:=by unfold szL; split <;> omega
theorem szTail {left:Int} {a:Nat} : (bif decide (szL left a < 0) then some (-1) else some (szL left a))=some (szL left a):=by
  by_cases hn:szL left a < 0
  · rw [decide_eq_true hn,cond_true]
    congr 1
    unfold szL at hn ⊢
    split
    · rfl
    · rename_i h; rw [if_neg h] at hn; omega
  · rw [decide_eq_false hn,cond_false]
theorem p_szInts (xs:List Int) (left:Int) (hl:xs.length≤maxLen) (h0:0≤left) (h1:left≤1048576):m_laws_szInt64S xs left=some (szL left xs.length):=by
  unfold m_laws_szInt64S
  have:=maxLen_le hl
  rw [ck_ok (by omega),Option.bind_some]
  by_cases hn:left - (xs.length:Int) < 0
  · rw [decide_eq_true hn,cond_true,szL_neg (by omega)]
  · rw [decide_eq_false hn,cond_false,szL_pos hn]
theorem p_szCo :∀gas:Nat,(∀(xs:List DCore) (left:Int),SizeOf.sizeOf xs≤gas→OkCoS xs→0≤left→left≤1048576→m_laws_szCoreS gas xs left=some (szL left (szCoreS xs)))∧(∀(x:DCore) (left:Int),SizeOf.sizeOf x≤gas→OkCo x→0≤left→left≤1048576→m_laws_szCore gas x left=some (szL left (szCore x)))
  |0=>⟨fun xs left h=>by have:=szC_posS xs; omega,fun x left h=>by have:=x.pos; omega⟩
  |gas+1=>by
    obtain ⟨i1,i2⟩:=p_szCo gas
    refine ⟨fun xs left hg ho h0 h1=>?_,fun x left hg ho h0 h1=>?_⟩
    · have e:m_laws_szCoreS (gas+1) xs left=m_laws_szCoreS_R (m_laws_szCoreS gas) (m_laws_szCore gas) xs left:=rfl
      rw [e,szCoreS_eq]
      unfold m_laws_szCoreS_R
      have hl:=maxLen_le ho.1
      rw [ck_ok (by omega),Option.bind_some]
      by_cases hn:left - (xs.length:Int) < 0
      · rw [decide_eq_true hn,cond_true,szL_neg (by omega)]
      · rw [decide_eq_false hn,cond_false]
        have key:=subI (L:=m_laws_szCoreS_L1 (m_laws_szCore gas) xs m_laws_szCoreS_A1) (d:=xs) (s:=szCore) (ok:=OkCo)
          (fun g k x left hx h0 h1=>by
            have hm:=List.mem_of_getElem? hx
            have hs:=List.sizeOf_lt_of_mem hm
            simp -implicitDefEqProofs only [m_laws_szCoreS_L1,m_laws_szCoreS_B1,dlt (lt_of_some hx),cond_true,getI_nat hx,Option.bind_some,i2 x left (by omega) (ho.2 x hm) h0 h1])
          (fun g left=>by simp -implicitDefEqProofs only [m_laws_szCoreS_L1,m_laws_szCoreS_B1,dge,cond_false,m_laws_szCoreS_A1])
          xs.length 0 (xs.length+1) (left - xs.length) (by omega) (by omega) (by omega) (by omega)
        refine key.trans ?_
        rw [List.drop_zero]
        congr 1
        rw [← szL_step,szL_pos hn,if_neg hn]
    · have e:m_laws_szCore (gas+1) x left=m_laws_szCore_R (m_laws_szCoreS gas) (m_laws_szCore gas) x left:=rfl
      rw [e,szCore_eq]
      unfold m_laws_szCore_R
      have hk:=szC_kids x
      rw [p_szInts _ _ ho.data h0 h1,Option.bind_some]
      by_cases hn:szL left x.data.length < 0
      · rw [decide_eq_true hn,cond_true,← szL_step,if_pos hn]
      · rw [decide_eq_false hn,cond_false,i1 _ _ (by omega) ⟨ho.len,ho.kids⟩ (by omega) (szL_leN h1),Option.bind_some,szTail,← szL_step,if_neg hn]
theorem p_szBook (b:DBook) (left:Int) (ho:OkCoS b.defs) (h0:0≤left) (h1:left≤1048576):m_laws_szBook b left=some (szL left (szBook b)):=by
  unfold m_laws_szBook szBook
  rw [(p_szCo _).1 _ _ (Nat.le_refl _) ho h0 h1,Option.bind_some,szTail]
theorem p_szClosure (c:DClosure) (left:Int) (ho:OkClo c) (h0:0≤left) (h1:left≤1048576):m_laws_szClosure c left=some (szL left (szClosure c)):=by
  unfold m_laws_szClosure szClosure
  rw [etaC,(p_szCo _).2 _ _ (Nat.le_refl _) ho.term h0 h1,Option.bind_some]
  by_cases hn:szL left (szCore c.term) < 0
  · rw [decide_eq_true hn,cond_true,← szL_step,if_pos hn]
  · rw [decide_eq_false hn,cond_false,p_szInts _ _ ho.env (by omega) (szL_leN h1),Option.bind_some,szTail,← szL_step,if_neg hn]
theorem p_szFrameS (xs:List DFrame) (left:Int) (hl:xs.length≤maxLen) (ho :∀f∈xs,OkClo f.closure∧f.data.length≤maxLen) (h0:0≤left) (h1:left≤1048576):m_laws_szFrameS xs left=some (szL left (szFrameS xs)):=by
  have one :∀f∈xs,∀left:Int,0≤left→left≤1048576→m_laws_szFrame f left=some (szL left (szFrame f)):=fun f hf left h0 h1=>by
    unfold m_laws_szFrame szFrame
    rw [etaF,p_szInts _ _ (ho f hf).2 h0 h1,Option.bind_some]
    by_cases hn:szL left f.data.length < 0
    · rw [decide_eq_true hn,cond_true,← szL_step,if_pos hn]
    · rw [decide_eq_false hn,cond_false,p_szClosure _ _ (ho f hf).1 (by omega) (szL_leN h1),Option.bind_some,szTail,← szL_step,if_neg hn]
  unfold m_laws_szFrameS szFrameS
  have hl':=maxLen_le hl
  rw [ck_ok (by omega),Option.bind_some]
  by_cases hn:left - (xs.length:Int) < 0
  · rw [decide_eq_true hn,cond_true,szL_neg (by omega)]
  · rw [decide_eq_false hn,cond_false]
    have key:=subI (L:=m_laws_szFrameS_L1 xs m_laws_szFrameS_A1) (d:=xs) (s:=szFrame) (ok:=fun _=>True)
      (fun g k x left hx h0 h1=>by
        have hm:=List.mem_of_getElem? hx
        simp -implicitDefEqProofs only [m_laws_szFrameS_L1,m_laws_szFrameS_B1,dlt (lt_of_some hx),cond_true,getI_nat hx,Option.bind_some,one x hm left h0 h1])
      (fun g left=>by simp -implicitDefEqProofs only [m_laws_szFrameS_L1,m_laws_szFrameS_B1,dge,cond_false,m_laws_szFrameS_A1])
      xs.length 0 (xs.length+1) (left - xs.length) (by omega) (by omega) (by omega) (by omega)
    refine key.trans ?_
    rw [List.drop_zero]
    congr 1
    rw [← szL_step,szL_pos hn,if_neg hn]
theorem p_szThunkS (xs:List DThunk) (left:Int) (hl:xs.length≤maxLen) (ho :∀t∈xs,OkClo t.closure) (h0:0≤left) (h1:left≤1048576):m_laws_szThunkS xs left=some (szL left (szThunkS xs)):=by
  have one :∀t∈xs,∀left:Int,0≤left→left≤1048576→m_laws_szThunk t left=some (szL left (szThunk t)):=fun t ht left h0 h1=>by
    unfold m_laws_szThunk szThunk
    rw [etaF,p_szClosure _ _ (ho t ht) h0 h1,Option.bind_some,szTail]
  unfold m_laws_szThunkS szThunkS
  have hl':=maxLen_le hl
  rw [ck_ok (by omega),Option.bind_some]
  by_cases hn:left - (xs.length:Int) < 0
  · rw [decide_eq_true hn,cond_true,szL_neg (by omega)]
  · rw [decide_eq_false hn,cond_false]
    have key:=subI (L:=m_laws_szThunkS_L1 xs m_laws_szThunkS_A1) (d:=xs) (s:=szThunk) (ok:=fun _=>True)
      (fun g k x left hx h0 h1=>by
        have hm:=List.mem_of_getElem? hx
        simp -implicitDefEqProofs only [m_laws_szThunkS_L1,m_laws_szThunkS_B1,dlt (lt_of_some hx),cond_true,getI_nat hx,Option.bind_some,one x hm left h0 h1])
      (fun g left=>by simp -implicitDefEqProofs only [m_laws_szThunkS_L1,m_laws_szThunkS_B1,dge,cond_false,m_laws_szThunkS_A1])
      xs.length 0 (xs.length+1) (left - xs.length) (by omega) (by omega) (by omega) (by omega)
    refine key.trans ?_
    rw [List.drop_zero]
    congr 1
    rw [← szL_step,szL_pos hn,if_neg hn]
theorem p_szNeed (m:DNeed) (left:Int) (ho:OkNeed m) (h0:0≤left) (h1:left≤1048576):m_laws_szNeed m left=some (szL left (szNeed m)):=by
  unfold m_laws_szNeed szNeed
  rw [etaF,p_szClosure _ _ ho.ct h0 h1,Option.bind_some]
  by_cases hn:szL left (szClosure m.control) < 0
  · rw [decide_eq_true hn,cond_true,← szL_step,if_pos hn]
  · rw [decide_eq_false hn,cond_false,p_szFrameS _ _ ho.sl ho.st (by omega) (szL_leN h1),Option.bind_some]
    rw [← szL_step,if_neg hn]
    generalize hz:szL left (szClosure m.control)=z at hn ⊢
    have hz1:z≤1048576:=by rw [← hz]; exact szL_leN h1
    by_cases hn2:szL z (szFrameS m.stack) < 0
    · rw [decide_eq_true hn2,cond_true,← szL_step,if_pos hn2]
    · rw [decide_eq_false hn2,cond_false,p_szThunkS _ _ ho.hl ho.hp (by omega) (szL_leN hz1),Option.bind_some,szTail,← szL_step,if_neg hn2]
theorem szCore_mem {xs:List DCore} {x:DCore} (h:x∈xs):szCore x≤szCoreL xs:=by rw [szCoreL_eq]; exact sum_mem (f:=szCore) h
/-- Small sizes make all small that is asked of. -/
theorem small_of {b:DBook} {m:DNeed} (hb:szBook b≤1048576) (hm:szNeed m≤1048576):SmallN b m:=by
  unfold szBook szCoreS at hb
  unfold szNeed szFrameS szThunkS szClosure at hm
  refine ⟨by omega,by omega,by omega,fun x hx=>?_,⟨?_,by omega⟩,fun f hf=>?_,fun t ht=>?_⟩
  · have h1:=szCore_mem hx
    have h2:=coSize_le x
    omega
  · have h2:=coSize_le m.control.term
    omega
  · have h1:=sum_mem (f:=szFrame) hf
    have h2:=coSize_le f.closure.term
    have e:szFrame f=f.data.length+(szCore f.closure.term+f.closure.env.length):=rfl
    exact ⟨by omega,by omega⟩
  · have h1:=sum_mem (f:=szThunk) ht
    have h2:=coSize_le t.closure.term
    have e:szThunk t=szCore t.closure.term+t.closure.env.length:=rfl
    exact ⟨by omega,by omega⟩
end
section
open Go.RowKit
noncomputable instance:DecidableEq DCore:=fun a b=>Classical.propDecidable (a=b)
noncomputable instance:DecidableEq DBook:=fun a b=>Classical.propDecidable (a=b)
noncomputable instance:DecidableEq DClosure:=fun a b=>Classical.propDecidable (a=b)
noncomputable instance:DecidableEq DFrame:=fun a b=>Classical.propDecidable (a=b)
noncomputable instance:DecidableEq DThunk:=fun a b=>Classical.propDecidable (a=b)
noncomputable instance:DecidableEq DNeed:=fun a b=>Classical.propDecidable (a=b)
theorem coreDec (x y:DCore):decide (x=y)=(x.kind==y.kind && (x.value==y.value && (decide (x.data=y.data) && decide (x.kids=y.kids)))):=by
  rw [Bool.eq_iff_iff]
  obtain ⟨a,b,c,d⟩:=x
  obtain ⟨a',b',c',d'⟩:=y
  simp
theorem cloDec (x y:DClosure):decide (x=y)=(decide (x.term=y.term) && decide (x.env=y.env)):=by
  rw [Bool.eq_iff_iff]
  obtain ⟨a,b⟩:=x
  obtain ⟨a',b'⟩:=y
  simp
theorem frDec (x y:DFrame):decide (x=y)=(x.kind==y.kind && (x.value==y.value && (decide (x.data=y.data) && decide (x.closure=y.closure)))):=by
  rw [Bool.eq_iff_iff]
  obtain ⟨a,b,c,d⟩:=x
  obtain ⟨a',b',c',d'⟩:=y
  simp
theorem thDec (x y:DThunk):decide (x=y)=(x.done==y.done && decide (x.closure=y.closure)):=by
  rw [Bool.eq_iff_iff]
  obtain ⟨a,b⟩:=x
  obtain ⟨a',b'⟩:=y
  simp
theorem needDec (x y:DNeed):decide (x=y)=(decide (x.control=y.control) && (decide (x.stack=y.stack) && decide (x.heap=y.heap))):=by
  rw [Bool.eq_iff_iff]
  obtain ⟨a,b,c⟩:=x
  obtain ⟨a',b',c'⟩:=y
  simp
theorem bookDec (x y:DBook):decide (x=y)=decide (x.defs=y.defs):=by
  rw [Bool.eq_iff_iff]
  obtain ⟨a⟩:=x
  obtain ⟨a'⟩:=y
  simp
theorem p_eqIntsN (xs ys:List Int):m_laws_eqInt64S xs ys=some (decide (xs=ys)):=by
  unfold m_laws_eqInt64S
  rw [bne_nat]
  by_cases hl:xs.length=ys.length
  · rw [decide_eq_true hl,Bool.not_true,cond_false]
    exact rowEq (L:=m_laws_eqInt64S_L1 xs ys m_laws_eqInt64S_A1) (q:=fun x y=>some (decide (x=y))) hl (fun x _ y=>rfl)
      (fun g k hx hy=>by
        simp -implicitDefEqProofs only [m_laws_eqInt64S_L1,m_laws_eqInt64S_B1,dlt hx,cond_true,getI_nat (List.getElem?_eq_getElem hx),getI_nat (List.getElem?_eq_getElem hy),Option.bind_some,bneV]
        cases decide (xs[k] = ys[k]) <;> rfl)
      (fun g=>by simp -implicitDefEqProofs only [m_laws_eqInt64S_L1,m_laws_eqInt64S_B1,dge,cond_false,m_laws_eqInt64S_A1])
  · rw [decide_eq_false hl,Bool.not_false,cond_true,decide_len hl]
theorem p_eqCo :∀gas:Nat,(∀(xs ys:List DCore),SizeOf.sizeOf xs≤gas→m_laws_eqCoreS gas xs ys=some (decide (xs=ys)))∧(∀(x y:DCore),SizeOf.sizeOf x≤gas→m_laws_eqCore gas x y=some (decide (x=y)))
  |0=>⟨fun xs ys h=>by have:=szC_posS xs; omega,fun x y h=>by have:=x.pos; omega⟩
  |gas+1=>by
    obtain ⟨i1,i2⟩:=p_eqCo gas
    refine ⟨fun xs ys hg=>?_,fun x y hg=>?_⟩
    · have e:m_laws_eqCoreS (gas+1) xs ys=m_laws_eqCoreS_R (m_laws_eqCoreS gas) (m_laws_eqCore gas) xs ys:=rfl
      rw [e]
      unfold m_laws_eqCoreS_R
      rw [bne_nat]
      by_cases hl:xs.length=ys.length
      · rw [decide_eq_true hl,Bool.not_true,cond_false]
        exact rowEq (L:=m_laws_eqCoreS_L1 (m_laws_eqCore gas) xs ys m_laws_eqCoreS_A1) (q:=m_laws_eqCore gas) hl (fun x hx y=>i2 x y (by have:=List.sizeOf_lt_of_mem hx; omega))
          (fun g k hx hy=>by simp -implicitDefEqProofs only [m_laws_eqCoreS_L1,m_laws_eqCoreS_B1,dlt hx,cond_true,getI_nat (List.getElem?_eq_getElem hx),getI_nat (List.getElem?_eq_getElem hy),Option.bind_some])
          (fun g=>by simp -implicitDefEqProofs only [m_laws_eqCoreS_L1,m_laws_eqCoreS_B1,dge,cond_false,m_laws_eqCoreS_A1])
      · rw [decide_eq_false hl,Bool.not_false,cond_true,decide_len hl]
    · have e:m_laws_eqCore (gas+1) x y=m_laws_eqCore_R (m_laws_eqCoreS gas) (m_laws_eqCore gas) x y:=rfl
      have hk:=szC_kids x
      rw [e,coreDec]
      unfold m_laws_eqCore_R
      rw [i1 _ _ (by omega),p_eqIntsN,Option.bind_some,Option.bind_some,show (x.kind != y.kind) = !(x.kind==y.kind) from rfl,show (x.value != y.value) = !(x.value==y.value) from rfl]
      cases x.kind==y.kind <;> cases x.value==y.value <;> cases decide (x.data=y.data) <;> cases decide (x.kids=y.kids) <;> rfl
theorem p_eqBook (x y:DBook):m_laws_eqBook x y=some (decide (x=y)):=by
  unfold m_laws_eqBook
  rw [(p_eqCo _).1 _ _ (Nat.le_refl _),Option.bind_some,bookDec]
  cases decide (x.defs=y.defs) <;> rfl
theorem p_eqClosure (x y:DClosure):m_laws_eqClosure x y=some (decide (x=y)):=by
  unfold m_laws_eqClosure
  rw [etaC,etaC,(p_eqCo _).2 _ _ (Nat.le_refl _),p_eqIntsN,Option.bind_some,Option.bind_some,cloDec]
  cases decide (x.term=y.term) <;> cases decide (x.env=y.env) <;> rfl
theorem p_eqFrame (x y:DFrame):m_laws_eqFrame x y=some (decide (x=y)):=by
  unfold m_laws_eqFrame
  rw [etaF,etaF,p_eqClosure,p_eqIntsN,Option.bind_some,Option.bind_some,frDec,show (x.kind != y.kind) = !(x.kind==y.kind) from rfl,show (x.value != y.value) = !(x.value==y.value) from rfl]
  cases x.kind==y.kind <;> cases x.value==y.value <;> cases decide (x.data=y.data) <;> cases decide (x.closure=y.closure) <;> rfl
theorem p_eqFrameS (xs ys:List DFrame):m_laws_eqFrameS xs ys=some (decide (xs=ys)):=by
  unfold m_laws_eqFrameS
  rw [bne_nat]
  by_cases hl:xs.length=ys.length
  · rw [decide_eq_true hl,Bool.not_true,cond_false]
    exact rowEq (L:=m_laws_eqFrameS_L1 xs ys m_laws_eqFrameS_A1) (q:=m_laws_eqFrame) hl (fun x _ y=>p_eqFrame x y)
      (fun g k hx hy=>by simp -implicitDefEqProofs only [m_laws_eqFrameS_L1,m_laws_eqFrameS_B1,dlt hx,cond_true,getI_nat (List.getElem?_eq_getElem hx),getI_nat (List.getElem?_eq_getElem hy),Option.bind_some])
      (fun g=>by simp -implicitDefEqProofs only [m_laws_eqFrameS_L1,m_laws_eqFrameS_B1,dge,cond_false,m_laws_eqFrameS_A1])
  · rw [decide_eq_false hl,Bool.not_false,cond_true,decide_len hl]
theorem p_eqThunk (x y:DThunk):m_laws_eqThunk x y=some (decide (x=y)):=by
  unfold m_laws_eqThunk
  rw [etaF,etaF,p_eqClosure,Option.bind_some,thDec,show (x.done != y.done) = !(x.done==y.done) from rfl]
  cases x.done==y.done <;> cases decide (x.closure=y.closure) <;> rfl
theorem p_eqThunkS (xs ys:List DThunk):m_laws_eqThunkS xs ys=some (decide (xs=ys)):=by
  unfold m_laws_eqThunkS
  rw [bne_nat]
  by_cases hl:xs.length=ys.length
  · rw [decide_eq_true hl,Bool.not_true,cond_false]
    exact rowEq (L:=m_laws_eqThunkS_L1 xs ys m_laws_eqThunkS_A1) (q:=m_laws_eqThunk) hl (fun x _ y=>p_eqThunk x y)
      (fun g k hx hy=>by simp -implicitDefEqProofs only [m_laws_eqThunkS_L1,m_laws_eqThunkS_B1,dlt hx,cond_true,getI_nat (List.getElem?_eq_getElem hx),getI_nat (List.getElem?_eq_getElem hy),Option.bind_some])
      (fun g=>by simp -implicitDefEqProofs only [m_laws_eqThunkS_L1,m_laws_eqThunkS_B1,dge,cond_false,m_laws_eqThunkS_A1])
  · rw [decide_eq_false hl,Bool.not_false,cond_true,decide_len hl]
theorem p_eqNeed (x y:DNeed):m_laws_eqNeed x y=some (decide (x=y)):=by
  unfold m_laws_eqNeed
  rw [etaF,etaF,p_eqClosure,p_eqFrameS,p_eqThunkS,Option.bind_some,Option.bind_some,Option.bind_some,needDec]
  cases decide (x.control=y.control) <;> cases decide (x.stack=y.stack) <;> cases decide (x.heap=y.heap) <;> rfl
theorem p_toCo :∀gas:Nat,(∀(xs:List DCore),SizeOf.sizeOf xs≤gas→szCoreS xs≤1048576→m_laws_toCoreS gas xs=some xs)∧(∀(x:DCore),SizeOf.sizeOf x≤gas→szCore x≤1048576→m_laws_toCore gas x=some x)
  |0=>⟨fun xs h=>by have:=szC_posS xs; omega,fun x h=>by have:=x.pos; omega⟩
  |gas+1=>by
    obtain ⟨i1,i2⟩:=p_toCo gas
    refine ⟨fun xs hg hs=>?_,fun x hg hs=>?_⟩
    · have e:m_laws_toCoreS (gas+1) xs=m_laws_toCoreS_R (m_laws_toCoreS gas) (m_laws_toCore gas) xs:=rfl
      rw [szCoreS_eq] at hs
      rw [e]
      unfold m_laws_toCoreS_R
      rw [mustP_ok (by omega),Option.bind_some]
      refine copyI (L:=m_laws_toCoreS_L1 (m_laws_toCore gas) xs m_laws_toCoreS_A1) (K:=some)
        (fun g k acc hk hg2=>?_)
        (fun g acc=>by simp -implicitDefEqProofs only [m_laws_toCoreS_L1,m_laws_toCoreS_B1,dge,cond_false,m_laws_toCoreS_A1])
      have hm:=List.getElem_mem hk
      have h1:=List.sizeOf_lt_of_mem hm
      have h2:=sum_mem (f:=szCore) hm
      simp -implicitDefEqProofs only [m_laws_toCoreS_L1,m_laws_toCoreS_B1,dlt hk,cond_true,getI_nat (List.getElem?_eq_getElem hk),Option.bind_some,hg2,i2 xs[k] (by omega) (by omega)]
    · have e:m_laws_toCore (gas+1) x=m_laws_toCore_R (m_laws_toCoreS gas) (m_laws_toCore gas) x:=rfl
      have hk:=szC_kids x
      rw [szCore_eq] at hs
      rw [e]
      unfold m_laws_toCore_R
      rw [i1 _ (by omega) (by omega),p_toInt64S _ (by omega),Option.bind_some,Option.bind_some]
      cases x; rfl
theorem p_toBook (b:DBook) (hs:szBook b≤1048576):m_laws_toBook b=some b:=by
  unfold szBook at hs
  unfold m_laws_toBook
  rw [(p_toCo _).1 _ (Nat.le_refl _) hs,Option.bind_some]
theorem p_toClosure (c:DClosure) (hs:szClosure c≤1048576):m_laws_toClosure c=some c:=by
  unfold szClosure at hs
  unfold m_laws_toClosure
  rw [etaC,(p_toCo _).2 _ (Nat.le_refl _) (by omega),p_toInt64S _ (by omega),Option.bind_some,Option.bind_some,etaC]
theorem p_toFrame (f:DFrame) (hs:szFrame f≤1048576):m_laws_toFrame f=some f:=by
  unfold szFrame at hs
  unfold m_laws_toFrame
  rw [etaF,p_toInt64S _ (by omega),p_toClosure _ (by omega),Option.bind_some,Option.bind_some,etaF]
theorem p_toFrameS (xs:List DFrame) (hs:szFrameS xs≤1048576):m_laws_toFrameS xs=some xs:=by
  unfold szFrameS at hs
  unfold m_laws_toFrameS
  rw [mustP_ok (by omega),Option.bind_some]
  exact copyI (L:=m_laws_toFrameS_L1 xs m_laws_toFrameS_A1) (xs:=xs) (K:=some)
    (fun g k acc hk hg=>by
      have hm:=sum_mem (f:=szFrame) (List.getElem_mem hk)
      simp -implicitDefEqProofs only [m_laws_toFrameS_L1,m_laws_toFrameS_B1,dlt hk,cond_true,getI_nat (List.getElem?_eq_getElem hk),Option.bind_some,hg,p_toFrame xs[k] (by omega)])
    (fun g acc=>by simp -implicitDefEqProofs only [m_laws_toFrameS_L1,m_laws_toFrameS_B1,dge,cond_false,m_laws_toFrameS_A1])
theorem p_toThunk (t:DThunk) (hs:szThunk t≤1048576):m_laws_toThunk t=some t:=by
  unfold szThunk at hs
  unfold m_laws_toThunk
  rw [etaF,p_toClosure _ (by omega),Option.bind_some,etaF]
theorem p_toThunkS (xs:List DThunk) (hs:szThunkS xs≤1048576):m_laws_toThunkS xs=some xs:=by
  unfold szThunkS at hs
  unfold m_laws_toThunkS
  rw [mustP_ok (by omega),Option.bind_some]
  exact copyI (L:=m_laws_toThunkS_L1 xs m_laws_toThunkS_A1) (xs:=xs) (K:=some)
    (fun g k acc hk hg=>by
      have hm:=sum_mem (f:=szThunk) (List.getElem_mem hk)
      simp -implicitDefEqProofs only [m_laws_toThunkS_L1,m_laws_toThunkS_B1,dlt hk,cond_true,getI_nat (List.getElem?_eq_getElem hk),Option.bind_some,hg,p_toThunk xs[k] (by omega)])
    (fun g acc=>by simp -implicitDefEqProofs only [m_laws_toThunkS_L1,m_laws_toThunkS_B1,dge,cond_false,m_laws_toThunkS_A1])
theorem p_toNeed (m:DNeed) (hs:szNeed m≤1048576):m_laws_toNeed m=some m:=by
  unfold szNeed at hs
  unfold m_laws_toNeed
  rw [etaF,p_toClosure _ (by omega),p_toFrameS _ (by omega),p_toThunkS _ (by omega),Option.bind_some,Option.bind_some,Option.bind_some,etaF]
end
end Go.Proofs.YtpbobilkejblgaaGreat
