/- Lemmas of the proof of LiveThunks, part 4. No condition. -/
import Derived.Test.YtpbobilkejblgaaGreatZLiveThunks3
namespace Go.Proofs.YtpbobilkejblgaaGreat
set_option linter.unusedVariables false
set_option linter.unusedSimpArgs false
section
open Go.RowKit
set_option maxRecDepth 100000
noncomputable def m_impl_validCoreNode_1 (d0:Int):Option Bool:=
  ((m_impl_isDefIndex d0).bind fun y1=>some (!y1))
set_option maxHeartbeats 2000000 in
theorem c_m_impl_validCoreNode_1 (d0:Int) (r:Bool) (hm:m_impl_validCoreNode_1 d0=some r)  (w:World)  :
    Calls Tryz.prog 276 #[.int .i64 d0] w fun e w'=>e=.returned (.bool r)∧Below w.heap.size w w':=by
  have T:=Below.refl w.heap.size w
  unfold m_impl_validCoreNode_1 at hm
  refine enter 6 Tryz.func276 rfl rfl rfl ?_
  intro f hf
  have s0:f 0=.int .i64 d0:=hf 0 _ rfl
  refine wp_seq<|wp_rs rfl<|RQ.y rfl (Y.assign (v:=.bool false) rfl)<|RQ.nil<|then_n<|wp_seq<|wp_rb rfl<|RQ.y rfl (Y.move (v:=.int .i64 d0) s0) ?_
  obtain ⟨y1,e2,hm⟩:=bnd hm
  refine RQ.call rfl (am1 rfl) (by kernel_rfl) (v:=.bool y1) (bel (K:=fun _=>True) fun w' hb'=>(c_m_impl_isDefIndex d0 _ e2  w' ))<|RQ.y rfl (Y.not (b':=(!y1)) rfl rfl)<|RQ.y rfl (Y.assign (v:=.bool (!y1)) rfl)<|RQ.nil ?_
  intro w3 hb4
  have szw3:=hb4.size
  have T:=Tt T hb4
  refine then_n<|wp_ret ?_
  obtain rfl:=sj hm
  exact (ret1 rfl rfl rfl ⟨rfl,T⟩)
noncomputable def m_impl_validCoreNode (d0:DCore):Option Bool:=
  (bif (d0.kind==1) then (bif (decide (d0.value ≥ 0)) then (bif (decide (d0.value≤255)) then (bif ((d0.data.length:Int)==0) then (bif ((d0.kids.length:Int)==0) then ((m_slices_ContainsFunc_int64_int64 d0.data (fun x0=>m_impl_validCoreNode_1 x0)).bind fun y176=>some (!y176)) else some false) else some false) else some false) else some false) else (bif (d0.kind==2) then ((m_impl_isInt d0.value).bind fun y147=>(bif y147 then (bif ((d0.data.length:Int)==0) then (bif ((d0.kids.length:Int)==0) then ((m_slices_ContainsFunc_int64_int64 d0.data (fun x0=>m_impl_validCoreNode_1 x0)).bind fun y160=>some (!y160)) else some false) else some false) else some false)) else (bif (d0.kind==3) then ((m_impl_isOperator d0.value).bind fun y130=>(bif y130 then (bif ((d0.data.length:Int)==0) then (bif ((d0.kids.length:Int)==2) then ((m_slices_ContainsFunc_int64_int64 d0.data (fun x0=>m_impl_validCoreNode_1 x0)).bind fun y143=>some (!y143)) else some false) else some false) else some false)) else (bif (d0.kind==4) then (bif (d0.value==0) then (bif ((d0.data.length:Int)==0) then (bif ((d0.kids.length:Int)==1) then ((m_slices_ContainsFunc_int64_int64 d0.data (fun x0=>m_impl_validCoreNode_1 x0)).bind fun y126=>some (!y126)) else some false) else some false) else some false) else (bif (d0.kind==6) then (bif (d0.value==0) then (bif ((d0.data.length:Int)==0) then (bif ((d0.kids.length:Int)==1) then ((m_slices_ContainsFunc_int64_int64 d0.data (fun x0=>m_impl_validCoreNode_1 x0)).bind fun y113=>some (!y113)) else some false) else some false) else some false) else (bif (d0.kind==5) then (bif (d0.value==0) then (bif ((d0.data.length:Int)==0) then (bif ((d0.kids.length:Int)==2) then ((m_slices_ContainsFunc_int64_int64 d0.data (fun x0=>m_impl_validCoreNode_1 x0)).bind fun y100=>some (!y100)) else some false) else some false) else some false) else (bif (d0.kind==7) then (bif (d0.value==0) then (bif ((d0.data.length:Int)==0) then (bif ((d0.kids.length:Int)==2) then ((m_slices_ContainsFunc_int64_int64 d0.data (fun x0=>m_impl_validCoreNode_1 x0)).bind fun y87=>some (!y87)) else some false) else some false) else some false) else (bif (d0.kind==8) then (bif ((d0.data.length:Int)==0) then (bif (decide (d0.value ≥ 0)) then (bif (decide (d0.value < 4)) then some (decide ((d0.kids.length:Int)≤3)) else some false) else some false) else some false) else (bif (d0.kind==9) then (bif (decide ((d0.data.length:Int) ≥ 1)) then (bif (d0.value==0) then (bif (decide ((d0.data.length:Int)≤4)) then (bif ((d0.kids.length:Int)==1) then ((m_slices_ContainsFunc_int64_int64 d0.data (fun x0=>m_impl_validCoreNode_1 x0)).bind fun y71=>some (!y71)) else some false) else some false) else some false) else (bif (d0.value==0) then some false else some false)) else (bif (d0.kind==10) then (bif (d0.value==0) then (bif ((d0.data.length:Int)==2) then (bif ((d0.kids.length:Int)==1) then ((m_slices_ContainsFunc_int64_int64 d0.data (fun x0=>m_impl_validCoreNode_1 x0)).bind fun y48=>some (!y48)) else some false) else some false) else some false) else (bif (d0.kind==11) then ((m_impl_isDefIndex d0.value).bind fun y20=>(bif y20 then (bif ((d0.data.length:Int)==0) then (bif ((d0.kids.length:Int)==0) then ((m_slices_ContainsFunc_int64_int64 d0.data (fun x0=>m_impl_validCoreNode_1 x0)).bind fun y33=>some (!y33)) else some false) else some false) else some false)) else some false)))))))))))
set_option maxHeartbeats 2000000 in
theorem c_m_impl_validCoreNode (d0:DCore) (r:Bool) (hm:m_impl_validCoreNode d0=some r) (v0:Value) (w:World) (hv0:St coreRd w v0 d0) :
    Calls Tryz.prog 269 #[v0] w fun e w'=>e=.returned (.bool r)∧Below w.heap.size w w':=by
  obtain ⟨csa0,rfl,hRR0⟩:=hv0
  obtain ⟨A1,n1,c1,A2,n2,c2,rfl,⟨h1,r1⟩,⟨h2,r2⟩⟩:=(coreRd_out hRR0)
  have e1:=h1.len; subst e1
  have q1:=len_le r1
  have e2:=h2.len; subst e2
  have q2:=len_le r2
  have T:=Below.refl w.heap.size w
  unfold m_impl_validCoreNode at hm
  refine enter 109 Tryz.func269 rfl rfl rfl ?_
  intro f hf
  have s0:f 0=.agg #[.int .i64 d0.kind,.int .i64 d0.value,.slice A1 d0.data.length c1,.slice A2 d0.kids.length c2]:=hf 0 _ rfl
  refine wp_seq<|wp_rl rfl ?_
  refine RL.box rfl s0 (fun w3 B4 hb5 szw3=>?_)
  replace B4:Blk w3 w.heap.size 78 #[.int .i64 d0.kind,.int .i64 d0.value,.slice A1 d0.data.length c1,.slice A2 d0.kids.length c2]:=B4
  have GB4:w.heap.size≤w.heap.size:=T.size
  have T:=Tt T hb5
  refine RL.y rfl (Y.assign (v:=.bool false) rfl)<|RL.nil<|then_n<|wp_seq<|wp_rs rfl<|RQ.y rfl (Y.fieldAddr (off:=3) rfl (by kernel_rfl))<|RQ.y rfl (Y.load (v:=.slice A2 d0.kids.length c2) rfl (by kernel_rfl) (eqC (blkCell B4 (i:=3) rfl)))<|RQ.y rfl (Y.len (by kernel_rfl) rfl)<|RQ.y rfl (Y.assign (v:=.int .i64 (d0.kids.length:Int)) rfl)<|RQ.nil<|then_n<|wp_seq<|wp_rbd (by kernel_rfl) (by kernel_rfl)<|RQ.y rfl (Y.fieldAddr (off:=2) rfl (by kernel_rfl))<|RQ.y rfl (Y.load (v:=.slice A1 d0.data.length c1) rfl (by kernel_rfl) (beC (blkCell B4 (i:=2) rfl)))<|RQ.y rfl (Y.len (by kernel_rfl) rfl)<|RQ.y rfl (Y.binI (v:=.bool ((d0.data.length:Int)==0)) rfl rfl rfl)<|RQ.y rfl (Y.assign (v:=.bool true) rfl)<|RQ.y rfl (Y.assign (v:=.bool ((d0.data.length:Int)==0)) rfl)<|RQ.nil ?_
  intro w7 hb8
  have szw7:=hb8.size
  have B4:=blkT B4 hb8
  have T:=Tt T hb8
  refine then_n<|wp_seq<|wp_rs rfl<|RQ.y rfl (Y.assign (v:=.int .i64 0) rfl)<|RQ.nil<|then_n<|wp_seq<|wp_seq<|wp_rs rfl<|RQ.y rfl (Y.fieldAddr (off:=0) rfl (by kernel_rfl))<|RQ.y rfl (Y.load (v:=.int .i64 d0.kind) rfl (by kernel_rfl) (eqC (blkCell B4 (i:=0) rfl)))<|RQ.nil<|then_n<|wp_block<|wp_seq<|wp_rs rfl<|RQ.y rfl (Y.binI (v:=.bool (d0.kind==1)) rfl rfl rfl)<|RQ.y rfl (Y.assign (v:=.bool (d0.kind==1)) rfl)<|RQ.nil<|then_n ?_
  rcases bcases (d0.kind==1) with c9|c9
  ·replace hm:=cF c9 hm
   refine cond_f rfl (vb rfl c9)<|wp_seq<|wp_rs rfl<|RQ.y rfl (Y.binI (v:=.bool (d0.kind==2)) rfl rfl rfl)<|RQ.y rfl (Y.assign (v:=.bool (d0.kind==2)) rfl)<|RQ.nil<|then_n ?_
   rcases bcases (d0.kind==2) with c10|c10
   ·replace hm:=cF c10 hm
    refine cond_f rfl (vb rfl c10)<|wp_seq<|wp_rs rfl<|RQ.y rfl (Y.binI (v:=.bool (d0.kind==3)) rfl rfl rfl)<|RQ.y rfl (Y.assign (v:=.bool (d0.kind==3)) rfl)<|RQ.nil<|then_n ?_
    rcases bcases (d0.kind==3) with c11|c11
    ·replace hm:=cF c11 hm
     refine cond_f rfl (vb rfl c11)<|wp_seq<|wp_seq<|wp_rs rfl<|RQ.y rfl (Y.binI (v:=.bool (d0.kind==4)) rfl rfl rfl)<|RQ.y rfl (Y.assign (v:=.bool (d0.kind==4)) rfl)<|RQ.nil<|then_n ?_
     rcases bcases (d0.kind==4) with c12|c12
     ·replace hm:=cF c12 hm
      refine cond_f rfl (vb rfl c12)<|wp_rs rfl<|RQ.y rfl (Y.binI (v:=.bool (d0.kind==6)) rfl rfl rfl)<|RQ.y rfl (Y.assign (v:=.bool (d0.kind==6)) rfl)<|RQ.nil<|then_n ?_
      rcases bcases (d0.kind==6) with c13|c13
      ·replace hm:=cF c13 hm
       refine cond_f rfl (vb rfl c13)<|wp_seq<|wp_seq<|wp_rs rfl<|RQ.y rfl (Y.binI (v:=.bool (d0.kind==5)) rfl rfl rfl)<|RQ.y rfl (Y.assign (v:=.bool (d0.kind==5)) rfl)<|RQ.nil<|then_n ?_
       rcases bcases (d0.kind==5) with c14|c14
       ·replace hm:=cF c14 hm
        refine cond_f rfl (vb rfl c14)<|wp_rs rfl<|RQ.y rfl (Y.binI (v:=.bool (d0.kind==7)) rfl rfl rfl)<|RQ.y rfl (Y.assign (v:=.bool (d0.kind==7)) rfl)<|RQ.nil<|then_n ?_
        rcases bcases (d0.kind==7) with c15|c15
        ·replace hm:=cF c15 hm
         refine cond_f rfl (vb rfl c15)<|wp_seq<|wp_rs rfl<|RQ.y rfl (Y.binI (v:=.bool (d0.kind==8)) rfl rfl rfl)<|RQ.y rfl (Y.assign (v:=.bool (d0.kind==8)) rfl)<|RQ.nil<|then_n ?_
         rcases bcases (d0.kind==8) with c16|c16
         ·replace hm:=cF c16 hm
          refine cond_f rfl (vb rfl c16)<|wp_seq<|wp_rs rfl<|RQ.y rfl (Y.binI (v:=.bool (d0.kind==9)) rfl rfl rfl)<|RQ.y rfl (Y.assign (v:=.bool (d0.kind==9)) rfl)<|RQ.nil<|then_n ?_
          rcases bcases (d0.kind==9) with c17|c17
          ·replace hm:=cF c17 hm
           refine cond_f rfl (vb rfl c17)<|wp_seq<|wp_rs rfl<|RQ.y rfl (Y.binI (v:=.bool (d0.kind==10)) rfl rfl rfl)<|RQ.y rfl (Y.assign (v:=.bool (d0.kind==10)) rfl)<|RQ.nil<|then_n ?_
           rcases bcases (d0.kind==10) with c18|c18
           ·replace hm:=cF c18 hm
            refine cond_f rfl (vb rfl c18)<|wp_seq<|wp_rs rfl<|RQ.y rfl (Y.binI (v:=.bool (d0.kind==11)) rfl rfl rfl)<|RQ.y rfl (Y.assign (v:=.bool (d0.kind==11)) rfl)<|RQ.nil<|then_n ?_
            rcases bcases (d0.kind==11) with c19|c19
            ·replace hm:=cF c19 hm
             refine cond_f rfl (vb rfl c19)<|wp_seq<|wp_rs rfl<|RQ.y rfl (Y.assign (v:=.bool false) rfl)<|RQ.nil<|then_n<|wp_ret ?_
             obtain rfl:=sj hm
             exact (blk_r (then_r (ret1 rfl rfl rfl ⟨rfl,T⟩)))
            replace hm:=cT c19 hm
            refine cond_t rfl (vb rfl c19)<|wp_rb rfl<|RQ.y rfl (Y.fieldAddr (off:=1) rfl (by kernel_rfl))<|RQ.y rfl (Y.load (v:=.int .i64 d0.value) rfl (by kernel_rfl) (beC (blkCell B4 (i:=1) rfl))) ?_
            obtain ⟨y20,e21,hm⟩:=bnd hm
            refine RQ.call rfl (am1 rfl) (by kernel_rfl) (v:=.bool y20) (bel (K:=fun _=>True) fun w' hb'=>(c_m_impl_isDefIndex d0.value _ e21  w' ))<|RQ.y rfl (Y.assign (v:=.bool y20) rfl)<|RQ.nil ?_
            intro w22 hb23
            have szw22:=hb23.size
            have B4:=blkT B4 hb23
            have T:=Tt T hb23
            refine blk_n (then_n ?_)
            refine wp_seq<|wp_rb rfl<|RQ.y rfl (Y.move (v:=.bool y20) rfl)<|RQ.y rfl (Y.move (v:=.bool y20) rfl) ?_
            rcases bcases y20 with c24|c24
            ·replace hm:=cF c24 hm
             refine RQ.skip (wantN (dj:=95) rfl (vb rfl c24) rfl)<|RQ.y rfl (Y.pick (b:=false) (v:=.bool false) (vb rfl c24) rfl)<|RQ.y rfl (Y.move (v:=.bool false) rfl) ?_
             iterate 3 refine RQ.skip (wantN (dj:=98) rfl rfl rfl) ?_
             refine RQ.y rfl (Y.pick (b:=false) (v:=.bool false) rfl rfl)<|RQ.y rfl (Y.move (v:=.bool false) rfl) ?_
             iterate 4 refine RQ.skip (wantN (dj:=103) rfl rfl rfl) ?_
             refine RQ.y rfl (Y.pick (b:=false) (v:=.bool false) rfl rfl)<|RQ.y rfl (Y.assign (v:=.bool false) rfl)<|RQ.nil ?_
             intro w25 hb26
             have szw25:=hb26.size
             have T:=Tt T hb26
             refine then_n<|wp_ret ?_
             obtain rfl:=sj hm
             exact (ret1 rfl rfl rfl ⟨rfl,T⟩)
            replace hm:=cT c24 hm
            refine RQ.y (wantT (dj:=95) rfl (vb rfl c24)) (Y.move (v:=.bool ((d0.data.length:Int)==0)) rfl)<|RQ.y rfl (Y.pick (b:=true) (v:=.bool ((d0.data.length:Int)==0)) (vb rfl c24) rfl)<|RQ.y rfl (Y.move (v:=.bool ((d0.data.length:Int)==0)) rfl) ?_
            rcases bcases ((d0.data.length:Int)==0) with c27|c27
            ·replace hm:=cF c27 hm
             iterate 3 refine RQ.skip (wantN (dj:=98) rfl (vb rfl c27) rfl) ?_
             refine RQ.y rfl (Y.pick (b:=false) (v:=.bool false) (vb rfl c27) rfl)<|RQ.y rfl (Y.move (v:=.bool false) rfl) ?_
             iterate 4 refine RQ.skip (wantN (dj:=103) rfl rfl rfl) ?_
             refine RQ.y rfl (Y.pick (b:=false) (v:=.bool false) rfl rfl)<|RQ.y rfl (Y.assign (v:=.bool false) rfl)<|RQ.nil ?_
             intro w28 hb29
             have szw28:=hb29.size
             have T:=Tt T hb29
             refine then_n<|wp_ret ?_
             obtain rfl:=sj hm
             exact (ret1 rfl rfl rfl ⟨rfl,T⟩)
            replace hm:=cT c27 hm
            refine RQ.y (wantT (dj:=98) rfl (vb rfl c27)) (Y.move (v:=.int .i64 (d0.kids.length:Int)) rfl)<|RQ.y (wantT (dj:=98) rfl (vb rfl c27)) (Y.move (v:=.int .i64 0) rfl)<|RQ.y (wantT (dj:=98) rfl (vb rfl c27)) (Y.binI (v:=.bool ((d0.kids.length:Int)==0)) rfl rfl rfl)<|RQ.y rfl (Y.pick (b:=true) (v:=.bool ((d0.kids.length:Int)==0)) (vb rfl c27) rfl)<|RQ.y rfl (Y.move (v:=.bool ((d0.kids.length:Int)==0)) rfl) ?_
            rcases bcases ((d0.kids.length:Int)==0) with c30|c30
            ·replace hm:=cF c30 hm
             iterate 4 refine RQ.skip (wantN (dj:=103) rfl (vb rfl c30) rfl) ?_
             refine RQ.y rfl (Y.pick (b:=false) (v:=.bool false) (vb rfl c30) rfl)<|RQ.y rfl (Y.assign (v:=.bool false) rfl)<|RQ.nil ?_
             intro w31 hb32
             have szw31:=hb32.size
             have T:=Tt T hb32
             refine then_n<|wp_ret ?_
             obtain rfl:=sj hm
             exact (ret1 rfl rfl rfl ⟨rfl,T⟩)
            replace hm:=cT c30 hm
            refine RQ.y (wantT (dj:=103) rfl (vb rfl c30)) (Y.fieldAddr (off:=2) rfl (by kernel_rfl))<|RQ.y (wantT (dj:=103) rfl (vb rfl c30)) (Y.load (v:=.slice A1 d0.data.length c1) rfl (by kernel_rfl) (beC (blkCell B4 (i:=2) rfl))) ?_
            obtain ⟨y33,e34,hm⟩:=bnd hm
            refine RQ.call (wantT (dj:=103) rfl (vb rfl c30)) (am2 rfl rfl) (by kernel_rfl) (v:=.bool y33) (bel (K:=fun _=>True) fun w' hb'=>(c_m_slices_ContainsFunc_int64_int64 d0.data (fun x0=>m_impl_validCoreNode_1 x0) _ e34 _ _ _ w' (slArg intRd_ok h1 r1 (Tt T hb')) (by kernel_rfl) (fun x0 b hx w1 hb1=>Calls.arr (by simp) (c_m_impl_validCoreNode_1 x0 _ hx   w1  ))))<|RQ.y (wantT (dj:=103) rfl (vb rfl c30)) (Y.not (b':=(!y33)) rfl rfl)<|RQ.y rfl (Y.pick (b:=true) (v:=.bool (!y33)) (vb rfl c30) rfl)<|RQ.y rfl (Y.assign (v:=.bool (!y33)) rfl)<|RQ.nil ?_
            intro w35 hb36
            have szw35:=hb36.size
            have T:=Tt T hb36
            refine then_n<|wp_ret ?_
            obtain rfl:=sj hm
            exact (ret1 rfl rfl rfl ⟨rfl,T⟩)
           replace hm:=cT c18 hm
           refine cond_t rfl (vb rfl c18)<|wp_rbd (by kernel_rfl) (by kernel_rfl)<|RQ.y rfl (Y.fieldAddr (off:=1) rfl (by kernel_rfl))<|RQ.y rfl (Y.load (v:=.int .i64 d0.value) rfl (by kernel_rfl) (beC (blkCell B4 (i:=1) rfl)))<|RQ.y rfl (Y.binI (v:=.bool (d0.value==0)) rfl rfl rfl)<|RQ.y rfl (Y.fieldAddr (off:=2) rfl (by kernel_rfl))<|RQ.y rfl (Y.load (v:=.slice A1 d0.data.length c1) rfl (by kernel_rfl) (beC (blkCell B4 (i:=2) rfl)))<|RQ.y rfl (Y.len (by kernel_rfl) rfl)<|RQ.y rfl (Y.binI (v:=.bool ((d0.data.length:Int)==2)) rfl rfl rfl)<|RQ.y rfl (Y.assign (v:=.bool (d0.value==0)) rfl)<|RQ.y rfl (Y.assign (v:=.int .i64 1) rfl)<|RQ.y rfl (Y.assign (v:=.bool ((d0.data.length:Int)==2)) rfl)<|RQ.nil ?_
           intro w37 hb38
           have szw37:=hb38.size
           have B4:=blkT B4 hb38
           have T:=Tt T hb38
           refine blk_n (then_n ?_)
           refine wp_seq<|wp_rb rfl<|RQ.y rfl (Y.move (v:=.bool (d0.value==0)) rfl)<|RQ.y rfl (Y.move (v:=.bool (d0.value==0)) rfl) ?_
           rcases bcases (d0.value==0) with c39|c39
           ·replace hm:=cF c39 hm
            refine RQ.skip (wantN (dj:=95) rfl (vb rfl c39) rfl)<|RQ.y rfl (Y.pick (b:=false) (v:=.bool false) (vb rfl c39) rfl)<|RQ.y rfl (Y.move (v:=.bool false) rfl) ?_
            iterate 3 refine RQ.skip (wantN (dj:=98) rfl rfl rfl) ?_
            refine RQ.y rfl (Y.pick (b:=false) (v:=.bool false) rfl rfl)<|RQ.y rfl (Y.move (v:=.bool false) rfl) ?_
            iterate 4 refine RQ.skip (wantN (dj:=103) rfl rfl rfl) ?_
            refine RQ.y rfl (Y.pick (b:=false) (v:=.bool false) rfl rfl)<|RQ.y rfl (Y.assign (v:=.bool false) rfl)<|RQ.nil ?_
            intro w40 hb41
            have szw40:=hb41.size
            have T:=Tt T hb41
            refine then_n<|wp_ret ?_
            obtain rfl:=sj hm
            exact (ret1 rfl rfl rfl ⟨rfl,T⟩)
           replace hm:=cT c39 hm
           refine RQ.y (wantT (dj:=95) rfl (vb rfl c39)) (Y.move (v:=.bool ((d0.data.length:Int)==2)) rfl)<|RQ.y rfl (Y.pick (b:=true) (v:=.bool ((d0.data.length:Int)==2)) (vb rfl c39) rfl)<|RQ.y rfl (Y.move (v:=.bool ((d0.data.length:Int)==2)) rfl) ?_
           rcases bcases ((d0.data.length:Int)==2) with c42|c42
           ·replace hm:=cF c42 hm
            iterate 3 refine RQ.skip (wantN (dj:=98) rfl (vb rfl c42) rfl) ?_
            refine RQ.y rfl (Y.pick (b:=false) (v:=.bool false) (vb rfl c42) rfl)<|RQ.y rfl (Y.move (v:=.bool false) rfl) ?_
            iterate 4 refine RQ.skip (wantN (dj:=103) rfl rfl rfl) ?_
            refine RQ.y rfl (Y.pick (b:=false) (v:=.bool false) rfl rfl)<|RQ.y rfl (Y.assign (v:=.bool false) rfl)<|RQ.nil ?_
            intro w43 hb44
            have szw43:=hb44.size
            have T:=Tt T hb44
            refine then_n<|wp_ret ?_
            obtain rfl:=sj hm
            exact (ret1 rfl rfl rfl ⟨rfl,T⟩)
           replace hm:=cT c42 hm
           refine RQ.y (wantT (dj:=98) rfl (vb rfl c42)) (Y.move (v:=.int .i64 (d0.kids.length:Int)) rfl)<|RQ.y (wantT (dj:=98) rfl (vb rfl c42)) (Y.move (v:=.int .i64 1) rfl)<|RQ.y (wantT (dj:=98) rfl (vb rfl c42)) (Y.binI (v:=.bool ((d0.kids.length:Int)==1)) rfl rfl rfl)<|RQ.y rfl (Y.pick (b:=true) (v:=.bool ((d0.kids.length:Int)==1)) (vb rfl c42) rfl)<|RQ.y rfl (Y.move (v:=.bool ((d0.kids.length:Int)==1)) rfl) ?_
           rcases bcases ((d0.kids.length:Int)==1) with c45|c45
           ·replace hm:=cF c45 hm
            iterate 4 refine RQ.skip (wantN (dj:=103) rfl (vb rfl c45) rfl) ?_
            refine RQ.y rfl (Y.pick (b:=false) (v:=.bool false) (vb rfl c45) rfl)<|RQ.y rfl (Y.assign (v:=.bool false) rfl)<|RQ.nil ?_
            intro w46 hb47
            have szw46:=hb47.size
            have T:=Tt T hb47
            refine then_n<|wp_ret ?_
            obtain rfl:=sj hm
            exact (ret1 rfl rfl rfl ⟨rfl,T⟩)
           replace hm:=cT c45 hm
           refine RQ.y (wantT (dj:=103) rfl (vb rfl c45)) (Y.fieldAddr (off:=2) rfl (by kernel_rfl))<|RQ.y (wantT (dj:=103) rfl (vb rfl c45)) (Y.load (v:=.slice A1 d0.data.length c1) rfl (by kernel_rfl) (beC (blkCell B4 (i:=2) rfl))) ?_
           obtain ⟨y48,e49,hm⟩:=bnd hm
           refine RQ.call (wantT (dj:=103) rfl (vb rfl c45)) (am2 rfl rfl) (by kernel_rfl) (v:=.bool y48) (bel (K:=fun _=>True) fun w' hb'=>(c_m_slices_ContainsFunc_int64_int64 d0.data (fun x0=>m_impl_validCoreNode_1 x0) _ e49 _ _ _ w' (slArg intRd_ok h1 r1 (Tt T hb')) (by kernel_rfl) (fun x0 b hx w1 hb1=>Calls.arr (by simp) (c_m_impl_validCoreNode_1 x0 _ hx   w1  ))))<|RQ.y (wantT (dj:=103) rfl (vb rfl c45)) (Y.not (b':=(!y48)) rfl rfl)<|RQ.y rfl (Y.pick (b:=true) (v:=.bool (!y48)) (vb rfl c45) rfl)<|RQ.y rfl (Y.assign (v:=.bool (!y48)) rfl)<|RQ.nil ?_
           intro w50 hb51
           have szw50:=hb51.size
           have T:=Tt T hb51
           refine then_n<|wp_ret ?_
           obtain rfl:=sj hm
           exact (ret1 rfl rfl rfl ⟨rfl,T⟩)
          replace hm:=cT c17 hm
          refine cond_t rfl (vb rfl c17)<|wp_rbd (by kernel_rfl) (by kernel_rfl)<|RQ.y rfl (Y.fieldAddr (off:=1) rfl (by kernel_rfl))<|RQ.y rfl (Y.load (v:=.int .i64 d0.value) rfl (by kernel_rfl) (beC (blkCell B4 (i:=1) rfl)))<|RQ.y rfl (Y.binI (v:=.bool (d0.value==0)) rfl rfl rfl)<|RQ.y rfl (Y.fieldAddr (off:=2) rfl (by kernel_rfl))<|RQ.y rfl (Y.load (v:=.slice A1 d0.data.length c1) rfl (by kernel_rfl) (beC (blkCell B4 (i:=2) rfl)))<|RQ.y rfl (Y.len (by kernel_rfl) rfl)<|RQ.y rfl (Y.binI (v:=.bool (decide ((d0.data.length:Int) ≥ 1))) rfl rfl rfl)<|RQ.y rfl (Y.move (v:=.bool (decide ((d0.data.length:Int) ≥ 1))) rfl) ?_
          rcases bcases (decide ((d0.data.length:Int) ≥ 1)) with c52|c52
          ·replace hm:=cF c52 hm
           have pc52:=of_decide_eq_false c52
           iterate 4 refine RQ.skip (wantN (dj:=74) rfl (vb rfl c52) rfl) ?_
           refine RQ.y rfl (Y.pick (b:=false) (v:=.bool false) (vb rfl c52) rfl)<|RQ.y rfl (Y.assign (v:=.bool (d0.value==0)) rfl)<|RQ.y rfl (Y.assign (v:=.int .i64 1) rfl)<|RQ.y rfl (Y.assign (v:=.bool false) rfl)<|RQ.nil ?_
           intro w53 hb54
           have szw53:=hb54.size
           have B4:=blkT B4 hb54
           have T:=Tt T hb54
           refine blk_n (then_n ?_)
           refine wp_seq<|wp_rb rfl<|RQ.y rfl (Y.move (v:=.bool (d0.value==0)) rfl)<|RQ.y rfl (Y.move (v:=.bool (d0.value==0)) rfl) ?_
           rcases bcases (d0.value==0) with c55|c55
           ·replace hm:=cF c55 hm
            refine RQ.skip (wantN (dj:=95) rfl (vb rfl c55) rfl)<|RQ.y rfl (Y.pick (b:=false) (v:=.bool false) (vb rfl c55) rfl)<|RQ.y rfl (Y.move (v:=.bool false) rfl) ?_
            iterate 3 refine RQ.skip (wantN (dj:=98) rfl rfl rfl) ?_
            refine RQ.y rfl (Y.pick (b:=false) (v:=.bool false) rfl rfl)<|RQ.y rfl (Y.move (v:=.bool false) rfl) ?_
            iterate 4 refine RQ.skip (wantN (dj:=103) rfl rfl rfl) ?_
            refine RQ.y rfl (Y.pick (b:=false) (v:=.bool false) rfl rfl)<|RQ.y rfl (Y.assign (v:=.bool false) rfl)<|RQ.nil ?_
            intro w56 hb57
            have szw56:=hb57.size
            have T:=Tt T hb57
            refine then_n<|wp_ret ?_
            obtain rfl:=sj hm
            exact (ret1 rfl rfl rfl ⟨rfl,T⟩)
           replace hm:=cT c55 hm
           refine RQ.y (wantT (dj:=95) rfl (vb rfl c55)) (Y.move (v:=.bool false) rfl)<|RQ.y rfl (Y.pick (b:=true) (v:=.bool false) (vb rfl c55) rfl)<|RQ.y rfl (Y.move (v:=.bool false) rfl) ?_
           iterate 3 refine RQ.skip (wantN (dj:=98) rfl rfl rfl) ?_
           refine RQ.y rfl (Y.pick (b:=false) (v:=.bool false) rfl rfl)<|RQ.y rfl (Y.move (v:=.bool false) rfl) ?_
           iterate 4 refine RQ.skip (wantN (dj:=103) rfl rfl rfl) ?_
           refine RQ.y rfl (Y.pick (b:=false) (v:=.bool false) rfl rfl)<|RQ.y rfl (Y.assign (v:=.bool false) rfl)<|RQ.nil ?_
           intro w58 hb59
           have szw58:=hb59.size
           have T:=Tt T hb59
           refine then_n<|wp_ret ?_
           obtain rfl:=sj hm
           exact (ret1 rfl rfl rfl ⟨rfl,T⟩)
          replace hm:=cT c52 hm
          have pc52:=of_decide_eq_true c52
          refine RQ.y (wantT (dj:=74) rfl (vb rfl c52)) (Y.fieldAddr (off:=2) rfl (by kernel_rfl))<|RQ.y (wantT (dj:=74) rfl (vb rfl c52)) (Y.load (v:=.slice A1 d0.data.length c1) rfl (by kernel_rfl) (beC (blkCell B4 (i:=2) rfl)))<|RQ.y (wantT (dj:=74) rfl (vb rfl c52)) (Y.len (by kernel_rfl) rfl)<|RQ.y (wantT (dj:=74) rfl (vb rfl c52)) (Y.binI (v:=.bool (decide ((d0.data.length:Int)≤4))) rfl rfl rfl)<|RQ.y rfl (Y.pick (b:=true) (v:=.bool (decide ((d0.data.length:Int)≤4))) (vb rfl c52) rfl)<|RQ.y rfl (Y.assign (v:=.bool (d0.value==0)) rfl)<|RQ.y rfl (Y.assign (v:=.int .i64 1) rfl)<|RQ.y rfl (Y.assign (v:=.bool (decide ((d0.data.length:Int)≤4))) rfl)<|RQ.nil ?_
          intro w60 hb61
          have szw60:=hb61.size
          have B4:=blkT B4 hb61
          have T:=Tt T hb61
          refine blk_n (then_n ?_)
          refine wp_seq<|wp_rb rfl<|RQ.y rfl (Y.move (v:=.bool (d0.value==0)) rfl)<|RQ.y rfl (Y.move (v:=.bool (d0.value==0)) rfl) ?_
          rcases bcases (d0.value==0) with c62|c62
          ·replace hm:=cF c62 hm
           refine RQ.skip (wantN (dj:=95) rfl (vb rfl c62) rfl)<|RQ.y rfl (Y.pick (b:=false) (v:=.bool false) (vb rfl c62) rfl)<|RQ.y rfl (Y.move (v:=.bool false) rfl) ?_
           iterate 3 refine RQ.skip (wantN (dj:=98) rfl rfl rfl) ?_
           refine RQ.y rfl (Y.pick (b:=false) (v:=.bool false) rfl rfl)<|RQ.y rfl (Y.move (v:=.bool false) rfl) ?_
           iterate 4 refine RQ.skip (wantN (dj:=103) rfl rfl rfl) ?_
           refine RQ.y rfl (Y.pick (b:=false) (v:=.bool false) rfl rfl)<|RQ.y rfl (Y.assign (v:=.bool false) rfl)<|RQ.nil ?_
           intro w63 hb64
           have szw63:=hb64.size
           have T:=Tt T hb64
           refine then_n<|wp_ret ?_
           obtain rfl:=sj hm
           exact (ret1 rfl rfl rfl ⟨rfl,T⟩)
          replace hm:=cT c62 hm
          refine RQ.y (wantT (dj:=95) rfl (vb rfl c62)) (Y.move (v:=.bool (decide ((d0.data.length:Int)≤4))) rfl)<|RQ.y rfl (Y.pick (b:=true) (v:=.bool (decide ((d0.data.length:Int)≤4))) (vb rfl c62) rfl)<|RQ.y rfl (Y.move (v:=.bool (decide ((d0.data.length:Int)≤4))) rfl) ?_
          rcases bcases (decide ((d0.data.length:Int)≤4)) with c65|c65
          ·replace hm:=cF c65 hm
           have pc65:=of_decide_eq_false c65
           iterate 3 refine RQ.skip (wantN (dj:=98) rfl (vb rfl c65) rfl) ?_
           refine RQ.y rfl (Y.pick (b:=false) (v:=.bool false) (vb rfl c65) rfl)<|RQ.y rfl (Y.move (v:=.bool false) rfl) ?_
           iterate 4 refine RQ.skip (wantN (dj:=103) rfl rfl rfl) ?_
           refine RQ.y rfl (Y.pick (b:=false) (v:=.bool false) rfl rfl)<|RQ.y rfl (Y.assign (v:=.bool false) rfl)<|RQ.nil ?_
           intro w66 hb67
           have szw66:=hb67.size
           have T:=Tt T hb67
           refine then_n<|wp_ret ?_
           obtain rfl:=sj hm
           exact (ret1 rfl rfl rfl ⟨rfl,T⟩)
          replace hm:=cT c65 hm
          have pc65:=of_decide_eq_true c65
          refine RQ.y (wantT (dj:=98) rfl (vb rfl c65)) (Y.move (v:=.int .i64 (d0.kids.length:Int)) rfl)<|RQ.y (wantT (dj:=98) rfl (vb rfl c65)) (Y.move (v:=.int .i64 1) rfl)<|RQ.y (wantT (dj:=98) rfl (vb rfl c65)) (Y.binI (v:=.bool ((d0.kids.length:Int)==1)) rfl rfl rfl)<|RQ.y rfl (Y.pick (b:=true) (v:=.bool ((d0.kids.length:Int)==1)) (vb rfl c65) rfl)<|RQ.y rfl (Y.move (v:=.bool ((d0.kids.length:Int)==1)) rfl) ?_
          rcases bcases ((d0.kids.length:Int)==1) with c68|c68
          ·replace hm:=cF c68 hm
           iterate 4 refine RQ.skip (wantN (dj:=103) rfl (vb rfl c68) rfl) ?_
           refine RQ.y rfl (Y.pick (b:=false) (v:=.bool false) (vb rfl c68) rfl)<|RQ.y rfl (Y.assign (v:=.bool false) rfl)<|RQ.nil ?_
           intro w69 hb70
           have szw69:=hb70.size
           have T:=Tt T hb70
           refine then_n<|wp_ret ?_
           obtain rfl:=sj hm
           exact (ret1 rfl rfl rfl ⟨rfl,T⟩)
          replace hm:=cT c68 hm
          refine RQ.y (wantT (dj:=103) rfl (vb rfl c68)) (Y.fieldAddr (off:=2) rfl (by kernel_rfl))<|RQ.y (wantT (dj:=103) rfl (vb rfl c68)) (Y.load (v:=.slice A1 d0.data.length c1) rfl (by kernel_rfl) (beC (blkCell B4 (i:=2) rfl))) ?_
          obtain ⟨y71,e72,hm⟩:=bnd hm
          refine RQ.call (wantT (dj:=103) rfl (vb rfl c68)) (am2 rfl rfl) (by kernel_rfl) (v:=.bool y71) (bel (K:=fun _=>True) fun w' hb'=>(c_m_slices_ContainsFunc_int64_int64 d0.data (fun x0=>m_impl_validCoreNode_1 x0) _ e72 _ _ _ w' (slArg intRd_ok h1 r1 (Tt T hb')) (by kernel_rfl) (fun x0 b hx w1 hb1=>Calls.arr (by simp) (c_m_impl_validCoreNode_1 x0 _ hx   w1  ))))<|RQ.y (wantT (dj:=103) rfl (vb rfl c68)) (Y.not (b':=(!y71)) rfl rfl)<|RQ.y rfl (Y.pick (b:=true) (v:=.bool (!y71)) (vb rfl c68) rfl)<|RQ.y rfl (Y.assign (v:=.bool (!y71)) rfl)<|RQ.nil ?_
          intro w73 hb74
          have szw73:=hb74.size
          have T:=Tt T hb74
          refine then_n<|wp_ret ?_
          obtain rfl:=sj hm
          exact (ret1 rfl rfl rfl ⟨rfl,T⟩)
         replace hm:=cT c16 hm
         refine cond_t rfl (vb rfl c16)<|wp_seq<|wp_rs rfl<|RQ.y rfl (Y.move (v:=.bool ((d0.data.length:Int)==0)) rfl)<|RQ.y rfl (Y.move (v:=.bool ((d0.data.length:Int)==0)) rfl) ?_
         rcases bcases ((d0.data.length:Int)==0) with c75|c75
         ·replace hm:=cF c75 hm
          iterate 3 refine RQ.skip (wantN (dj:=51) rfl (vb rfl c75) rfl) ?_
          refine RQ.y rfl (Y.pick (b:=false) (v:=.bool false) (vb rfl c75) rfl)<|RQ.y rfl (Y.move (v:=.bool false) rfl) ?_
          iterate 3 refine RQ.skip (wantN (dj:=56) rfl rfl rfl) ?_
          refine RQ.y rfl (Y.pick (b:=false) (v:=.bool false) rfl rfl)<|RQ.y rfl (Y.move (v:=.bool false) rfl)<|RQ.skip (wantN (dj:=61) rfl rfl rfl)<|RQ.skip (wantN (dj:=61) rfl rfl rfl)<|RQ.y rfl (Y.pick (b:=false) (v:=.bool false) rfl rfl)<|RQ.y rfl (Y.assign (v:=.bool false) rfl)<|RQ.nil<|then_n<|wp_ret ?_
          obtain rfl:=sj hm
          exact (blk_r (then_r (ret1 rfl rfl rfl ⟨rfl,T⟩)))
         replace hm:=cT c75 hm
         refine RQ.y (wantT (dj:=51) rfl (vb rfl c75)) (Y.fieldAddr (off:=1) rfl (by kernel_rfl))<|RQ.y (wantT (dj:=51) rfl (vb rfl c75)) (Y.load (v:=.int .i64 d0.value) rfl (by kernel_rfl) (eqC (blkCell B4 (i:=1) rfl)))<|RQ.y (wantT (dj:=51) rfl (vb rfl c75)) (Y.binI (v:=.bool (decide (d0.value ≥ 0))) rfl rfl rfl)<|RQ.y rfl (Y.pick (b:=true) (v:=.bool (decide (d0.value ≥ 0))) (vb rfl c75) rfl)<|RQ.y rfl (Y.move (v:=.bool (decide (d0.value ≥ 0))) rfl) ?_
         rcases bcases (decide (d0.value ≥ 0)) with c76|c76
         ·replace hm:=cF c76 hm
          have pc76:=of_decide_eq_false c76
          iterate 3 refine RQ.skip (wantN (dj:=56) rfl (vb rfl c76) rfl) ?_
          refine RQ.y rfl (Y.pick (b:=false) (v:=.bool false) (vb rfl c76) rfl)<|RQ.y rfl (Y.move (v:=.bool false) rfl)<|RQ.skip (wantN (dj:=61) rfl rfl rfl)<|RQ.skip (wantN (dj:=61) rfl rfl rfl)<|RQ.y rfl (Y.pick (b:=false) (v:=.bool false) rfl rfl)<|RQ.y rfl (Y.assign (v:=.bool false) rfl)<|RQ.nil<|then_n<|wp_ret ?_
          obtain rfl:=sj hm
          exact (blk_r (then_r (ret1 rfl rfl rfl ⟨rfl,T⟩)))
         replace hm:=cT c76 hm
         have pc76:=of_decide_eq_true c76
         refine RQ.y (wantT (dj:=56) rfl (vb rfl c76)) (Y.fieldAddr (off:=1) rfl (by kernel_rfl))<|RQ.y (wantT (dj:=56) rfl (vb rfl c76)) (Y.load (v:=.int .i64 d0.value) rfl (by kernel_rfl) (eqC (blkCell B4 (i:=1) rfl)))<|RQ.y (wantT (dj:=56) rfl (vb rfl c76)) (Y.binI (v:=.bool (decide (d0.value < 4))) rfl rfl rfl)<|RQ.y rfl (Y.pick (b:=true) (v:=.bool (decide (d0.value < 4))) (vb rfl c76) rfl)<|RQ.y rfl (Y.move (v:=.bool (decide (d0.value < 4))) rfl) ?_
         rcases bcases (decide (d0.value < 4)) with c77|c77
         ·replace hm:=cF c77 hm
          have pc77:=of_decide_eq_false c77
          refine RQ.skip (wantN (dj:=61) rfl (vb rfl c77) rfl)<|RQ.skip (wantN (dj:=61) rfl (vb rfl c77) rfl)<|RQ.y rfl (Y.pick (b:=false) (v:=.bool false) (vb rfl c77) rfl)<|RQ.y rfl (Y.assign (v:=.bool false) rfl)<|RQ.nil<|then_n<|wp_ret ?_
          obtain rfl:=sj hm
          exact (blk_r (then_r (ret1 rfl rfl rfl ⟨rfl,T⟩)))
         replace hm:=cT c77 hm
         have pc77:=of_decide_eq_true c77
         refine RQ.y (wantT (dj:=61) rfl (vb rfl c77)) (Y.move (v:=.int .i64 (d0.kids.length:Int)) rfl)<|RQ.y (wantT (dj:=61) rfl (vb rfl c77)) (Y.binI (v:=.bool (decide ((d0.kids.length:Int)≤3))) rfl rfl rfl)<|RQ.y rfl (Y.pick (b:=true) (v:=.bool (decide ((d0.kids.length:Int)≤3))) (vb rfl c77) rfl)<|RQ.y rfl (Y.assign (v:=.bool (decide ((d0.kids.length:Int)≤3))) rfl)<|RQ.nil<|then_n<|wp_ret ?_
         obtain rfl:=sj hm
         exact (blk_r (then_r (ret1 rfl rfl rfl ⟨rfl,T⟩)))
        replace hm:=cT c15 hm
        refine cond_t rfl (vb rfl c15)<|wp_rs rfl<|RQ.y rfl (Y.fieldAddr (off:=1) rfl (by kernel_rfl))<|RQ.y rfl (Y.load (v:=.int .i64 d0.value) rfl (by kernel_rfl) (eqC (blkCell B4 (i:=1) rfl)))<|RQ.y rfl (Y.binI (v:=.bool (d0.value==0)) rfl rfl rfl)<|RQ.y rfl (Y.assign (v:=.bool (d0.value==0)) rfl)<|RQ.y rfl (Y.assign (v:=.int .i64 2) rfl)<|RQ.nil ?_
        refine blk_n (then_n ?_)
        refine wp_seq<|wp_rb rfl<|RQ.y rfl (Y.move (v:=.bool (d0.value==0)) rfl)<|RQ.y rfl (Y.move (v:=.bool (d0.value==0)) rfl) ?_
        rcases bcases (d0.value==0) with c78|c78
        ·replace hm:=cF c78 hm
         refine RQ.skip (wantN (dj:=95) rfl (vb rfl c78) rfl)<|RQ.y rfl (Y.pick (b:=false) (v:=.bool false) (vb rfl c78) rfl)<|RQ.y rfl (Y.move (v:=.bool false) rfl) ?_
         iterate 3 refine RQ.skip (wantN (dj:=98) rfl rfl rfl) ?_
         refine RQ.y rfl (Y.pick (b:=false) (v:=.bool false) rfl rfl)<|RQ.y rfl (Y.move (v:=.bool false) rfl) ?_
         iterate 4 refine RQ.skip (wantN (dj:=103) rfl rfl rfl) ?_
         refine RQ.y rfl (Y.pick (b:=false) (v:=.bool false) rfl rfl)<|RQ.y rfl (Y.assign (v:=.bool false) rfl)<|RQ.nil ?_
         intro w79 hb80
         have szw79:=hb80.size
         have T:=Tt T hb80
         refine then_n<|wp_ret ?_
         obtain rfl:=sj hm
         exact (ret1 rfl rfl rfl ⟨rfl,T⟩)
        replace hm:=cT c78 hm
        refine RQ.y (wantT (dj:=95) rfl (vb rfl c78)) (Y.move (v:=.bool ((d0.data.length:Int)==0)) rfl)<|RQ.y rfl (Y.pick (b:=true) (v:=.bool ((d0.data.length:Int)==0)) (vb rfl c78) rfl)<|RQ.y rfl (Y.move (v:=.bool ((d0.data.length:Int)==0)) rfl) ?_
        rcases bcases ((d0.data.length:Int)==0) with c81|c81
        ·replace hm:=cF c81 hm
         iterate 3 refine RQ.skip (wantN (dj:=98) rfl (vb rfl c81) rfl) ?_
         refine RQ.y rfl (Y.pick (b:=false) (v:=.bool false) (vb rfl c81) rfl)<|RQ.y rfl (Y.move (v:=.bool false) rfl) ?_
         iterate 4 refine RQ.skip (wantN (dj:=103) rfl rfl rfl) ?_
         refine RQ.y rfl (Y.pick (b:=false) (v:=.bool false) rfl rfl)<|RQ.y rfl (Y.assign (v:=.bool false) rfl)<|RQ.nil ?_
         intro w82 hb83
         have szw82:=hb83.size
         have T:=Tt T hb83
         refine then_n<|wp_ret ?_
         obtain rfl:=sj hm
         exact (ret1 rfl rfl rfl ⟨rfl,T⟩)
        replace hm:=cT c81 hm
        refine RQ.y (wantT (dj:=98) rfl (vb rfl c81)) (Y.move (v:=.int .i64 (d0.kids.length:Int)) rfl)<|RQ.y (wantT (dj:=98) rfl (vb rfl c81)) (Y.move (v:=.int .i64 2) rfl)<|RQ.y (wantT (dj:=98) rfl (vb rfl c81)) (Y.binI (v:=.bool ((d0.kids.length:Int)==2)) rfl rfl rfl)<|RQ.y rfl (Y.pick (b:=true) (v:=.bool ((d0.kids.length:Int)==2)) (vb rfl c81) rfl)<|RQ.y rfl (Y.move (v:=.bool ((d0.kids.length:Int)==2)) rfl) ?_
        rcases bcases ((d0.kids.length:Int)==2) with c84|c84
        ·replace hm:=cF c84 hm
         iterate 4 refine RQ.skip (wantN (dj:=103) rfl (vb rfl c84) rfl) ?_
         refine RQ.y rfl (Y.pick (b:=false) (v:=.bool false) (vb rfl c84) rfl)<|RQ.y rfl (Y.assign (v:=.bool false) rfl)<|RQ.nil ?_
         intro w85 hb86
         have szw85:=hb86.size
         have T:=Tt T hb86
         refine then_n<|wp_ret ?_
         obtain rfl:=sj hm
         exact (ret1 rfl rfl rfl ⟨rfl,T⟩)
        replace hm:=cT c84 hm
        refine RQ.y (wantT (dj:=103) rfl (vb rfl c84)) (Y.fieldAddr (off:=2) rfl (by kernel_rfl))<|RQ.y (wantT (dj:=103) rfl (vb rfl c84)) (Y.load (v:=.slice A1 d0.data.length c1) rfl (by kernel_rfl) (beC (blkCell B4 (i:=2) rfl))) ?_
        obtain ⟨y87,e88,hm⟩:=bnd hm
        refine RQ.call (wantT (dj:=103) rfl (vb rfl c84)) (am2 rfl rfl) (by kernel_rfl) (v:=.bool y87) (bel (K:=fun _=>True) fun w' hb'=>(c_m_slices_ContainsFunc_int64_int64 d0.data (fun x0=>m_impl_validCoreNode_1 x0) _ e88 _ _ _ w' (slArg intRd_ok h1 r1 (Tt T hb')) (by kernel_rfl) (fun x0 b hx w1 hb1=>Calls.arr (by simp) (c_m_impl_validCoreNode_1 x0 _ hx   w1  ))))<|RQ.y (wantT (dj:=103) rfl (vb rfl c84)) (Y.not (b':=(!y87)) rfl rfl)<|RQ.y rfl (Y.pick (b:=true) (v:=.bool (!y87)) (vb rfl c84) rfl)<|RQ.y rfl (Y.assign (v:=.bool (!y87)) rfl)<|RQ.nil ?_
        intro w89 hb90
        have szw89:=hb90.size
        have T:=Tt T hb90
        refine then_n<|wp_ret ?_
        obtain rfl:=sj hm
        exact (ret1 rfl rfl rfl ⟨rfl,T⟩)
       replace hm:=cT c14 hm
       refine cond_t rfl (vb rfl c14)<|wp_skip<|then_n<|cond_t rfl (vb rfl c14)<|wp_rs rfl<|RQ.y rfl (Y.fieldAddr (off:=1) rfl (by kernel_rfl))<|RQ.y rfl (Y.load (v:=.int .i64 d0.value) rfl (by kernel_rfl) (eqC (blkCell B4 (i:=1) rfl)))<|RQ.y rfl (Y.binI (v:=.bool (d0.value==0)) rfl rfl rfl)<|RQ.y rfl (Y.assign (v:=.bool (d0.value==0)) rfl)<|RQ.y rfl (Y.assign (v:=.int .i64 2) rfl)<|RQ.nil ?_
       refine blk_n (then_n ?_)
       refine wp_seq<|wp_rb rfl<|RQ.y rfl (Y.move (v:=.bool (d0.value==0)) rfl)<|RQ.y rfl (Y.move (v:=.bool (d0.value==0)) rfl) ?_
       rcases bcases (d0.value==0) with c91|c91
       ·replace hm:=cF c91 hm
        refine RQ.skip (wantN (dj:=95) rfl (vb rfl c91) rfl)<|RQ.y rfl (Y.pick (b:=false) (v:=.bool false) (vb rfl c91) rfl)<|RQ.y rfl (Y.move (v:=.bool false) rfl) ?_
        iterate 3 refine RQ.skip (wantN (dj:=98) rfl rfl rfl) ?_
        refine RQ.y rfl (Y.pick (b:=false) (v:=.bool false) rfl rfl)<|RQ.y rfl (Y.move (v:=.bool false) rfl) ?_
        iterate 4 refine RQ.skip (wantN (dj:=103) rfl rfl rfl) ?_
        refine RQ.y rfl (Y.pick (b:=false) (v:=.bool false) rfl rfl)<|RQ.y rfl (Y.assign (v:=.bool false) rfl)<|RQ.nil ?_
        intro w92 hb93
        have szw92:=hb93.size
        have T:=Tt T hb93
        refine then_n<|wp_ret ?_
        obtain rfl:=sj hm
        exact (ret1 rfl rfl rfl ⟨rfl,T⟩)
       replace hm:=cT c91 hm
       refine RQ.y (wantT (dj:=95) rfl (vb rfl c91)) (Y.move (v:=.bool ((d0.data.length:Int)==0)) rfl)<|RQ.y rfl (Y.pick (b:=true) (v:=.bool ((d0.data.length:Int)==0)) (vb rfl c91) rfl)<|RQ.y rfl (Y.move (v:=.bool ((d0.data.length:Int)==0)) rfl) ?_
       rcases bcases ((d0.data.length:Int)==0) with c94|c94
       ·replace hm:=cF c94 hm
        iterate 3 refine RQ.skip (wantN (dj:=98) rfl (vb rfl c94) rfl) ?_
        refine RQ.y rfl (Y.pick (b:=false) (v:=.bool false) (vb rfl c94) rfl)<|RQ.y rfl (Y.move (v:=.bool false) rfl) ?_
        iterate 4 refine RQ.skip (wantN (dj:=103) rfl rfl rfl) ?_
        refine RQ.y rfl (Y.pick (b:=false) (v:=.bool false) rfl rfl)<|RQ.y rfl (Y.assign (v:=.bool false) rfl)<|RQ.nil ?_
        intro w95 hb96
        have szw95:=hb96.size
        have T:=Tt T hb96
        refine then_n<|wp_ret ?_
        obtain rfl:=sj hm
        exact (ret1 rfl rfl rfl ⟨rfl,T⟩)
       replace hm:=cT c94 hm
       refine RQ.y (wantT (dj:=98) rfl (vb rfl c94)) (Y.move (v:=.int .i64 (d0.kids.length:Int)) rfl)<|RQ.y (wantT (dj:=98) rfl (vb rfl c94)) (Y.move (v:=.int .i64 2) rfl)<|RQ.y (wantT (dj:=98) rfl (vb rfl c94)) (Y.binI (v:=.bool ((d0.kids.length:Int)==2)) rfl rfl rfl)<|RQ.y rfl (Y.pick (b:=true) (v:=.bool ((d0.kids.length:Int)==2)) (vb rfl c94) rfl)<|RQ.y rfl (Y.move (v:=.bool ((d0.kids.length:Int)==2)) rfl) ?_
       rcases bcases ((d0.kids.length:Int)==2) with c97|c97
       ·replace hm:=cF c97 hm
        iterate 4 refine RQ.skip (wantN (dj:=103) rfl (vb rfl c97) rfl) ?_
        refine RQ.y rfl (Y.pick (b:=false) (v:=.bool false) (vb rfl c97) rfl)<|RQ.y rfl (Y.assign (v:=.bool false) rfl)<|RQ.nil ?_
        intro w98 hb99
        have szw98:=hb99.size
        have T:=Tt T hb99
        refine then_n<|wp_ret ?_
        obtain rfl:=sj hm
        exact (ret1 rfl rfl rfl ⟨rfl,T⟩)
       replace hm:=cT c97 hm
       refine RQ.y (wantT (dj:=103) rfl (vb rfl c97)) (Y.fieldAddr (off:=2) rfl (by kernel_rfl))<|RQ.y (wantT (dj:=103) rfl (vb rfl c97)) (Y.load (v:=.slice A1 d0.data.length c1) rfl (by kernel_rfl) (beC (blkCell B4 (i:=2) rfl))) ?_
       obtain ⟨y100,e101,hm⟩:=bnd hm
       refine RQ.call (wantT (dj:=103) rfl (vb rfl c97)) (am2 rfl rfl) (by kernel_rfl) (v:=.bool y100) (bel (K:=fun _=>True) fun w' hb'=>(c_m_slices_ContainsFunc_int64_int64 d0.data (fun x0=>m_impl_validCoreNode_1 x0) _ e101 _ _ _ w' (slArg intRd_ok h1 r1 (Tt T hb')) (by kernel_rfl) (fun x0 b hx w1 hb1=>Calls.arr (by simp) (c_m_impl_validCoreNode_1 x0 _ hx   w1  ))))<|RQ.y (wantT (dj:=103) rfl (vb rfl c97)) (Y.not (b':=(!y100)) rfl rfl)<|RQ.y rfl (Y.pick (b:=true) (v:=.bool (!y100)) (vb rfl c97) rfl)<|RQ.y rfl (Y.assign (v:=.bool (!y100)) rfl)<|RQ.nil ?_
       intro w102 hb103
       have szw102:=hb103.size
       have T:=Tt T hb103
       refine then_n<|wp_ret ?_
       obtain rfl:=sj hm
       exact (ret1 rfl rfl rfl ⟨rfl,T⟩)
      replace hm:=cT c13 hm
      refine cond_t rfl (vb rfl c13)<|wp_rs rfl<|RQ.y rfl (Y.fieldAddr (off:=1) rfl (by kernel_rfl))<|RQ.y rfl (Y.load (v:=.int .i64 d0.value) rfl (by kernel_rfl) (eqC (blkCell B4 (i:=1) rfl)))<|RQ.y rfl (Y.binI (v:=.bool (d0.value==0)) rfl rfl rfl)<|RQ.y rfl (Y.assign (v:=.bool (d0.value==0)) rfl)<|RQ.y rfl (Y.assign (v:=.int .i64 1) rfl)<|RQ.nil ?_
      refine blk_n (then_n ?_)
      refine wp_seq<|wp_rb rfl<|RQ.y rfl (Y.move (v:=.bool (d0.value==0)) rfl)<|RQ.y rfl (Y.move (v:=.bool (d0.value==0)) rfl) ?_
      rcases bcases (d0.value==0) with c104|c104
      ·replace hm:=cF c104 hm
       refine RQ.skip (wantN (dj:=95) rfl (vb rfl c104) rfl)<|RQ.y rfl (Y.pick (b:=false) (v:=.bool false) (vb rfl c104) rfl)<|RQ.y rfl (Y.move (v:=.bool false) rfl) ?_
       iterate 3 refine RQ.skip (wantN (dj:=98) rfl rfl rfl) ?_
       refine RQ.y rfl (Y.pick (b:=false) (v:=.bool false) rfl rfl)<|RQ.y rfl (Y.move (v:=.bool false) rfl) ?_
       iterate 4 refine RQ.skip (wantN (dj:=103) rfl rfl rfl) ?_
       refine RQ.y rfl (Y.pick (b:=false) (v:=.bool false) rfl rfl)<|RQ.y rfl (Y.assign (v:=.bool false) rfl)<|RQ.nil ?_
       intro w105 hb106
       have szw105:=hb106.size
       have T:=Tt T hb106
       refine then_n<|wp_ret ?_
       obtain rfl:=sj hm
       exact (ret1 rfl rfl rfl ⟨rfl,T⟩)
      replace hm:=cT c104 hm
      refine RQ.y (wantT (dj:=95) rfl (vb rfl c104)) (Y.move (v:=.bool ((d0.data.length:Int)==0)) rfl)<|RQ.y rfl (Y.pick (b:=true) (v:=.bool ((d0.data.length:Int)==0)) (vb rfl c104) rfl)<|RQ.y rfl (Y.move (v:=.bool ((d0.data.length:Int)==0)) rfl) ?_
      rcases bcases ((d0.data.length:Int)==0) with c107|c107
      ·replace hm:=cF c107 hm
       iterate 3 refine RQ.skip (wantN (dj:=98) rfl (vb rfl c107) rfl) ?_
       refine RQ.y rfl (Y.pick (b:=false) (v:=.bool false) (vb rfl c107) rfl)<|RQ.y rfl (Y.move (v:=.bool false) rfl) ?_
       iterate 4 refine RQ.skip (wantN (dj:=103) rfl rfl rfl) ?_
       refine RQ.y rfl (Y.pick (b:=false) (v:=.bool false) rfl rfl)<|RQ.y rfl (Y.assign (v:=.bool false) rfl)<|RQ.nil ?_
       intro w108 hb109
       have szw108:=hb109.size
       have T:=Tt T hb109
       refine then_n<|wp_ret ?_
       obtain rfl:=sj hm
       exact (ret1 rfl rfl rfl ⟨rfl,T⟩)
      replace hm:=cT c107 hm
      refine RQ.y (wantT (dj:=98) rfl (vb rfl c107)) (Y.move (v:=.int .i64 (d0.kids.length:Int)) rfl)<|RQ.y (wantT (dj:=98) rfl (vb rfl c107)) (Y.move (v:=.int .i64 1) rfl)<|RQ.y (wantT (dj:=98) rfl (vb rfl c107)) (Y.binI (v:=.bool ((d0.kids.length:Int)==1)) rfl rfl rfl)<|RQ.y rfl (Y.pick (b:=true) (v:=.bool ((d0.kids.length:Int)==1)) (vb rfl c107) rfl)<|RQ.y rfl (Y.move (v:=.bool ((d0.kids.length:Int)==1)) rfl) ?_
      rcases bcases ((d0.kids.length:Int)==1) with c110|c110
      ·replace hm:=cF c110 hm
       iterate 4 refine RQ.skip (wantN (dj:=103) rfl (vb rfl c110) rfl) ?_
       refine RQ.y rfl (Y.pick (b:=false) (v:=.bool false) (vb rfl c110) rfl)<|RQ.y rfl (Y.assign (v:=.bool false) rfl)<|RQ.nil ?_
       intro w111 hb112
       have szw111:=hb112.size
       have T:=Tt T hb112
       refine then_n<|wp_ret ?_
       obtain rfl:=sj hm
       exact (ret1 rfl rfl rfl ⟨rfl,T⟩)
      replace hm:=cT c110 hm
      refine RQ.y (wantT (dj:=103) rfl (vb rfl c110)) (Y.fieldAddr (off:=2) rfl (by kernel_rfl))<|RQ.y (wantT (dj:=103) rfl (vb rfl c110)) (Y.load (v:=.slice A1 d0.data.length c1) rfl (by kernel_rfl) (beC (blkCell B4 (i:=2) rfl))) ?_
      obtain ⟨y113,e114,hm⟩:=bnd hm
      refine RQ.call (wantT (dj:=103) rfl (vb rfl c110)) (am2 rfl rfl) (by kernel_rfl) (v:=.bool y113) (bel (K:=fun _=>True) fun w' hb'=>(c_m_slices_ContainsFunc_int64_int64 d0.data (fun x0=>m_impl_validCoreNode_1 x0) _ e114 _ _ _ w' (slArg intRd_ok h1 r1 (Tt T hb')) (by kernel_rfl) (fun x0 b hx w1 hb1=>Calls.arr (by simp) (c_m_impl_validCoreNode_1 x0 _ hx   w1  ))))<|RQ.y (wantT (dj:=103) rfl (vb rfl c110)) (Y.not (b':=(!y113)) rfl rfl)<|RQ.y rfl (Y.pick (b:=true) (v:=.bool (!y113)) (vb rfl c110) rfl)<|RQ.y rfl (Y.assign (v:=.bool (!y113)) rfl)<|RQ.nil ?_
      intro w115 hb116
      have szw115:=hb116.size
      have T:=Tt T hb116
      refine then_n<|wp_ret ?_
      obtain rfl:=sj hm
      exact (ret1 rfl rfl rfl ⟨rfl,T⟩)
     replace hm:=cT c12 hm
     refine cond_t rfl (vb rfl c12)<|wp_skip<|then_n<|cond_t rfl (vb rfl c12)<|wp_rs rfl<|RQ.y rfl (Y.fieldAddr (off:=1) rfl (by kernel_rfl))<|RQ.y rfl (Y.load (v:=.int .i64 d0.value) rfl (by kernel_rfl) (eqC (blkCell B4 (i:=1) rfl)))<|RQ.y rfl (Y.binI (v:=.bool (d0.value==0)) rfl rfl rfl)<|RQ.y rfl (Y.assign (v:=.bool (d0.value==0)) rfl)<|RQ.y rfl (Y.assign (v:=.int .i64 1) rfl)<|RQ.nil ?_
     refine blk_n (then_n ?_)
     refine wp_seq<|wp_rb rfl<|RQ.y rfl (Y.move (v:=.bool (d0.value==0)) rfl)<|RQ.y rfl (Y.move (v:=.bool (d0.value==0)) rfl) ?_
     rcases bcases (d0.value==0) with c117|c117
     ·replace hm:=cF c117 hm
      refine RQ.skip (wantN (dj:=95) rfl (vb rfl c117) rfl)<|RQ.y rfl (Y.pick (b:=false) (v:=.bool false) (vb rfl c117) rfl)<|RQ.y rfl (Y.move (v:=.bool false) rfl) ?_
      iterate 3 refine RQ.skip (wantN (dj:=98) rfl rfl rfl) ?_
      refine RQ.y rfl (Y.pick (b:=false) (v:=.bool false) rfl rfl)<|RQ.y rfl (Y.move (v:=.bool false) rfl) ?_
      iterate 4 refine RQ.skip (wantN (dj:=103) rfl rfl rfl) ?_
      refine RQ.y rfl (Y.pick (b:=false) (v:=.bool false) rfl rfl)<|RQ.y rfl (Y.assign (v:=.bool false) rfl)<|RQ.nil ?_
      intro w118 hb119
      have szw118:=hb119.size
      have T:=Tt T hb119
      refine then_n<|wp_ret ?_
      obtain rfl:=sj hm
      exact (ret1 rfl rfl rfl ⟨rfl,T⟩)
     replace hm:=cT c117 hm
     refine RQ.y (wantT (dj:=95) rfl (vb rfl c117)) (Y.move (v:=.bool ((d0.data.length:Int)==0)) rfl)<|RQ.y rfl (Y.pick (b:=true) (v:=.bool ((d0.data.length:Int)==0)) (vb rfl c117) rfl)<|RQ.y rfl (Y.move (v:=.bool ((d0.data.length:Int)==0)) rfl) ?_
     rcases bcases ((d0.data.length:Int)==0) with c120|c120
     ·replace hm:=cF c120 hm
      iterate 3 refine RQ.skip (wantN (dj:=98) rfl (vb rfl c120) rfl) ?_
      refine RQ.y rfl (Y.pick (b:=false) (v:=.bool false) (vb rfl c120) rfl)<|RQ.y rfl (Y.move (v:=.bool false) rfl) ?_
      iterate 4 refine RQ.skip (wantN (dj:=103) rfl rfl rfl) ?_
      refine RQ.y rfl (Y.pick (b:=false) (v:=.bool false) rfl rfl)<|RQ.y rfl (Y.assign (v:=.bool false) rfl)<|RQ.nil ?_
      intro w121 hb122
      have szw121:=hb122.size
      have T:=Tt T hb122
      refine then_n<|wp_ret ?_
      obtain rfl:=sj hm
      exact (ret1 rfl rfl rfl ⟨rfl,T⟩)
     replace hm:=cT c120 hm
     refine RQ.y (wantT (dj:=98) rfl (vb rfl c120)) (Y.move (v:=.int .i64 (d0.kids.length:Int)) rfl)<|RQ.y (wantT (dj:=98) rfl (vb rfl c120)) (Y.move (v:=.int .i64 1) rfl)<|RQ.y (wantT (dj:=98) rfl (vb rfl c120)) (Y.binI (v:=.bool ((d0.kids.length:Int)==1)) rfl rfl rfl)<|RQ.y rfl (Y.pick (b:=true) (v:=.bool ((d0.kids.length:Int)==1)) (vb rfl c120) rfl)<|RQ.y rfl (Y.move (v:=.bool ((d0.kids.length:Int)==1)) rfl) ?_
     rcases bcases ((d0.kids.length:Int)==1) with c123|c123
     ·replace hm:=cF c123 hm
      iterate 4 refine RQ.skip (wantN (dj:=103) rfl (vb rfl c123) rfl) ?_
      refine RQ.y rfl (Y.pick (b:=false) (v:=.bool false) (vb rfl c123) rfl)<|RQ.y rfl (Y.assign (v:=.bool false) rfl)<|RQ.nil ?_
      intro w124 hb125
      have szw124:=hb125.size
      have T:=Tt T hb125
      refine then_n<|wp_ret ?_
      obtain rfl:=sj hm
      exact (ret1 rfl rfl rfl ⟨rfl,T⟩)
     replace hm:=cT c123 hm
     refine RQ.y (wantT (dj:=103) rfl (vb rfl c123)) (Y.fieldAddr (off:=2) rfl (by kernel_rfl))<|RQ.y (wantT (dj:=103) rfl (vb rfl c123)) (Y.load (v:=.slice A1 d0.data.length c1) rfl (by kernel_rfl) (beC (blkCell B4 (i:=2) rfl))) ?_
     obtain ⟨y126,e127,hm⟩:=bnd hm
     refine RQ.call (wantT (dj:=103) rfl (vb rfl c123)) (am2 rfl rfl) (by kernel_rfl) (v:=.bool y126) (bel (K:=fun _=>True) fun w' hb'=>(c_m_slices_ContainsFunc_int64_int64 d0.data (fun x0=>m_impl_validCoreNode_1 x0) _ e127 _ _ _ w' (slArg intRd_ok h1 r1 (Tt T hb')) (by kernel_rfl) (fun x0 b hx w1 hb1=>Calls.arr (by simp) (c_m_impl_validCoreNode_1 x0 _ hx   w1  ))))<|RQ.y (wantT (dj:=103) rfl (vb rfl c123)) (Y.not (b':=(!y126)) rfl rfl)<|RQ.y rfl (Y.pick (b:=true) (v:=.bool (!y126)) (vb rfl c123) rfl)<|RQ.y rfl (Y.assign (v:=.bool (!y126)) rfl)<|RQ.nil ?_
     intro w128 hb129
     have szw128:=hb129.size
     have T:=Tt T hb129
     refine then_n<|wp_ret ?_
     obtain rfl:=sj hm
     exact (ret1 rfl rfl rfl ⟨rfl,T⟩)
    replace hm:=cT c11 hm
    refine cond_t rfl (vb rfl c11)<|wp_rb rfl<|RQ.y rfl (Y.fieldAddr (off:=1) rfl (by kernel_rfl))<|RQ.y rfl (Y.load (v:=.int .i64 d0.value) rfl (by kernel_rfl) (beC (blkCell B4 (i:=1) rfl))) ?_
    obtain ⟨y130,e131,hm⟩:=bnd hm
    refine RQ.call rfl (am1 rfl) (by kernel_rfl) (v:=.bool y130) (bel (K:=fun _=>True) fun w' hb'=>(c_m_impl_isOperator d0.value _ e131  w' ))<|RQ.y rfl (Y.assign (v:=.bool y130) rfl)<|RQ.y rfl (Y.assign (v:=.int .i64 2) rfl)<|RQ.nil ?_
    intro w132 hb133
    have szw132:=hb133.size
    have B4:=blkT B4 hb133
    have T:=Tt T hb133
    refine blk_n (then_n ?_)
    refine wp_seq<|wp_rb rfl<|RQ.y rfl (Y.move (v:=.bool y130) rfl)<|RQ.y rfl (Y.move (v:=.bool y130) rfl) ?_
    rcases bcases y130 with c134|c134
    ·replace hm:=cF c134 hm
     refine RQ.skip (wantN (dj:=95) rfl (vb rfl c134) rfl)<|RQ.y rfl (Y.pick (b:=false) (v:=.bool false) (vb rfl c134) rfl)<|RQ.y rfl (Y.move (v:=.bool false) rfl) ?_
     iterate 3 refine RQ.skip (wantN (dj:=98) rfl rfl rfl) ?_
     refine RQ.y rfl (Y.pick (b:=false) (v:=.bool false) rfl rfl)<|RQ.y rfl (Y.move (v:=.bool false) rfl) ?_
     iterate 4 refine RQ.skip (wantN (dj:=103) rfl rfl rfl) ?_
     refine RQ.y rfl (Y.pick (b:=false) (v:=.bool false) rfl rfl)<|RQ.y rfl (Y.assign (v:=.bool false) rfl)<|RQ.nil ?_
     intro w135 hb136
     have szw135:=hb136.size
     have T:=Tt T hb136
     refine then_n<|wp_ret ?_
     obtain rfl:=sj hm
     exact (ret1 rfl rfl rfl ⟨rfl,T⟩)
    replace hm:=cT c134 hm
    refine RQ.y (wantT (dj:=95) rfl (vb rfl c134)) (Y.move (v:=.bool ((d0.data.length:Int)==0)) rfl)<|RQ.y rfl (Y.pick (b:=true) (v:=.bool ((d0.data.length:Int)==0)) (vb rfl c134) rfl)<|RQ.y rfl (Y.move (v:=.bool ((d0.data.length:Int)==0)) rfl) ?_
    rcases bcases ((d0.data.length:Int)==0) with c137|c137
    ·replace hm:=cF c137 hm
     iterate 3 refine RQ.skip (wantN (dj:=98) rfl (vb rfl c137) rfl) ?_
     refine RQ.y rfl (Y.pick (b:=false) (v:=.bool false) (vb rfl c137) rfl)<|RQ.y rfl (Y.move (v:=.bool false) rfl) ?_
     iterate 4 refine RQ.skip (wantN (dj:=103) rfl rfl rfl) ?_
     refine RQ.y rfl (Y.pick (b:=false) (v:=.bool false) rfl rfl)<|RQ.y rfl (Y.assign (v:=.bool false) rfl)<|RQ.nil ?_
     intro w138 hb139
     have szw138:=hb139.size
     have T:=Tt T hb139
     refine then_n<|wp_ret ?_
     obtain rfl:=sj hm
     exact (ret1 rfl rfl rfl ⟨rfl,T⟩)
    replace hm:=cT c137 hm
    refine RQ.y (wantT (dj:=98) rfl (vb rfl c137)) (Y.move (v:=.int .i64 (d0.kids.length:Int)) rfl)<|RQ.y (wantT (dj:=98) rfl (vb rfl c137)) (Y.move (v:=.int .i64 2) rfl)<|RQ.y (wantT (dj:=98) rfl (vb rfl c137)) (Y.binI (v:=.bool ((d0.kids.length:Int)==2)) rfl rfl rfl)<|RQ.y rfl (Y.pick (b:=true) (v:=.bool ((d0.kids.length:Int)==2)) (vb rfl c137) rfl)<|RQ.y rfl (Y.move (v:=.bool ((d0.kids.length:Int)==2)) rfl) ?_
    rcases bcases ((d0.kids.length:Int)==2) with c140|c140
    ·replace hm:=cF c140 hm
     iterate 4 refine RQ.skip (wantN (dj:=103) rfl (vb rfl c140) rfl) ?_
     refine RQ.y rfl (Y.pick (b:=false) (v:=.bool false) (vb rfl c140) rfl)<|RQ.y rfl (Y.assign (v:=.bool false) rfl)<|RQ.nil ?_
     intro w141 hb142
     have szw141:=hb142.size
     have T:=Tt T hb142
     refine then_n<|wp_ret ?_
     obtain rfl:=sj hm
     exact (ret1 rfl rfl rfl ⟨rfl,T⟩)
    replace hm:=cT c140 hm
    refine RQ.y (wantT (dj:=103) rfl (vb rfl c140)) (Y.fieldAddr (off:=2) rfl (by kernel_rfl))<|RQ.y (wantT (dj:=103) rfl (vb rfl c140)) (Y.load (v:=.slice A1 d0.data.length c1) rfl (by kernel_rfl) (beC (blkCell B4 (i:=2) rfl))) ?_
    obtain ⟨y143,e144,hm⟩:=bnd hm
    refine RQ.call (wantT (dj:=103) rfl (vb rfl c140)) (am2 rfl rfl) (by kernel_rfl) (v:=.bool y143) (bel (K:=fun _=>True) fun w' hb'=>(c_m_slices_ContainsFunc_int64_int64 d0.data (fun x0=>m_impl_validCoreNode_1 x0) _ e144 _ _ _ w' (slArg intRd_ok h1 r1 (Tt T hb')) (by kernel_rfl) (fun x0 b hx w1 hb1=>Calls.arr (by simp) (c_m_impl_validCoreNode_1 x0 _ hx   w1  ))))<|RQ.y (wantT (dj:=103) rfl (vb rfl c140)) (Y.not (b':=(!y143)) rfl rfl)<|RQ.y rfl (Y.pick (b:=true) (v:=.bool (!y143)) (vb rfl c140) rfl)<|RQ.y rfl (Y.assign (v:=.bool (!y143)) rfl)<|RQ.nil ?_
    intro w145 hb146
    have szw145:=hb146.size
    have T:=Tt T hb146
    refine then_n<|wp_ret ?_
    obtain rfl:=sj hm
    exact (ret1 rfl rfl rfl ⟨rfl,T⟩)
   replace hm:=cT c10 hm
   refine cond_t rfl (vb rfl c10)<|wp_rb rfl<|RQ.y rfl (Y.fieldAddr (off:=1) rfl (by kernel_rfl))<|RQ.y rfl (Y.load (v:=.int .i64 d0.value) rfl (by kernel_rfl) (beC (blkCell B4 (i:=1) rfl))) ?_
   obtain ⟨y147,e148,hm⟩:=bnd hm
   refine RQ.call rfl (am1 rfl) (by kernel_rfl) (v:=.bool y147) (bel (K:=fun _=>True) fun w' hb'=>(c_m_impl_isInt d0.value _ e148  w' ))<|RQ.y rfl (Y.assign (v:=.bool y147) rfl)<|RQ.nil ?_
   intro w149 hb150
   have szw149:=hb150.size
   have B4:=blkT B4 hb150
   have T:=Tt T hb150
   refine blk_n (then_n ?_)
   refine wp_seq<|wp_rb rfl<|RQ.y rfl (Y.move (v:=.bool y147) rfl)<|RQ.y rfl (Y.move (v:=.bool y147) rfl) ?_
   rcases bcases y147 with c151|c151
   ·replace hm:=cF c151 hm
    refine RQ.skip (wantN (dj:=95) rfl (vb rfl c151) rfl)<|RQ.y rfl (Y.pick (b:=false) (v:=.bool false) (vb rfl c151) rfl)<|RQ.y rfl (Y.move (v:=.bool false) rfl) ?_
    iterate 3 refine RQ.skip (wantN (dj:=98) rfl rfl rfl) ?_
    refine RQ.y rfl (Y.pick (b:=false) (v:=.bool false) rfl rfl)<|RQ.y rfl (Y.move (v:=.bool false) rfl) ?_
    iterate 4 refine RQ.skip (wantN (dj:=103) rfl rfl rfl) ?_
    refine RQ.y rfl (Y.pick (b:=false) (v:=.bool false) rfl rfl)<|RQ.y rfl (Y.assign (v:=.bool false) rfl)<|RQ.nil ?_
    intro w152 hb153
    have szw152:=hb153.size
    have T:=Tt T hb153
    refine then_n<|wp_ret ?_
    obtain rfl:=sj hm
    exact (ret1 rfl rfl rfl ⟨rfl,T⟩)
   replace hm:=cT c151 hm
   refine RQ.y (wantT (dj:=95) rfl (vb rfl c151)) (Y.move (v:=.bool ((d0.data.length:Int)==0)) rfl)<|RQ.y rfl (Y.pick (b:=true) (v:=.bool ((d0.data.length:Int)==0)) (vb rfl c151) rfl)<|RQ.y rfl (Y.move (v:=.bool ((d0.data.length:Int)==0)) rfl) ?_
   rcases bcases ((d0.data.length:Int)==0) with c154|c154
   ·replace hm:=cF c154 hm
    iterate 3 refine RQ.skip (wantN (dj:=98) rfl (vb rfl c154) rfl) ?_
    refine RQ.y rfl (Y.pick (b:=false) (v:=.bool false) (vb rfl c154) rfl)<|RQ.y rfl (Y.move (v:=.bool false) rfl) ?_
    iterate 4 refine RQ.skip (wantN (dj:=103) rfl rfl rfl) ?_
    refine RQ.y rfl (Y.pick (b:=false) (v:=.bool false) rfl rfl)<|RQ.y rfl (Y.assign (v:=.bool false) rfl)<|RQ.nil ?_
    intro w155 hb156
    have szw155:=hb156.size
    have T:=Tt T hb156
    refine then_n<|wp_ret ?_
    obtain rfl:=sj hm
    exact (ret1 rfl rfl rfl ⟨rfl,T⟩)
   replace hm:=cT c154 hm
   refine RQ.y (wantT (dj:=98) rfl (vb rfl c154)) (Y.move (v:=.int .i64 (d0.kids.length:Int)) rfl)<|RQ.y (wantT (dj:=98) rfl (vb rfl c154)) (Y.move (v:=.int .i64 0) rfl)<|RQ.y (wantT (dj:=98) rfl (vb rfl c154)) (Y.binI (v:=.bool ((d0.kids.length:Int)==0)) rfl rfl rfl)<|RQ.y rfl (Y.pick (b:=true) (v:=.bool ((d0.kids.length:Int)==0)) (vb rfl c154) rfl)<|RQ.y rfl (Y.move (v:=.bool ((d0.kids.length:Int)==0)) rfl) ?_
   rcases bcases ((d0.kids.length:Int)==0) with c157|c157
   ·replace hm:=cF c157 hm
    iterate 4 refine RQ.skip (wantN (dj:=103) rfl (vb rfl c157) rfl) ?_
    refine RQ.y rfl (Y.pick (b:=false) (v:=.bool false) (vb rfl c157) rfl)<|RQ.y rfl (Y.assign (v:=.bool false) rfl)<|RQ.nil ?_
    intro w158 hb159
    have szw158:=hb159.size
    have T:=Tt T hb159
    refine then_n<|wp_ret ?_
    obtain rfl:=sj hm
    exact (ret1 rfl rfl rfl ⟨rfl,T⟩)
   replace hm:=cT c157 hm
   refine RQ.y (wantT (dj:=103) rfl (vb rfl c157)) (Y.fieldAddr (off:=2) rfl (by kernel_rfl))<|RQ.y (wantT (dj:=103) rfl (vb rfl c157)) (Y.load (v:=.slice A1 d0.data.length c1) rfl (by kernel_rfl) (beC (blkCell B4 (i:=2) rfl))) ?_
   obtain ⟨y160,e161,hm⟩:=bnd hm
   refine RQ.call (wantT (dj:=103) rfl (vb rfl c157)) (am2 rfl rfl) (by kernel_rfl) (v:=.bool y160) (bel (K:=fun _=>True) fun w' hb'=>(c_m_slices_ContainsFunc_int64_int64 d0.data (fun x0=>m_impl_validCoreNode_1 x0) _ e161 _ _ _ w' (slArg intRd_ok h1 r1 (Tt T hb')) (by kernel_rfl) (fun x0 b hx w1 hb1=>Calls.arr (by simp) (c_m_impl_validCoreNode_1 x0 _ hx   w1  ))))<|RQ.y (wantT (dj:=103) rfl (vb rfl c157)) (Y.not (b':=(!y160)) rfl rfl)<|RQ.y rfl (Y.pick (b:=true) (v:=.bool (!y160)) (vb rfl c157) rfl)<|RQ.y rfl (Y.assign (v:=.bool (!y160)) rfl)<|RQ.nil ?_
   intro w162 hb163
   have szw162:=hb163.size
   have T:=Tt T hb163
   refine then_n<|wp_ret ?_
   obtain rfl:=sj hm
   exact (ret1 rfl rfl rfl ⟨rfl,T⟩)
  replace hm:=cT c9 hm
  refine cond_t rfl (vb rfl c9)<|wp_rs rfl<|RQ.y rfl (Y.fieldAddr (off:=1) rfl (by kernel_rfl))<|RQ.y rfl (Y.load (v:=.int .i64 d0.value) rfl (by kernel_rfl) (eqC (blkCell B4 (i:=1) rfl)))<|RQ.y rfl (Y.binI (v:=.bool (decide (d0.value ≥ 0))) rfl rfl rfl)<|RQ.y rfl (Y.move (v:=.bool (decide (d0.value ≥ 0))) rfl) ?_
  rcases bcases (decide (d0.value ≥ 0)) with c164|c164
  ·replace hm:=cF c164 hm
   have pc164:=of_decide_eq_false c164
   iterate 3 refine RQ.skip (wantN (dj:=21) rfl (vb rfl c164) rfl) ?_
   refine RQ.y rfl (Y.pick (b:=false) (v:=.bool false) (vb rfl c164) rfl)<|RQ.y rfl (Y.assign (v:=.bool false) rfl)<|RQ.nil ?_
   refine blk_n (then_n ?_)
   refine wp_seq<|wp_rb rfl<|RQ.y rfl (Y.move (v:=.bool false) rfl)<|RQ.y rfl (Y.move (v:=.bool false) rfl)<|RQ.skip (wantN (dj:=95) rfl rfl rfl)<|RQ.y rfl (Y.pick (b:=false) (v:=.bool false) rfl rfl)<|RQ.y rfl (Y.move (v:=.bool false) rfl) ?_
   iterate 3 refine RQ.skip (wantN (dj:=98) rfl rfl rfl) ?_
   refine RQ.y rfl (Y.pick (b:=false) (v:=.bool false) rfl rfl)<|RQ.y rfl (Y.move (v:=.bool false) rfl) ?_
   iterate 4 refine RQ.skip (wantN (dj:=103) rfl rfl rfl) ?_
   refine RQ.y rfl (Y.pick (b:=false) (v:=.bool false) rfl rfl)<|RQ.y rfl (Y.assign (v:=.bool false) rfl)<|RQ.nil ?_
   intro w165 hb166
   have szw165:=hb166.size
   have T:=Tt T hb166
   refine then_n<|wp_ret ?_
   obtain rfl:=sj hm
   exact (ret1 rfl rfl rfl ⟨rfl,T⟩)
  replace hm:=cT c164 hm
  have pc164:=of_decide_eq_true c164
  refine RQ.y (wantT (dj:=21) rfl (vb rfl c164)) (Y.fieldAddr (off:=1) rfl (by kernel_rfl))<|RQ.y (wantT (dj:=21) rfl (vb rfl c164)) (Y.load (v:=.int .i64 d0.value) rfl (by kernel_rfl) (eqC (blkCell B4 (i:=1) rfl)))<|RQ.y (wantT (dj:=21) rfl (vb rfl c164)) (Y.binI (v:=.bool (decide (d0.value≤255))) rfl rfl rfl)<|RQ.y rfl (Y.pick (b:=true) (v:=.bool (decide (d0.value≤255))) (vb rfl c164) rfl)<|RQ.y rfl (Y.assign (v:=.bool (decide (d0.value≤255))) rfl)<|RQ.nil ?_
  refine blk_n (then_n ?_)
  refine wp_seq<|wp_rb rfl<|RQ.y rfl (Y.move (v:=.bool (decide (d0.value≤255))) rfl)<|RQ.y rfl (Y.move (v:=.bool (decide (d0.value≤255))) rfl) ?_
  rcases bcases (decide (d0.value≤255)) with c167|c167
  ·replace hm:=cF c167 hm
   have pc167:=of_decide_eq_false c167
   refine RQ.skip (wantN (dj:=95) rfl (vb rfl c167) rfl)<|RQ.y rfl (Y.pick (b:=false) (v:=.bool false) (vb rfl c167) rfl)<|RQ.y rfl (Y.move (v:=.bool false) rfl) ?_
   iterate 3 refine RQ.skip (wantN (dj:=98) rfl rfl rfl) ?_
   refine RQ.y rfl (Y.pick (b:=false) (v:=.bool false) rfl rfl)<|RQ.y rfl (Y.move (v:=.bool false) rfl) ?_
   iterate 4 refine RQ.skip (wantN (dj:=103) rfl rfl rfl) ?_
   refine RQ.y rfl (Y.pick (b:=false) (v:=.bool false) rfl rfl)<|RQ.y rfl (Y.assign (v:=.bool false) rfl)<|RQ.nil ?_
   intro w168 hb169
   have szw168:=hb169.size
   have T:=Tt T hb169
   refine then_n<|wp_ret ?_
   obtain rfl:=sj hm
   exact (ret1 rfl rfl rfl ⟨rfl,T⟩)
  replace hm:=cT c167 hm
  have pc167:=of_decide_eq_true c167
  refine RQ.y (wantT (dj:=95) rfl (vb rfl c167)) (Y.move (v:=.bool ((d0.data.length:Int)==0)) rfl)<|RQ.y rfl (Y.pick (b:=true) (v:=.bool ((d0.data.length:Int)==0)) (vb rfl c167) rfl)<|RQ.y rfl (Y.move (v:=.bool ((d0.data.length:Int)==0)) rfl) ?_
  rcases bcases ((d0.data.length:Int)==0) with c170|c170
  ·replace hm:=cF c170 hm
   iterate 3 refine RQ.skip (wantN (dj:=98) rfl (vb rfl c170) rfl) ?_
   refine RQ.y rfl (Y.pick (b:=false) (v:=.bool false) (vb rfl c170) rfl)<|RQ.y rfl (Y.move (v:=.bool false) rfl) ?_
   iterate 4 refine RQ.skip (wantN (dj:=103) rfl rfl rfl) ?_
   refine RQ.y rfl (Y.pick (b:=false) (v:=.bool false) rfl rfl)<|RQ.y rfl (Y.assign (v:=.bool false) rfl)<|RQ.nil ?_
   intro w171 hb172
   have szw171:=hb172.size
   have T:=Tt T hb172
   refine then_n<|wp_ret ?_
   obtain rfl:=sj hm
   exact (ret1 rfl rfl rfl ⟨rfl,T⟩)
  replace hm:=cT c170 hm
  refine RQ.y (wantT (dj:=98) rfl (vb rfl c170)) (Y.move (v:=.int .i64 (d0.kids.length:Int)) rfl)<|RQ.y (wantT (dj:=98) rfl (vb rfl c170)) (Y.move (v:=.int .i64 0) rfl)<|RQ.y (wantT (dj:=98) rfl (vb rfl c170)) (Y.binI (v:=.bool ((d0.kids.length:Int)==0)) rfl rfl rfl)<|RQ.y rfl (Y.pick (b:=true) (v:=.bool ((d0.kids.length:Int)==0)) (vb rfl c170) rfl)<|RQ.y rfl (Y.move (v:=.bool ((d0.kids.length:Int)==0)) rfl) ?_
  rcases bcases ((d0.kids.length:Int)==0) with c173|c173
  ·replace hm:=cF c173 hm
   iterate 4 refine RQ.skip (wantN (dj:=103) rfl (vb rfl c173) rfl) ?_
   refine RQ.y rfl (Y.pick (b:=false) (v:=.bool false) (vb rfl c173) rfl)<|RQ.y rfl (Y.assign (v:=.bool false) rfl)<|RQ.nil ?_
   intro w174 hb175
   have szw174:=hb175.size
   have T:=Tt T hb175
   refine then_n<|wp_ret ?_
   obtain rfl:=sj hm
   exact (ret1 rfl rfl rfl ⟨rfl,T⟩)
  replace hm:=cT c173 hm
  refine RQ.y (wantT (dj:=103) rfl (vb rfl c173)) (Y.fieldAddr (off:=2) rfl (by kernel_rfl))<|RQ.y (wantT (dj:=103) rfl (vb rfl c173)) (Y.load (v:=.slice A1 d0.data.length c1) rfl (by kernel_rfl) (beC (blkCell B4 (i:=2) rfl))) ?_
  obtain ⟨y176,e177,hm⟩:=bnd hm
  refine RQ.call (wantT (dj:=103) rfl (vb rfl c173)) (am2 rfl rfl) (by kernel_rfl) (v:=.bool y176) (bel (K:=fun _=>True) fun w' hb'=>(c_m_slices_ContainsFunc_int64_int64 d0.data (fun x0=>m_impl_validCoreNode_1 x0) _ e177 _ _ _ w' (slArg intRd_ok h1 r1 (Tt T hb')) (by kernel_rfl) (fun x0 b hx w1 hb1=>Calls.arr (by simp) (c_m_impl_validCoreNode_1 x0 _ hx   w1  ))))<|RQ.y (wantT (dj:=103) rfl (vb rfl c173)) (Y.not (b':=(!y176)) rfl rfl)<|RQ.y rfl (Y.pick (b:=true) (v:=.bool (!y176)) (vb rfl c173) rfl)<|RQ.y rfl (Y.assign (v:=.bool (!y176)) rfl)<|RQ.nil ?_
  intro w178 hb179
  have szw178:=hb179.size
  have T:=Tt T hb179
  refine then_n<|wp_ret ?_
  obtain rfl:=sj hm
  exact (ret1 rfl rfl rfl ⟨rfl,T⟩)
noncomputable def m_impl_coreShape_A1 (i12:Int) (i13:Int):Option (Int × Int × Bool):=
  some (i12,i13,true)
noncomputable def m_impl_coreShape_B1 (d0:DCore) (self:DCore→Option (Int × Int × Bool)) (rec1:Int→Int→Int→Option (Int × Int × Bool)) (K1:Int→Int→Option (Int × Int × Bool)) (i15:Int) (i16:Int) (i17:Int):Option (Int × Int × Bool):=
  (bif (decide (i17 < (d0.kids.length:Int))) then ((getI d0.kids i17).bind fun x20=>((self x20).bind fun y38=>(bif y38.2.2 then ((ck (y38.1+1)).bind fun s43=>((ck (i16+y38.2.1)).bind fun s44=>(rec1 (if s43 > i15 then s43 else i15) s44 (i17+1)))) else some (0,0,false)))) else (K1 i15 i16))
noncomputable def m_impl_coreShape_L1 (d0:DCore) (self:DCore→Option (Int × Int × Bool)) (K1:Int→Int→Option (Int × Int × Bool)):Nat→Int→Int→Int→Option (Int × Int × Bool)
  |0,_,_,_=>none
  |g+1,i15,i16,i17=>m_impl_coreShape_B1 d0 self (m_impl_coreShape_L1 d0 self K1 g) K1 i15 i16 i17
noncomputable def m_impl_coreShape_R (self:DCore→Option (Int × Int × Bool)) (d0:DCore):Option (Int × Int × Bool):=
  ((m_impl_validCoreNode d0).bind fun y7=>(bif y7 then (m_impl_coreShape_L1 d0 self m_impl_coreShape_A1 (d0.kids.length+1) 1 1 0) else some (0,0,false)))
noncomputable def m_impl_coreShape:Nat→DCore→Option (Int × Int × Bool)
  |0,_=>none
  |gas+1,d0=>m_impl_coreShape_R (m_impl_coreShape gas) d0
set_option maxHeartbeats 2000000 in
theorem c_m_impl_coreShape :∀(gas:Nat) (d0:DCore) (r:Int × Int × Bool) (hm:m_impl_coreShape gas d0=some r) (v0:Value) (w:World) (hv0:St coreRd w v0 d0),
    Calls Tryz.prog 250 #[v0] w fun e w'=>e=.returned (.tuple #[.int .i64 r.1,.int .i64 r.2.1,.bool r.2.2])∧Below w.heap.size w w':=by
  intro gas
  induction gas with
  |zero=>
   intro d0 r hm v0 w hv0
   cases hm
  |succ gas ih=>
   intro d0 r hm v0 w hv0
   obtain ⟨csa0,rfl,hRR0⟩:=hv0
   obtain ⟨A1,n1,c1,A2,n2,c2,rfl,⟨h1,r1⟩,⟨h2,r2⟩⟩:=(coreRd_out hRR0)
   have e1:=h1.len; subst e1
   have q1:=len_le r1
   have e2:=h2.len; subst e2
   have q2:=len_le r2
   have T:=Below.refl w.heap.size w
   obtain ⟨self,hself,hm⟩ :∃s,s=m_impl_coreShape gas∧m_impl_coreShape_R s d0=some r:=⟨_,rfl,hm⟩
   unfold m_impl_coreShape_R at hm
   refine enter 38 Tryz.func250 rfl rfl rfl ?_
   intro f hf
   have s0:f 0=.agg #[.int .i64 d0.kind,.int .i64 d0.value,.slice A1 d0.data.length c1,.slice A2 d0.kids.length c2]:=hf 0 _ rfl
   refine wp_seq<|wp_rl rfl ?_
   refine RL.box rfl s0 (fun w3 B4 hb5 szw3=>?_)
   replace B4:Blk w3 w.heap.size 78 #[.int .i64 d0.kind,.int .i64 d0.value,.slice A1 d0.data.length c1,.slice A2 d0.kids.length c2]:=B4
   have GB4:w.heap.size≤w.heap.size:=T.size
   have T:=Tt T hb5
   refine RL.y rfl (Y.assign (v:=.int .i64 0) rfl)<|RL.y rfl (Y.assign (v:=.int .i64 0) rfl)<|RL.y rfl (Y.assign (v:=.bool false) rfl)<|RL.nil<|then_n<|wp_seq<|wp_seq<|wp_rb rfl<|RQ.y rfl (Y.loadN (cs:=[.int .i64 d0.kind,.int .i64 d0.value,.slice A1 d0.data.length c1,.slice A2 d0.kids.length c2]) rfl (by kernel_rfl) (cells4 (beC (blkCell B4 (i:=0) rfl)) (beC (blkCell B4 (i:=1) rfl)) (beC (blkCell B4 (i:=2) rfl)) (beC (blkCell B4 (i:=3) rfl)))) ?_
   obtain ⟨y7,e8,hm⟩:=bnd hm
   refine RQ.call rfl (am1 rfl) (by kernel_rfl) (v:=.bool y7) (bel (K:=fun _=>True) fun w' hb'=>(c_m_impl_validCoreNode d0 _ e8 _ w' (stArg (R:=coreRd) (coreRd_in ⟨_,_,_,_,_,_,rfl,⟨SlAt.now intRd_ok h1 (Nat.le_refl _) (Tt T hb'),r1⟩,⟨SlAt.now coreRd_ok h2 (Nat.le_refl _) (Tt T hb'),r2⟩⟩))))<|RQ.y rfl (Y.not (b':=(!y7)) rfl rfl)<|RQ.nil ?_
   intro w9 hb10
   have szw9:=hb10.size
   have B4:=blkT B4 hb10
   have T:=Tt T hb10
   refine then_n ?_
   rcases bcases y7 with c11|c11
   ·replace hm:=cF c11 hm
    refine cond_t rfl (vbn rfl c11 rfl)<|wp_seq<|wp_rs rfl<|RQ.y rfl (Y.assign (v:=.int .i64 0) rfl)<|RQ.y rfl (Y.assign (v:=.int .i64 0) rfl)<|RQ.y rfl (Y.assign (v:=.bool false) rfl)<|RQ.nil<|then_n<|wp_ret ?_
    obtain rfl:=sj hm
    exact (then_r (ret3 rfl rfl rfl rfl rfl ⟨rfl,T⟩))
   replace hm:=cT c11 hm
   refine cond_f rfl (vbn rfl c11 rfl)<|wp_skip<|then_n<|wp_seq<|wp_rs rfl<|RQ.y rfl (Y.assign (v:=.int .i64 1) rfl)<|RQ.y rfl (Y.assign (v:=.int .i64 1) rfl)<|RQ.nil<|then_n<|wp_seq<|wp_seq<|wp_rs rfl<|RQ.y rfl (Y.fieldAddr (off:=3) rfl (by kernel_rfl))<|RQ.y rfl (Y.load (v:=.slice A2 d0.kids.length c2) rfl (by kernel_rfl) (eqC (blkCell B4 (i:=3) rfl)))<|RQ.y rfl (Y.len (by kernel_rfl) rfl)<|RQ.y rfl (Y.move (v:=.int .i64 0) rfl)<|RQ.nil<|then_n<|wp_block ?_
   obtain ⟨K1,hK1,hm⟩ :∃K,K=m_impl_coreShape_A1∧m_impl_coreShape_L1 d0 self K (d0.kids.length+1) 1 1 0=some r:=⟨_,rfl,hm⟩
   refine wp_loopX (fun g f w'=>∃(i15:Int) (i16:Int) (i17:Int),f 14=.slice A2 d0.kids.length c2∧f 15=.int .i64 (d0.kids.length:Int)∧f 2=.int .i64 i15∧f 3=.int .i64 i16∧f 16=.int .i64 i17∧0≤i17∧Below w.heap.size w w'∧m_impl_coreShape_L1 d0 self K1 g i15 i16 i17=some r) 0 (fun f w'=>∃(i12:Int) (i13:Int),f 2=.int .i64 i12∧f 3=.int .i64 i13∧Below w.heap.size w w'∧m_impl_coreShape_A1 i12 i13=some r) (d0.kids.length+1) ⟨1,1,0,rfl,rfl,rfl,rfl,rfl,(by omega),T,hm⟩ ?_ ?_
   ·rintro f w14 ⟨i12,i13,s2_1x,s3_1x,T,hm⟩
    unfold m_impl_coreShape_A1 at hm
    refine blk_hit (then_n ?_)
    refine wp_seq<|wp_rs rfl<|RQ.y rfl (Y.move (v:=.int .i64 i12) s2_1x)<|RQ.y rfl (Y.move (v:=.int .i64 i13) s3_1x)<|RQ.y rfl (Y.assign (v:=.int .i64 i12) rfl)<|RQ.y rfl (Y.assign (v:=.int .i64 i13) rfl)<|RQ.y rfl (Y.assign (v:=.bool true) rfl)<|RQ.nil<|then_n<|wp_ret ?_
    obtain rfl:=sj hm
    exact (ret3 rfl rfl rfl rfl rfl ⟨rfl,T⟩)
   rintro g f w18 ⟨i15,i16,i17,s14_1,s15_1,s2_1,s3_1,s16_1,nn16_1,T,hm⟩
   rcases g with _|g
   ·simp only [m_impl_coreShape_L1] at hm; cases hm
   obtain ⟨rec1,hrec1,hm⟩ :∃z,z=m_impl_coreShape_L1 d0 self K1 g∧m_impl_coreShape_B1 d0 self z K1 i15 i16 i17=some r:=⟨_,rfl,hm⟩
   unfold m_impl_coreShape_B1 at hm
   refine wp_seq<|wp_rs rfl<|RQ.y rfl (Y.binI (v:=.bool (decide (i17 < (d0.kids.length:Int)))) s16_1 s15_1 rfl)<|RQ.nil<|then_n<|wp_seq ?_
   rcases bcases (decide (i17 < (d0.kids.length:Int))) with c19|c19
   ·replace hm:=cF c19 hm
    have pc19:=of_decide_eq_false c19
    refine cond_f rfl (vb rfl c19)<|wp_exit ?_
    exact (then_x (then_x (hit_x ⟨_,rfl,⟨i15,i16,s2_1,s3_1,T,(by rw [hK1] at hm; exact hm)⟩⟩)))
   replace hm:=cT c19 hm
   have pc19:=of_decide_eq_true c19
   refine cond_t rfl (vb rfl c19)<|wp_skip<|then_n<|wp_seq<|wp_block<|wp_seq<|wp_rl rfl ?_
   obtain ⟨x20,hx23,hm⟩:=bnd hm
   obtain ⟨k21,hk24,hl25,hx23⟩:=getI_some hx23
   obtain ⟨b27,o28,rfl,hbb27⟩:=h2.addr (by omega)
   obtain ⟨cs22,hRcs22,hc26⟩:=h2.el hx23
   have hScs22:=hRcs22
   obtain ⟨A29,n29,c29,A30,n30,c30,rfl,⟨h29,r29⟩,⟨h30,r30⟩⟩:=(coreRd_out hRcs22)
   have e29:=h29.len; subst e29
   have q29:=len_le r29
   have e30:=h30.len; subst e30
   have q30:=len_le r30
   refine RL.y rfl (Y.indexAddr (m:=k21) (sz:=4) s14_1 s16_1 hk24 hl25 (by kernel_rfl))<|RL.y rfl (Y.loadN (cs:=[.int .i64 x20.kind,.int .i64 x20.value,.slice A29 x20.data.length c29,.slice A30 x20.kids.length c30]) rfl (by kernel_rfl) (cells4 (eqC (cellT T (hc26 0 _ rfl))) (eqC (cellT T (hc26 1 _ rfl))) (eqC (cellT T (hc26 2 _ rfl))) (eqC (cellT T (hc26 3 _ rfl))))) ?_
   refine RL.alloc (z:=.agg #[.int .i64 0,.int .i64 0,.slice none 0 0,.slice none 0 0]) rfl (by kernel_rfl) (fun w31 B32 hb33 szw31=>?_)
   replace B32:Blk w31 w18.heap.size 78 #[.int .i64 0,.int .i64 0,.slice none 0 0,.slice none 0 0]:=B32
   have GB32:w.heap.size≤w18.heap.size:=T.size
   have T:=Tt T hb33
   refine RL.store (v:=.agg #[.int .i64 x20.kind,.int .i64 x20.value,.slice A29 x20.data.length c29,.slice A30 x20.kids.length c30]) (cs':=#[.int .i64 x20.kind,.int .i64 x20.value,.slice A29 x20.data.length c29,.slice A30 x20.kids.length c30]) rfl rfl rfl B32 (by kernel_rfl) (by rfl) (by rfl) (by rfl) (fun w35 B36 ho37=>?_)
   have szw35:=ho37.size
   have T:=T.trans (ho37.below (by first|(simp; done)|(simp; omega)))
   refine RL.nil<|then_n<|wp_seq<|wp_rb rfl<|RQ.y rfl (Y.loadN (cs:=[.int .i64 x20.kind,.int .i64 x20.value,.slice A29 x20.data.length c29,.slice A30 x20.kids.length c30]) rfl (by kernel_rfl) (cells4 (beC (blkCell B36 (i:=0) rfl)) (beC (blkCell B36 (i:=1) rfl)) (beC (blkCell B36 (i:=2) rfl)) (beC (blkCell B36 (i:=3) rfl)))) ?_
   obtain ⟨y38,e39,hm⟩:=bnd hm
   refine RQ.call rfl (am1 rfl) (by kernel_rfl) (v:=.tuple #[.int .i64 y38.1,.int .i64 y38.2.1,.bool y38.2.2]) (bel (K:=fun _=>True) fun w' hb'=>(ih x20 _ (by rw [← hself]; exact e39) _ w' (stArg (R:=coreRd) (coreRd_in ⟨_,_,_,_,_,_,rfl,⟨SlAt.now intRd_ok h29 (Nat.le_refl _) (Tt T hb'),r29⟩,⟨SlAt.now coreRd_ok h30 (Nat.le_refl _) (Tt T hb'),r30⟩⟩))))<|RQ.y rfl (Y.move (v:=.tuple #[.int .i64 y38.1,.int .i64 y38.2.1,.bool y38.2.2]) rfl)<|RQ.y rfl (Y.extract (i:=0) rfl rfl)<|RQ.y rfl (Y.extract (i:=1) rfl rfl)<|RQ.y rfl (Y.extract (i:=2) rfl rfl)<|RQ.y rfl (Y.assign (v:=.int .i64 y38.1) rfl)<|RQ.y rfl (Y.assign (v:=.int .i64 y38.2.1) rfl)<|RQ.y rfl (Y.assign (v:=.bool y38.2.2) rfl)<|RQ.nil ?_
   intro w40 hb41
   have szw40:=hb41.size
   have T:=Tt T hb41
   refine then_n<|wp_seq<|wp_seq<|wp_rs rfl<|RQ.y rfl (Y.move (v:=.bool y38.2.2) rfl)<|RQ.y rfl (Y.not (b':=(!y38.2.2)) rfl rfl)<|RQ.nil<|then_n ?_
   rcases bcases y38.2.2 with c42|c42
   ·replace hm:=cF c42 hm
    refine cond_t rfl (vbn rfl c42 rfl)<|wp_seq<|wp_rs rfl<|RQ.y rfl (Y.assign (v:=.int .i64 0) rfl)<|RQ.y rfl (Y.assign (v:=.int .i64 0) rfl)<|RQ.y rfl (Y.assign (v:=.bool false) rfl)<|RQ.nil<|then_n<|wp_ret ?_
    obtain rfl:=sj hm
    exact (then_r (blk_r (then_r (then_r (hit_r (blk_r (then_r (ret3 rfl rfl rfl rfl rfl ⟨rfl,T⟩))))))))
   replace hm:=cT c42 hm
   refine cond_f rfl (vbn rfl c42 rfl)<|wp_skip<|then_n<|wp_rs rfl<|RQ.y rfl (Y.move (v:=.int .i64 i15) s2_1)<|RQ.y rfl (Y.move (v:=.int .i64 y38.1) rfl) ?_
   obtain ⟨s43,ks43,hm⟩:=bnd hm
   replace ks43:=ck_some ks43
   refine RQ.y rfl (Y.binI (v:=.int .i64 s43) rfl rfl (by rw [binI_add ks43.2,ks43.1]))<|RQ.y rfl (Y.max rfl rfl)<|RQ.y rfl (Y.move (v:=.int .i64 i16) s3_1)<|RQ.y rfl (Y.move (v:=.int .i64 y38.2.1) rfl) ?_
   obtain ⟨s44,ks44,hm⟩:=bnd hm
   replace ks44:=ck_some ks44
   refine RQ.y rfl (Y.binI (v:=.int .i64 s44) rfl rfl (by rw [binI_add ks44.2,ks44.1]))<|RQ.y rfl (Y.assign (v:=.int .i64 (if s43 > i15 then s43 else i15)) rfl)<|RQ.y rfl (Y.assign (v:=.int .i64 s44) rfl)<|RQ.nil ?_
   refine blk_n (then_n ?_)
   refine wp_rs rfl<|RQ.y rfl (Y.binI s16_1 rfl (binI_add (m:=i17) (by omega)))<|RQ.y rfl (Y.move (v:=.int .i64 (i17+1)) rfl)<|RQ.nil ?_
   exact (then_n ⟨g,_,Nat.lt_succ_self _,rfl,⟨(if s43 > i15 then s43 else i15),s44,(i17+1),s14_1,s15_1,rfl,rfl,rfl,(by omega),T,(by rw [← hrec1]; exact hm)⟩⟩)
noncomputable def m_impl_coreExtent_A1 (i7:Int) (i8:Int):Option (Int × Int):=
  some (i7,i8)
noncomputable def m_impl_coreExtent_B1 (d0:DCore) (self:DCore→Option (Int × Int)) (rec1:Int→Int→Int→Option (Int × Int)) (K1:Int→Int→Option (Int × Int)) (i10:Int) (i11:Int) (i12:Int):Option (Int × Int):=
  (bif (decide (i12 < (d0.kids.length:Int))) then ((getI d0.kids i12).bind fun x15=>((self x15).bind fun y33=>((ck (y33.1+1)).bind fun s37=>((ck (i11+y33.2)).bind fun s38=>(rec1 (if s37 > i10 then s37 else i10) s38 (i12+1)))))) else (K1 i10 i11))
noncomputable def m_impl_coreExtent_L1 (d0:DCore) (self:DCore→Option (Int × Int)) (K1:Int→Int→Option (Int × Int)):Nat→Int→Int→Int→Option (Int × Int)
  |0,_,_,_=>none
  |g+1,i10,i11,i12=>m_impl_coreExtent_B1 d0 self (m_impl_coreExtent_L1 d0 self K1 g) K1 i10 i11 i12
noncomputable def m_impl_coreExtent_R (self:DCore→Option (Int × Int)) (d0:DCore):Option (Int × Int):=
  (m_impl_coreExtent_L1 d0 self m_impl_coreExtent_A1 (d0.kids.length+1) 1 1 0)
noncomputable def m_impl_coreExtent:Nat→DCore→Option (Int × Int)
  |0,_=>none
  |gas+1,d0=>m_impl_coreExtent_R (m_impl_coreExtent gas) d0
set_option maxHeartbeats 2000000 in
theorem c_m_impl_coreExtent :∀(gas:Nat) (d0:DCore) (r:Int × Int) (hm:m_impl_coreExtent gas d0=some r) (v0:Value) (w:World) (hv0:St coreRd w v0 d0),
    Calls Tryz.prog 270 #[v0] w fun e w'=>e=.returned (.tuple #[.int .i64 r.1,.int .i64 r.2])∧Below w.heap.size w w':=by
  intro gas
  induction gas with
  |zero=>
   intro d0 r hm v0 w hv0
   cases hm
  |succ gas ih=>
   intro d0 r hm v0 w hv0
   obtain ⟨csa0,rfl,hRR0⟩:=hv0
   obtain ⟨A1,n1,c1,A2,n2,c2,rfl,⟨h1,r1⟩,⟨h2,r2⟩⟩:=(coreRd_out hRR0)
   have e1:=h1.len; subst e1
   have q1:=len_le r1
   have e2:=h2.len; subst e2
   have q2:=len_le r2
   have T:=Below.refl w.heap.size w
   obtain ⟨self,hself,hm⟩ :∃s,s=m_impl_coreExtent gas∧m_impl_coreExtent_R s d0=some r:=⟨_,rfl,hm⟩
   unfold m_impl_coreExtent_R at hm
   refine enter 30 Tryz.func270 rfl rfl rfl ?_
   intro f hf
   have s0:f 0=.agg #[.int .i64 d0.kind,.int .i64 d0.value,.slice A1 d0.data.length c1,.slice A2 d0.kids.length c2]:=hf 0 _ rfl
   refine wp_seq<|wp_rl rfl ?_
   refine RL.box rfl s0 (fun w3 B4 hb5 szw3=>?_)
   replace B4:Blk w3 w.heap.size 78 #[.int .i64 d0.kind,.int .i64 d0.value,.slice A1 d0.data.length c1,.slice A2 d0.kids.length c2]:=B4
   have GB4:w.heap.size≤w.heap.size:=T.size
   have T:=Tt T hb5
   refine RL.y rfl (Y.assign (v:=.int .i64 0) rfl)<|RL.y rfl (Y.assign (v:=.int .i64 0) rfl)<|RL.nil<|then_n<|wp_seq<|wp_rs rfl<|RQ.y rfl (Y.assign (v:=.int .i64 1) rfl)<|RQ.y rfl (Y.assign (v:=.int .i64 1) rfl)<|RQ.nil<|then_n<|wp_seq<|wp_seq<|wp_rs rfl<|RQ.y rfl (Y.fieldAddr (off:=3) rfl (by kernel_rfl))<|RQ.y rfl (Y.load (v:=.slice A2 d0.kids.length c2) rfl (by kernel_rfl) (eqC (blkCell B4 (i:=3) rfl)))<|RQ.y rfl (Y.len (by kernel_rfl) rfl)<|RQ.y rfl (Y.move (v:=.int .i64 0) rfl)<|RQ.nil<|then_n<|wp_block ?_
   obtain ⟨K1,hK1,hm⟩ :∃K,K=m_impl_coreExtent_A1∧m_impl_coreExtent_L1 d0 self K (d0.kids.length+1) 1 1 0=some r:=⟨_,rfl,hm⟩
   refine wp_loopX (fun g f w'=>∃(i10:Int) (i11:Int) (i12:Int),f 9=.slice A2 d0.kids.length c2∧f 10=.int .i64 (d0.kids.length:Int)∧f 2=.int .i64 i10∧f 3=.int .i64 i11∧f 11=.int .i64 i12∧0≤i12∧Below w.heap.size w w'∧m_impl_coreExtent_L1 d0 self K1 g i10 i11 i12=some r) 0 (fun f w'=>∃(i7:Int) (i8:Int),f 2=.int .i64 i7∧f 3=.int .i64 i8∧Below w.heap.size w w'∧m_impl_coreExtent_A1 i7 i8=some r) (d0.kids.length+1) ⟨1,1,0,rfl,rfl,rfl,rfl,rfl,(by omega),T,hm⟩ ?_ ?_
   ·rintro f w9 ⟨i7,i8,s2_1x,s3_1x,T,hm⟩
    unfold m_impl_coreExtent_A1 at hm
    refine blk_hit (then_n ?_)
    refine wp_seq<|wp_rs rfl<|RQ.y rfl (Y.move (v:=.int .i64 i7) s2_1x)<|RQ.y rfl (Y.move (v:=.int .i64 i8) s3_1x)<|RQ.y rfl (Y.assign (v:=.int .i64 i7) rfl)<|RQ.y rfl (Y.assign (v:=.int .i64 i8) rfl)<|RQ.nil<|then_n<|wp_ret ?_
    obtain rfl:=sj hm
    exact (ret2 rfl rfl rfl rfl ⟨rfl,T⟩)
   rintro g f w13 ⟨i10,i11,i12,s9_1,s10_1,s2_1,s3_1,s11_1,nn11_1,T,hm⟩
   rcases g with _|g
   ·simp only [m_impl_coreExtent_L1] at hm; cases hm
   obtain ⟨rec1,hrec1,hm⟩ :∃z,z=m_impl_coreExtent_L1 d0 self K1 g∧m_impl_coreExtent_B1 d0 self z K1 i10 i11 i12=some r:=⟨_,rfl,hm⟩
   unfold m_impl_coreExtent_B1 at hm
   refine wp_seq<|wp_rs rfl<|RQ.y rfl (Y.binI (v:=.bool (decide (i12 < (d0.kids.length:Int)))) s11_1 s10_1 rfl)<|RQ.nil<|then_n<|wp_seq ?_
   rcases bcases (decide (i12 < (d0.kids.length:Int))) with c14|c14
   ·replace hm:=cF c14 hm
    have pc14:=of_decide_eq_false c14
    refine cond_f rfl (vb rfl c14)<|wp_exit ?_
    exact (then_x (then_x (hit_x ⟨_,rfl,⟨i10,i11,s2_1,s3_1,T,(by rw [hK1] at hm; exact hm)⟩⟩)))
   replace hm:=cT c14 hm
   have pc14:=of_decide_eq_true c14
   refine cond_t rfl (vb rfl c14)<|wp_skip<|then_n<|wp_seq<|wp_block<|wp_seq<|wp_rl rfl ?_
   obtain ⟨x15,hx18,hm⟩:=bnd hm
   obtain ⟨k16,hk19,hl20,hx18⟩:=getI_some hx18
   obtain ⟨b22,o23,rfl,hbb22⟩:=h2.addr (by omega)
   obtain ⟨cs17,hRcs17,hc21⟩:=h2.el hx18
   have hScs17:=hRcs17
   obtain ⟨A24,n24,c24,A25,n25,c25,rfl,⟨h24,r24⟩,⟨h25,r25⟩⟩:=(coreRd_out hRcs17)
   have e24:=h24.len; subst e24
   have q24:=len_le r24
   have e25:=h25.len; subst e25
   have q25:=len_le r25
   refine RL.y rfl (Y.indexAddr (m:=k16) (sz:=4) s9_1 s11_1 hk19 hl20 (by kernel_rfl))<|RL.y rfl (Y.loadN (cs:=[.int .i64 x15.kind,.int .i64 x15.value,.slice A24 x15.data.length c24,.slice A25 x15.kids.length c25]) rfl (by kernel_rfl) (cells4 (eqC (cellT T (hc21 0 _ rfl))) (eqC (cellT T (hc21 1 _ rfl))) (eqC (cellT T (hc21 2 _ rfl))) (eqC (cellT T (hc21 3 _ rfl))))) ?_
   refine RL.alloc (z:=.agg #[.int .i64 0,.int .i64 0,.slice none 0 0,.slice none 0 0]) rfl (by kernel_rfl) (fun w26 B27 hb28 szw26=>?_)
   replace B27:Blk w26 w13.heap.size 78 #[.int .i64 0,.int .i64 0,.slice none 0 0,.slice none 0 0]:=B27
   have GB27:w.heap.size≤w13.heap.size:=T.size
   have T:=Tt T hb28
   refine RL.store (v:=.agg #[.int .i64 x15.kind,.int .i64 x15.value,.slice A24 x15.data.length c24,.slice A25 x15.kids.length c25]) (cs':=#[.int .i64 x15.kind,.int .i64 x15.value,.slice A24 x15.data.length c24,.slice A25 x15.kids.length c25]) rfl rfl rfl B27 (by kernel_rfl) (by rfl) (by rfl) (by rfl) (fun w30 B31 ho32=>?_)
   have szw30:=ho32.size
   have T:=T.trans (ho32.below (by first|(simp; done)|(simp; omega)))
   refine RL.nil<|then_n<|wp_seq<|wp_rb rfl<|RQ.y rfl (Y.loadN (cs:=[.int .i64 x15.kind,.int .i64 x15.value,.slice A24 x15.data.length c24,.slice A25 x15.kids.length c25]) rfl (by kernel_rfl) (cells4 (beC (blkCell B31 (i:=0) rfl)) (beC (blkCell B31 (i:=1) rfl)) (beC (blkCell B31 (i:=2) rfl)) (beC (blkCell B31 (i:=3) rfl)))) ?_
   obtain ⟨y33,e34,hm⟩:=bnd hm
   refine RQ.call rfl (am1 rfl) (by kernel_rfl) (v:=.tuple #[.int .i64 y33.1,.int .i64 y33.2]) (bel (K:=fun _=>True) fun w' hb'=>(ih x15 _ (by rw [← hself]; exact e34) _ w' (stArg (R:=coreRd) (coreRd_in ⟨_,_,_,_,_,_,rfl,⟨SlAt.now intRd_ok h24 (Nat.le_refl _) (Tt T hb'),r24⟩,⟨SlAt.now coreRd_ok h25 (Nat.le_refl _) (Tt T hb'),r25⟩⟩))))<|RQ.y rfl (Y.move (v:=.tuple #[.int .i64 y33.1,.int .i64 y33.2]) rfl)<|RQ.y rfl (Y.extract (i:=0) rfl rfl)<|RQ.y rfl (Y.extract (i:=1) rfl rfl)<|RQ.y rfl (Y.assign (v:=.int .i64 y33.1) rfl)<|RQ.y rfl (Y.assign (v:=.int .i64 y33.2) rfl)<|RQ.nil ?_
   intro w35 hb36
   have szw35:=hb36.size
   have T:=Tt T hb36
   refine then_n<|wp_rs rfl<|RQ.y rfl (Y.move (v:=.int .i64 i10) s2_1)<|RQ.y rfl (Y.move (v:=.int .i64 y33.1) rfl) ?_
   obtain ⟨s37,ks37,hm⟩:=bnd hm
   replace ks37:=ck_some ks37
   refine RQ.y rfl (Y.binI (v:=.int .i64 s37) rfl rfl (by rw [binI_add ks37.2,ks37.1]))<|RQ.y rfl (Y.max rfl rfl)<|RQ.y rfl (Y.move (v:=.int .i64 i11) s3_1)<|RQ.y rfl (Y.move (v:=.int .i64 y33.2) rfl) ?_
   obtain ⟨s38,ks38,hm⟩:=bnd hm
   replace ks38:=ck_some ks38
   refine RQ.y rfl (Y.binI (v:=.int .i64 s38) rfl rfl (by rw [binI_add ks38.2,ks38.1]))<|RQ.y rfl (Y.assign (v:=.int .i64 (if s37 > i10 then s37 else i10)) rfl)<|RQ.y rfl (Y.assign (v:=.int .i64 s38) rfl)<|RQ.nil ?_
   refine blk_n (then_n ?_)
   refine wp_rs rfl<|RQ.y rfl (Y.binI s11_1 rfl (binI_add (m:=i12) (by omega)))<|RQ.y rfl (Y.move (v:=.int .i64 (i12+1)) rfl)<|RQ.nil ?_
   exact (then_n ⟨g,_,Nat.lt_succ_self _,rfl,⟨(if s37 > i10 then s37 else i10),s38,(i12+1),s9_1,s10_1,rfl,rfl,rfl,(by omega),T,(by rw [← hrec1]; exact hm)⟩⟩)
noncomputable def m_impl_coreFits (d0:DCore):Option Bool:=
  ((m_impl_coreExtent (SizeOf.sizeOf d0) d0).bind fun y7=>(bif (decide (y7.1≤80)) then some (decide (y7.2≤400)) else some false))
set_option maxHeartbeats 2000000 in
theorem c_m_impl_coreFits (d0:DCore) (r:Bool) (hm:m_impl_coreFits d0=some r) (v0:Value) (w:World) (hv0:St coreRd w v0 d0) :
    Calls Tryz.prog 251 #[v0] w fun e w'=>e=.returned (.bool r)∧Below w.heap.size w w':=by
  obtain ⟨csa0,rfl,hRR0⟩:=hv0
  obtain ⟨A1,n1,c1,A2,n2,c2,rfl,⟨h1,r1⟩,⟨h2,r2⟩⟩:=(coreRd_out hRR0)
  have e1:=h1.len; subst e1
  have q1:=len_le r1
  have e2:=h2.len; subst e2
  have q2:=len_le r2
  have T:=Below.refl w.heap.size w
  unfold m_impl_coreFits at hm
  refine enter 16 Tryz.func251 rfl rfl rfl ?_
  intro f hf
  have s0:f 0=.agg #[.int .i64 d0.kind,.int .i64 d0.value,.slice A1 d0.data.length c1,.slice A2 d0.kids.length c2]:=hf 0 _ rfl
  refine wp_seq<|wp_rl rfl ?_
  refine RL.box rfl s0 (fun w3 B4 hb5 szw3=>?_)
  replace B4:Blk w3 w.heap.size 78 #[.int .i64 d0.kind,.int .i64 d0.value,.slice A1 d0.data.length c1,.slice A2 d0.kids.length c2]:=B4
  have GB4:w.heap.size≤w.heap.size:=T.size
  have T:=Tt T hb5
  refine RL.y rfl (Y.assign (v:=.bool false) rfl)<|RL.nil<|then_n<|wp_seq<|wp_rb rfl<|RQ.y rfl (Y.loadN (cs:=[.int .i64 d0.kind,.int .i64 d0.value,.slice A1 d0.data.length c1,.slice A2 d0.kids.length c2]) rfl (by kernel_rfl) (cells4 (beC (blkCell B4 (i:=0) rfl)) (beC (blkCell B4 (i:=1) rfl)) (beC (blkCell B4 (i:=2) rfl)) (beC (blkCell B4 (i:=3) rfl)))) ?_
  obtain ⟨y7,e8,hm⟩:=bnd hm
  refine RQ.call rfl (am1 rfl) (by kernel_rfl) (v:=.tuple #[.int .i64 y7.1,.int .i64 y7.2]) (bel (K:=fun _=>True) fun w' hb'=>(c_m_impl_coreExtent (SizeOf.sizeOf d0) d0 _ e8 _ w' (stArg (R:=coreRd) (coreRd_in ⟨_,_,_,_,_,_,rfl,⟨SlAt.now intRd_ok h1 (Nat.le_refl _) (Tt T hb'),r1⟩,⟨SlAt.now coreRd_ok h2 (Nat.le_refl _) (Tt T hb'),r2⟩⟩))))<|RQ.y rfl (Y.move (v:=.tuple #[.int .i64 y7.1,.int .i64 y7.2]) rfl)<|RQ.y rfl (Y.extract (i:=0) rfl rfl)<|RQ.y rfl (Y.extract (i:=1) rfl rfl)<|RQ.y rfl (Y.assign (v:=.int .i64 y7.1) rfl)<|RQ.y rfl (Y.assign (v:=.int .i64 y7.2) rfl)<|RQ.nil ?_
  intro w9 hb10
  have szw9:=hb10.size
  have T:=Tt T hb10
  refine then_n<|wp_seq<|wp_rs rfl<|RQ.y rfl (Y.move (v:=.int .i64 y7.1) rfl)<|RQ.y rfl (Y.binI (v:=.bool (decide (y7.1≤80))) rfl rfl rfl)<|RQ.y rfl (Y.move (v:=.bool (decide (y7.1≤80))) rfl) ?_
  rcases bcases (decide (y7.1≤80)) with c11|c11
  ·replace hm:=cF c11 hm
   have pc11:=of_decide_eq_false c11
   refine RQ.skip (wantN (dj:=12) rfl (vb rfl c11) rfl)<|RQ.skip (wantN (dj:=12) rfl (vb rfl c11) rfl)<|RQ.y rfl (Y.pick (b:=false) (v:=.bool false) (vb rfl c11) rfl)<|RQ.y rfl (Y.assign (v:=.bool false) rfl)<|RQ.nil<|then_n<|wp_ret ?_
   obtain rfl:=sj hm
   exact (ret1 rfl rfl rfl ⟨rfl,T⟩)
  replace hm:=cT c11 hm
  have pc11:=of_decide_eq_true c11
  refine RQ.y (wantT (dj:=12) rfl (vb rfl c11)) (Y.move (v:=.int .i64 y7.2) rfl)<|RQ.y (wantT (dj:=12) rfl (vb rfl c11)) (Y.binI (v:=.bool (decide (y7.2≤400))) rfl rfl rfl)<|RQ.y rfl (Y.pick (b:=true) (v:=.bool (decide (y7.2≤400))) (vb rfl c11) rfl)<|RQ.y rfl (Y.assign (v:=.bool (decide (y7.2≤400))) rfl)<|RQ.nil<|then_n<|wp_ret ?_
  obtain rfl:=sj hm
  exact (ret1 rfl rfl rfl ⟨rfl,T⟩)
noncomputable def m_impl_ValidCore (d0:DCore):Option Bool:=
  ((m_impl_coreShape (SizeOf.sizeOf d0) d0).bind fun y7=>(bif y7.2.2 then ((m_impl_coreFits d0).bind fun y14=>some y14) else some false))
set_option maxHeartbeats 2000000 in
theorem c_m_impl_ValidCore (d0:DCore) (r:Bool) (hm:m_impl_ValidCore d0=some r) (v0:Value) (w:World) (hv0:St coreRd w v0 d0) :
    Calls Tryz.prog 222 #[v0] w fun e w'=>e=.returned (.bool r)∧Below w.heap.size w w':=by
  obtain ⟨csa0,rfl,hRR0⟩:=hv0
  obtain ⟨A1,n1,c1,A2,n2,c2,rfl,⟨h1,r1⟩,⟨h2,r2⟩⟩:=(coreRd_out hRR0)
  have e1:=h1.len; subst e1
  have q1:=len_le r1
  have e2:=h2.len; subst e2
  have q2:=len_le r2
  have T:=Below.refl w.heap.size w
  unfold m_impl_ValidCore at hm
  refine enter 17 Tryz.func222 rfl rfl rfl ?_
  intro f hf
  have s0:f 0=.agg #[.int .i64 d0.kind,.int .i64 d0.value,.slice A1 d0.data.length c1,.slice A2 d0.kids.length c2]:=hf 0 _ rfl
  refine wp_seq<|wp_rl rfl ?_
  refine RL.box rfl s0 (fun w3 B4 hb5 szw3=>?_)
  replace B4:Blk w3 w.heap.size 78 #[.int .i64 d0.kind,.int .i64 d0.value,.slice A1 d0.data.length c1,.slice A2 d0.kids.length c2]:=B4
  have GB4:w.heap.size≤w.heap.size:=T.size
  have T:=Tt T hb5
  refine RL.y rfl (Y.assign (v:=.bool false) rfl)<|RL.nil<|then_n<|wp_seq<|wp_rb rfl<|RQ.y rfl (Y.loadN (cs:=[.int .i64 d0.kind,.int .i64 d0.value,.slice A1 d0.data.length c1,.slice A2 d0.kids.length c2]) rfl (by kernel_rfl) (cells4 (beC (blkCell B4 (i:=0) rfl)) (beC (blkCell B4 (i:=1) rfl)) (beC (blkCell B4 (i:=2) rfl)) (beC (blkCell B4 (i:=3) rfl)))) ?_
  obtain ⟨y7,e8,hm⟩:=bnd hm
  refine RQ.call rfl (am1 rfl) (by kernel_rfl) (v:=.tuple #[.int .i64 y7.1,.int .i64 y7.2.1,.bool y7.2.2]) (bel (K:=fun _=>True) fun w' hb'=>(c_m_impl_coreShape (SizeOf.sizeOf d0) d0 _ e8 _ w' (stArg (R:=coreRd) (coreRd_in ⟨_,_,_,_,_,_,rfl,⟨SlAt.now intRd_ok h1 (Nat.le_refl _) (Tt T hb'),r1⟩,⟨SlAt.now coreRd_ok h2 (Nat.le_refl _) (Tt T hb'),r2⟩⟩))))<|RQ.y rfl (Y.move (v:=.tuple #[.int .i64 y7.1,.int .i64 y7.2.1,.bool y7.2.2]) rfl)<|RQ.y rfl (Y.extract (i:=0) rfl rfl)<|RQ.y rfl (Y.extract (i:=1) rfl rfl)<|RQ.y rfl (Y.extract (i:=2) rfl rfl)<|RQ.y rfl (Y.assign (v:=.int .i64 y7.1) rfl)<|RQ.y rfl (Y.assign (v:=.int .i64 y7.2.1) rfl)<|RQ.y rfl (Y.assign (v:=.bool y7.2.2) rfl)<|RQ.nil ?_
  intro w9 hb10
  have szw9:=hb10.size
  have B4:=blkT B4 hb10
  have T:=Tt T hb10
  refine then_n<|wp_seq<|wp_rb rfl<|RQ.y rfl (Y.move (v:=.bool y7.2.2) rfl)<|RQ.y rfl (Y.move (v:=.bool y7.2.2) rfl) ?_
  rcases bcases y7.2.2 with c11|c11
  ·replace hm:=cF c11 hm
   refine RQ.skip (wantN (dj:=13) rfl (vb rfl c11) rfl)<|RQ.skip (wantN (dj:=13) rfl (vb rfl c11) rfl)<|RQ.y rfl (Y.pick (b:=false) (v:=.bool false) (vb rfl c11) rfl)<|RQ.y rfl (Y.assign (v:=.bool false) rfl)<|RQ.nil ?_
   intro w12 hb13
   have szw12:=hb13.size
   have T:=Tt T hb13
   refine then_n<|wp_ret ?_
   obtain rfl:=sj hm
   exact (ret1 rfl rfl rfl ⟨rfl,T⟩)
  replace hm:=cT c11 hm
  refine RQ.y (wantT (dj:=13) rfl (vb rfl c11)) (Y.loadN (cs:=[.int .i64 d0.kind,.int .i64 d0.value,.slice A1 d0.data.length c1,.slice A2 d0.kids.length c2]) rfl (by kernel_rfl) (cells4 (beC (blkCell B4 (i:=0) rfl)) (beC (blkCell B4 (i:=1) rfl)) (beC (blkCell B4 (i:=2) rfl)) (beC (blkCell B4 (i:=3) rfl)))) ?_
  obtain ⟨y14,e15,hm⟩:=bnd hm
  refine RQ.call (wantT (dj:=13) rfl (vb rfl c11)) (am1 rfl) (by kernel_rfl) (v:=.bool y14) (bel (K:=fun _=>True) fun w' hb'=>(c_m_impl_coreFits d0 _ e15 _ w' (stArg (R:=coreRd) (coreRd_in ⟨_,_,_,_,_,_,rfl,⟨SlAt.now intRd_ok h1 (Nat.le_refl _) (Tt T hb'),r1⟩,⟨SlAt.now coreRd_ok h2 (Nat.le_refl _) (Tt T hb'),r2⟩⟩))))<|RQ.y rfl (Y.pick (b:=true) (v:=.bool y14) (vb rfl c11) rfl)<|RQ.y rfl (Y.assign (v:=.bool y14) rfl)<|RQ.nil ?_
  intro w16 hb17
  have szw16:=hb17.size
  have T:=Tt T hb17
  refine then_n<|wp_ret ?_
  obtain rfl:=sj hm
  exact (ret1 rfl rfl rfl ⟨rfl,T⟩)
noncomputable def m_slices_EqualFunc_impl_Core_impl_Core_impl_Core_impl_Core_A1:Option Bool:=
  some true
noncomputable def m_slices_EqualFunc_impl_Core_impl_Core_impl_Core_impl_Core_B1 (d0:List DCore) (d1:List DCore) (d2:DCore→DCore→Option Bool) (rec1:Int→Option Bool) (K1:Option Bool) (i3:Int):Option Bool:=
  (bif (decide (i3 < (d0.length:Int))) then ((getI d0 i3).bind fun x6=>((getI d1 i3).bind fun x24=>((d2 x6 x24).bind fun y42=>(bif y42 then (rec1 (i3+1)) else some false)))) else (K1))
noncomputable def m_slices_EqualFunc_impl_Core_impl_Core_impl_Core_impl_Core_L1 (d0:List DCore) (d1:List DCore) (d2:DCore→DCore→Option Bool) (K1:Option Bool):Nat→Int→Option Bool
  |0,_=>none
  |g+1,i3=>m_slices_EqualFunc_impl_Core_impl_Core_impl_Core_impl_Core_B1 d0 d1 d2 (m_slices_EqualFunc_impl_Core_impl_Core_impl_Core_impl_Core_L1 d0 d1 d2 K1 g) K1 i3
noncomputable def m_slices_EqualFunc_impl_Core_impl_Core_impl_Core_impl_Core (d0:List DCore) (d1:List DCore) (d2:DCore→DCore→Option Bool):Option Bool:=
  (bif ((d0.length:Int) != (d1.length:Int)) then some false else (m_slices_EqualFunc_impl_Core_impl_Core_impl_Core_impl_Core_L1 d0 d1 d2 m_slices_EqualFunc_impl_Core_impl_Core_impl_Core_impl_Core_A1 (d0.length+1) 0))
set_option maxHeartbeats 2000000 in
theorem c_m_slices_EqualFunc_impl_Core_impl_Core_impl_Core_impl_Core (d0:List DCore) (d1:List DCore) (d2:DCore→DCore→Option Bool) (r:Bool) (hm:m_slices_EqualFunc_impl_Core_impl_Core_impl_Core_impl_Core d0 d1 d2=some r) (v0:Value) (v1:Value) (gf2:FuncId) (caps2:Array Value) (w:World) (hv0:Sl coreRd 4 w v0 d0) (hv1:Sl coreRd 4 w v1 d1) (hgo2:isGo Tryz.prog gf2=true) (hf2 :∀(x0:DCore) (x1:DCore) (b:Bool),d2 x0 x1=some b→∀w1,Below w.heap.size w w1→∀y0,St coreRd w1 y0 x0→∀y1,St coreRd w1 y1 x1→Calls Tryz.prog gf2 (#[y0,y1] ++ caps2) w1 fun e w2=>e=.returned (.bool b)∧Below w1.heap.size w1 w2) :
    Calls Tryz.prog 255 #[v0,v1,.func (.func gf2) #[] caps2] w fun e w'=>e=.returned (.bool r)∧Below w.heap.size w w':=by
  obtain ⟨Aa0,na0,ca0,rfl,ha0,ra0⟩:=hv0
  have ea0:=ha0.len; subst ea0
  have qa0:=len_le ra0
  obtain ⟨Aa1,na1,ca1,rfl,ha1,ra1⟩:=hv1
  have ea1:=ha1.len; subst ea1
  have qa1:=len_le ra1
  have T:=Below.refl w.heap.size w
  unfold m_slices_EqualFunc_impl_Core_impl_Core_impl_Core_impl_Core at hm
  refine enter 32 Tryz.func255 rfl rfl rfl ?_
  intro f hf
  have s0:f 0=.slice Aa0 d0.length ca0:=hf 0 _ rfl
  have s1:f 1=.slice Aa1 d1.length ca1:=hf 1 _ rfl
  have s2:f 2=.func (.func gf2) #[] caps2:=hf 2 _ rfl
  refine wp_seq<|wp_rs rfl<|RQ.y rfl (Y.assign (v:=.bool false) rfl)<|RQ.nil<|then_n<|wp_seq<|wp_seq<|wp_rs rfl<|RQ.y rfl (Y.move (v:=.slice Aa0 d0.length ca0) s0)<|RQ.y rfl (Y.len (by kernel_rfl) rfl)<|RQ.y rfl (Y.move (v:=.slice Aa1 d1.length ca1) s1)<|RQ.y rfl (Y.len (by kernel_rfl) rfl)<|RQ.y rfl (Y.binI (v:=.bool ((d0.length:Int) != (d1.length:Int))) rfl rfl rfl)<|RQ.nil<|then_n ?_
  rcases bcases ((d0.length:Int) != (d1.length:Int)) with c1|c1
  ·replace hm:=cF c1 hm
   refine cond_f rfl (vb rfl c1)<|wp_skip<|then_n<|wp_seq<|wp_seq<|wp_rs rfl<|RQ.y rfl (Y.move (v:=.slice Aa0 d0.length ca0) s0)<|RQ.y rfl (Y.len (by kernel_rfl) rfl)<|RQ.y rfl (Y.move (v:=.int .i64 0) rfl)<|RQ.nil<|then_n<|wp_block ?_
   obtain ⟨K1,hK1,hm⟩ :∃K,K=m_slices_EqualFunc_impl_Core_impl_Core_impl_Core_impl_Core_A1∧m_slices_EqualFunc_impl_Core_impl_Core_impl_Core_impl_Core_L1 d0 d1 d2 K (d0.length+1) 0=some r:=⟨_,rfl,hm⟩
   refine wp_loopX (fun g f w'=>∃(i3:Int),f 1=.slice Aa1 d1.length ca1∧f 2=.func (.func gf2) #[] caps2∧f 15=.slice Aa0 d0.length ca0∧f 16=.int .i64 (d0.length:Int)∧f 17=.int .i64 i3∧0≤i3∧Below w.heap.size w w'∧m_slices_EqualFunc_impl_Core_impl_Core_impl_Core_impl_Core_L1 d0 d1 d2 K1 g i3=some r) 0 (fun f w'=>Below w.heap.size w w'∧m_slices_EqualFunc_impl_Core_impl_Core_impl_Core_impl_Core_A1  = some r) (d0.length+1) ⟨0,s1,s2,rfl,rfl,rfl,(by omega),T,hm⟩ ?_ ?_
   ·rintro f w2 ⟨T,hm⟩
    unfold m_slices_EqualFunc_impl_Core_impl_Core_impl_Core_impl_Core_A1 at hm
    refine blk_hit (then_n ?_)
    refine wp_seq<|wp_rs rfl<|RQ.y rfl (Y.assign (v:=.bool true) rfl)<|RQ.nil<|then_n<|wp_ret ?_
    obtain rfl:=sj hm
    exact (ret1 rfl rfl rfl ⟨rfl,T⟩)
   rintro g f w4 ⟨i3,s1_1,s2_1,s15_1,s16_1,s17_1,nn17_1,T,hm⟩
   rcases g with _|g
   ·simp only [m_slices_EqualFunc_impl_Core_impl_Core_impl_Core_impl_Core_L1] at hm; cases hm
   obtain ⟨rec1,hrec1,hm⟩ :∃z,z=m_slices_EqualFunc_impl_Core_impl_Core_impl_Core_impl_Core_L1 d0 d1 d2 K1 g∧m_slices_EqualFunc_impl_Core_impl_Core_impl_Core_impl_Core_B1 d0 d1 d2 z K1 i3=some r:=⟨_,rfl,hm⟩
   unfold m_slices_EqualFunc_impl_Core_impl_Core_impl_Core_impl_Core_B1 at hm
   refine wp_seq<|wp_rs rfl<|RQ.y rfl (Y.binI (v:=.bool (decide (i3 < (d0.length:Int)))) s17_1 s16_1 rfl)<|RQ.nil<|then_n<|wp_seq ?_
   rcases bcases (decide (i3 < (d0.length:Int))) with c5|c5
   ·replace hm:=cF c5 hm
    have pc5:=of_decide_eq_false c5
    refine cond_f rfl (vb rfl c5)<|wp_exit ?_
    exact (then_x (then_x (hit_x ⟨_,rfl,⟨T,(by rw [hK1] at hm; exact hm)⟩⟩)))
   replace hm:=cT c5 hm
   have pc5:=of_decide_eq_true c5
   refine cond_t rfl (vb rfl c5)<|wp_skip<|then_n<|wp_seq<|wp_block<|wp_seq<|wp_rl rfl<|RL.y rfl (Y.move (v:=.int .i64 i3) s17_1) ?_
   obtain ⟨x6,hx9,hm⟩:=bnd hm
   obtain ⟨k7,hk10,hl11,hx9⟩:=getI_some hx9
   obtain ⟨b13,o14,rfl,hbb13⟩:=ha0.addr (by omega)
   obtain ⟨cs8,hRcs8,hc12⟩:=ha0.el hx9
   have hScs8:=hRcs8
   obtain ⟨A15,n15,c15,A16,n16,c16,rfl,⟨h15,r15⟩,⟨h16,r16⟩⟩:=(coreRd_out hRcs8)
   have e15:=h15.len; subst e15
   have q15:=len_le r15
   have e16:=h16.len; subst e16
   have q16:=len_le r16
   refine RL.y rfl (Y.indexAddr (m:=k7) (sz:=4) s15_1 s17_1 hk10 hl11 (by kernel_rfl))<|RL.y rfl (Y.loadN (cs:=[.int .i64 x6.kind,.int .i64 x6.value,.slice A15 x6.data.length c15,.slice A16 x6.kids.length c16]) rfl (by kernel_rfl) (cells4 (eqC (cellT T (hc12 0 _ rfl))) (eqC (cellT T (hc12 1 _ rfl))) (eqC (cellT T (hc12 2 _ rfl))) (eqC (cellT T (hc12 3 _ rfl))))) ?_
   refine RL.alloc (z:=.agg #[.int .i64 0,.int .i64 0,.slice none 0 0,.slice none 0 0]) rfl (by kernel_rfl) (fun w17 B18 hb19 szw17=>?_)
   replace B18:Blk w17 w4.heap.size 78 #[.int .i64 0,.int .i64 0,.slice none 0 0,.slice none 0 0]:=B18
   have GB18:w.heap.size≤w4.heap.size:=T.size
   have T:=Tt T hb19
   refine RL.y rfl (Y.assign (v:=.int .i64 i3) rfl) ?_
   refine RL.store (v:=.agg #[.int .i64 x6.kind,.int .i64 x6.value,.slice A15 x6.data.length c15,.slice A16 x6.kids.length c16]) (cs':=#[.int .i64 x6.kind,.int .i64 x6.value,.slice A15 x6.data.length c15,.slice A16 x6.kids.length c16]) rfl rfl rfl B18 (by kernel_rfl) (by rfl) (by rfl) (by rfl) (fun w21 B22 ho23=>?_)
   have szw21:=ho23.size
   have T:=T.trans (ho23.below (by first|(simp; done)|(simp; omega)))
   refine RL.nil<|then_n<|wp_seq<|wp_rl rfl<|RL.y rfl (Y.move (v:=.slice Aa1 d1.length ca1) s1_1)<|RL.y rfl (Y.move (v:=.int .i64 i3) rfl) ?_
   obtain ⟨x24,hx27,hm⟩:=bnd hm
   obtain ⟨k25,hk28,hl29,hx27⟩:=getI_some hx27
   obtain ⟨b31,o32,rfl,hbb31⟩:=ha1.addr (by omega)
   obtain ⟨cs26,hRcs26,hc30⟩:=ha1.el hx27
   have hScs26:=hRcs26
   obtain ⟨A33,n33,c33,A34,n34,c34,rfl,⟨h33,r33⟩,⟨h34,r34⟩⟩:=(coreRd_out hRcs26)
   have e33:=h33.len; subst e33
   have q33:=len_le r33
   have e34:=h34.len; subst e34
   have q34:=len_le r34
   refine RL.y rfl (Y.indexAddr (m:=k25) (sz:=4) rfl rfl hk28 hl29 (by kernel_rfl))<|RL.y rfl (Y.loadN (cs:=[.int .i64 x24.kind,.int .i64 x24.value,.slice A33 x24.data.length c33,.slice A34 x24.kids.length c34]) rfl (by kernel_rfl) (cells4 (eqC (cellT T (hc30 0 _ rfl))) (eqC (cellT T (hc30 1 _ rfl))) (eqC (cellT T (hc30 2 _ rfl))) (eqC (cellT T (hc30 3 _ rfl))))) ?_
   refine RL.alloc (z:=.agg #[.int .i64 0,.int .i64 0,.slice none 0 0,.slice none 0 0]) rfl (by kernel_rfl) (fun w35 B36 hb37 szw35=>?_)
   replace B36:Blk w35 w21.heap.size 78 #[.int .i64 0,.int .i64 0,.slice none 0 0,.slice none 0 0]:=B36
   have GB36:w.heap.size≤w21.heap.size:=T.size
   have Eob38_ob20:=Nat.ne_of_lt B22.lt
   have B22:=blkT B22 hb37
   have T:=Tt T hb37
   refine RL.store (v:=.agg #[.int .i64 x24.kind,.int .i64 x24.value,.slice A33 x24.data.length c33,.slice A34 x24.kids.length c34]) (cs':=#[.int .i64 x24.kind,.int .i64 x24.value,.slice A33 x24.data.length c33,.slice A34 x24.kids.length c34]) rfl rfl rfl B36 (by kernel_rfl) (by rfl) (by rfl) (by rfl) (fun w39 B40 ho41=>?_)
   have szw39:=ho41.size
   have B22:=B22.only_ ho41 (by intro hin; simp at hin; exact Eob38_ob20 hin)
   have T:=T.trans (ho41.below (by first|(simp; done)|(simp; omega)))
   refine RL.nil<|then_n<|wp_seq<|wp_rb rfl<|RQ.y rfl (Y.move (v:=.func (.func gf2) #[] caps2) s2_1)<|RQ.y rfl (Y.loadN (cs:=[.int .i64 x6.kind,.int .i64 x6.value,.slice A15 x6.data.length c15,.slice A16 x6.kids.length c16]) rfl (by kernel_rfl) (cells4 (beC (blkCell B22 (i:=0) rfl)) (beC (blkCell B22 (i:=1) rfl)) (beC (blkCell B22 (i:=2) rfl)) (beC (blkCell B22 (i:=3) rfl))))<|RQ.y rfl (Y.loadN (cs:=[.int .i64 x24.kind,.int .i64 x24.value,.slice A33 x24.data.length c33,.slice A34 x24.kids.length c34]) rfl (by kernel_rfl) (cells4 (beC (blkCell B40 (i:=0) rfl)) (beC (blkCell B40 (i:=1) rfl)) (beC (blkCell B40 (i:=2) rfl)) (beC (blkCell B40 (i:=3) rfl)))) ?_
   obtain ⟨y42,e43,hm⟩:=bnd hm
   refine RQ.callV rfl rfl (am2 rfl rfl) hgo2 (v:=.bool y42) (bel (K:=fun _=>True) fun w' hb'=>hf2 x6 x24 y42 e43 w' (Tt T hb') _ (stArg (R:=coreRd) (coreRd_in ⟨_,_,_,_,_,_,rfl,⟨SlAt.now intRd_ok h15 (Nat.le_refl _) (Tt T hb'),r15⟩,⟨SlAt.now coreRd_ok h16 (Nat.le_refl _) (Tt T hb'),r16⟩⟩)) _ (stArg (R:=coreRd) (coreRd_in ⟨_,_,_,_,_,_,rfl,⟨SlAt.now intRd_ok h33 (Nat.le_refl _) (Tt T hb'),r33⟩,⟨SlAt.now coreRd_ok h34 (Nat.le_refl _) (Tt T hb'),r34⟩⟩)))<|RQ.y rfl (Y.not (b':=(!y42)) rfl rfl)<|RQ.nil ?_
   intro w44 hb45
   have szw44:=hb45.size
   have T:=Tt T hb45
   refine then_n ?_
   rcases bcases y42 with c46|c46
   ·replace hm:=cF c46 hm
    refine cond_t rfl (vbn rfl c46 rfl)<|wp_seq<|wp_rs rfl<|RQ.y rfl (Y.assign (v:=.bool false) rfl)<|RQ.nil<|then_n<|wp_ret ?_
    obtain rfl:=sj hm
    exact (blk_r (then_r (then_r (hit_r (blk_r (then_r (ret1 rfl rfl rfl ⟨rfl,T⟩)))))))
   replace hm:=cT c46 hm
   refine cond_f rfl (vbn rfl c46 rfl)<|wp_skip ?_
   refine blk_n (then_n ?_)
   refine wp_rs rfl<|RQ.y rfl (Y.binI s17_1 rfl (binI_add (m:=i3) (by omega)))<|RQ.y rfl (Y.move (v:=.int .i64 (i3+1)) rfl)<|RQ.nil ?_
   exact (then_n ⟨g,_,Nat.lt_succ_self _,rfl,⟨(i3+1),s1_1,s2_1,s15_1,s16_1,rfl,(by omega),T,(by rw [← hrec1]; exact hm)⟩⟩)
  replace hm:=cT c1 hm
  refine cond_t rfl (vb rfl c1)<|wp_seq<|wp_rs rfl<|RQ.y rfl (Y.assign (v:=.bool false) rfl)<|RQ.nil<|then_n<|wp_ret ?_
  obtain rfl:=sj hm
  exact (then_r (ret1 rfl rfl rfl ⟨rfl,T⟩))
noncomputable def m_impl_SameCore_R (self:DCore→DCore→Option Bool) (d0:DCore) (d1:DCore):Option Bool:=
  (bif (d0.kind==d1.kind) then (bif (d0.value==d1.value) then ((m_slices_Equal_int64_int64 d0.data d1.data).bind fun y19=>(bif y19 then ((m_slices_EqualFunc_impl_Core_impl_Core_impl_Core_impl_Core d0.kids d1.kids (fun x0 x1=>self x0 x1)).bind fun y24=>some y24) else some false)) else some false) else some false)
noncomputable def m_impl_SameCore:Nat→DCore→DCore→Option Bool
  |0,_,_=>none
  |gas+1,d0,d1=>m_impl_SameCore_R (m_impl_SameCore gas) d0 d1
set_option maxHeartbeats 2000000 in
theorem c_m_impl_SameCore :∀(gas:Nat) (d0:DCore) (d1:DCore) (r:Bool) (hm:m_impl_SameCore gas d0 d1=some r) (v0:Value) (v1:Value) (w:World) (hv0:St coreRd w v0 d0) (hv1:St coreRd w v1 d1),
    Calls Tryz.prog 228 #[v0,v1] w fun e w'=>e=.returned (.bool r)∧Below w.heap.size w w':=by
  intro gas
  induction gas with
  |zero=>
   intro d0 d1 r hm v0 v1 w hv0 hv1
   cases hm
  |succ gas ih=>
   intro d0 d1 r hm v0 v1 w hv0 hv1
   obtain ⟨csa0,rfl,hRR0⟩:=hv0
   obtain ⟨A1,n1,c1,A2,n2,c2,rfl,⟨h1,r1⟩,⟨h2,r2⟩⟩:=(coreRd_out hRR0)
   have e1:=h1.len; subst e1
   have q1:=len_le r1
   have e2:=h2.len; subst e2
   have q2:=len_le r2
   obtain ⟨csa1,rfl,hRR1⟩:=hv1
   obtain ⟨A3,n3,c3,A4,n4,c4,rfl,⟨h3,r3⟩,⟨h4,r4⟩⟩:=(coreRd_out hRR1)
   have e3:=h3.len; subst e3
   have q3:=len_le r3
   have e4:=h4.len; subst e4
   have q4:=len_le r4
   have T:=Below.refl w.heap.size w
   obtain ⟨self,hself,hm⟩ :∃s,s=m_impl_SameCore gas∧m_impl_SameCore_R s d0 d1=some r:=⟨_,rfl,hm⟩
   unfold m_impl_SameCore_R at hm
   refine enter 31 Tryz.func228 rfl rfl rfl ?_
   intro f hf
   have s0:f 0=.agg #[.int .i64 d0.kind,.int .i64 d0.value,.slice A1 d0.data.length c1,.slice A2 d0.kids.length c2]:=hf 0 _ rfl
   have s1:f 1=.agg #[.int .i64 d1.kind,.int .i64 d1.value,.slice A3 d1.data.length c3,.slice A4 d1.kids.length c4]:=hf 1 _ rfl
   refine wp_seq<|wp_rl rfl ?_
   refine RL.box rfl s0 (fun w5 B6 hb7 szw5=>?_)
   replace B6:Blk w5 w.heap.size 78 #[.int .i64 d0.kind,.int .i64 d0.value,.slice A1 d0.data.length c1,.slice A2 d0.kids.length c2]:=B6
   have GB6:w.heap.size≤w.heap.size:=T.size
   have T:=Tt T hb7
   refine RL.box rfl s1 (fun w9 B10 hb11 szw9=>?_)
   replace B10:Blk w9 w5.heap.size 78 #[.int .i64 d1.kind,.int .i64 d1.value,.slice A3 d1.data.length c3,.slice A4 d1.kids.length c4]:=B10
   have GB10:w.heap.size≤w5.heap.size:=T.size
   have Eob12_ob8:=Nat.ne_of_lt B6.lt
   have B6:=blkT B6 hb11
   have T:=Tt T hb11
   refine RL.y rfl (Y.assign (v:=.bool false) rfl)<|RL.nil<|then_n<|wp_seq<|wp_rb rfl<|RQ.y rfl (Y.fieldAddr (off:=0) rfl (by kernel_rfl))<|RQ.y rfl (Y.load (v:=.int .i64 d0.kind) rfl (by kernel_rfl) (beC (blkCell B6 (i:=0) rfl)))<|RQ.y rfl (Y.fieldAddr (off:=0) rfl (by kernel_rfl))<|RQ.y rfl (Y.load (v:=.int .i64 d1.kind) rfl (by kernel_rfl) (beC (blkCell B10 (i:=0) rfl)))<|RQ.y rfl (Y.binI (v:=.bool (d0.kind==d1.kind)) rfl rfl rfl)<|RQ.y rfl (Y.move (v:=.bool (d0.kind==d1.kind)) rfl) ?_
   rcases bcases (d0.kind==d1.kind) with c13|c13
   ·replace hm:=cF c13 hm
    iterate 5 refine RQ.skip (wantN (dj:=10) rfl (vb rfl c13) rfl) ?_
    refine RQ.y rfl (Y.pick (b:=false) (v:=.bool false) (vb rfl c13) rfl)<|RQ.y rfl (Y.move (v:=.bool false) rfl) ?_
    iterate 5 refine RQ.skip (wantN (dj:=17) rfl rfl rfl) ?_
    refine RQ.y rfl (Y.pick (b:=false) (v:=.bool false) rfl rfl)<|RQ.y rfl (Y.move (v:=.bool false) rfl) ?_
    iterate 5 refine RQ.skip (wantN (dj:=24) rfl rfl rfl) ?_
    refine RQ.y rfl (Y.pick (b:=false) (v:=.bool false) rfl rfl)<|RQ.y rfl (Y.assign (v:=.bool false) rfl)<|RQ.nil ?_
    intro w14 hb15
    have szw14:=hb15.size
    have T:=Tt T hb15
    refine then_n<|wp_ret ?_
    obtain rfl:=sj hm
    exact (ret1 rfl rfl rfl ⟨rfl,T⟩)
   replace hm:=cT c13 hm
   refine RQ.y (wantT (dj:=10) rfl (vb rfl c13)) (Y.fieldAddr (off:=1) rfl (by kernel_rfl))<|RQ.y (wantT (dj:=10) rfl (vb rfl c13)) (Y.load (v:=.int .i64 d0.value) rfl (by kernel_rfl) (beC (blkCell B6 (i:=1) rfl)))<|RQ.y (wantT (dj:=10) rfl (vb rfl c13)) (Y.fieldAddr (off:=1) rfl (by kernel_rfl))<|RQ.y (wantT (dj:=10) rfl (vb rfl c13)) (Y.load (v:=.int .i64 d1.value) rfl (by kernel_rfl) (beC (blkCell B10 (i:=1) rfl)))<|RQ.y (wantT (dj:=10) rfl (vb rfl c13)) (Y.binI (v:=.bool (d0.value==d1.value)) rfl rfl rfl)<|RQ.y rfl (Y.pick (b:=true) (v:=.bool (d0.value==d1.value)) (vb rfl c13) rfl)<|RQ.y rfl (Y.move (v:=.bool (d0.value==d1.value)) rfl) ?_
   rcases bcases (d0.value==d1.value) with c16|c16
   ·replace hm:=cF c16 hm
    iterate 5 refine RQ.skip (wantN (dj:=17) rfl (vb rfl c16) rfl) ?_
    refine RQ.y rfl (Y.pick (b:=false) (v:=.bool false) (vb rfl c16) rfl)<|RQ.y rfl (Y.move (v:=.bool false) rfl) ?_
    iterate 5 refine RQ.skip (wantN (dj:=24) rfl rfl rfl) ?_
    refine RQ.y rfl (Y.pick (b:=false) (v:=.bool false) rfl rfl)<|RQ.y rfl (Y.assign (v:=.bool false) rfl)<|RQ.nil ?_
    intro w17 hb18
    have szw17:=hb18.size
    have T:=Tt T hb18
    refine then_n<|wp_ret ?_
    obtain rfl:=sj hm
    exact (ret1 rfl rfl rfl ⟨rfl,T⟩)
   replace hm:=cT c16 hm
   refine RQ.y (wantT (dj:=17) rfl (vb rfl c16)) (Y.fieldAddr (off:=2) rfl (by kernel_rfl))<|RQ.y (wantT (dj:=17) rfl (vb rfl c16)) (Y.load (v:=.slice A1 d0.data.length c1) rfl (by kernel_rfl) (beC (blkCell B6 (i:=2) rfl)))<|RQ.y (wantT (dj:=17) rfl (vb rfl c16)) (Y.fieldAddr (off:=2) rfl (by kernel_rfl))<|RQ.y (wantT (dj:=17) rfl (vb rfl c16)) (Y.load (v:=.slice A3 d1.data.length c3) rfl (by kernel_rfl) (beC (blkCell B10 (i:=2) rfl))) ?_
   obtain ⟨y19,e20,hm⟩:=bnd hm
   refine RQ.call (wantT (dj:=17) rfl (vb rfl c16)) (am2 rfl rfl) (by kernel_rfl) (v:=.bool y19) (bel (K:=fun _=>True) fun w' hb'=>(c_m_slices_Equal_int64_int64 d0.data d1.data _ e20 _ _ w' (slArg intRd_ok h1 r1 (Tt T hb')) (slArg intRd_ok h3 r3 (Tt T hb'))))<|RQ.y rfl (Y.pick (b:=true) (v:=.bool y19) (vb rfl c16) rfl)<|RQ.y rfl (Y.move (v:=.bool y19) rfl) ?_
   rcases bcases y19 with c21|c21
   ·replace hm:=cF c21 hm
    iterate 5 refine RQ.skip (wantN (dj:=24) rfl (vb rfl c21) rfl) ?_
    refine RQ.y rfl (Y.pick (b:=false) (v:=.bool false) (vb rfl c21) rfl)<|RQ.y rfl (Y.assign (v:=.bool false) rfl)<|RQ.nil ?_
    intro w22 hb23
    have szw22:=hb23.size
    have T:=Tt T hb23
    refine then_n<|wp_ret ?_
    obtain rfl:=sj hm
    exact (ret1 rfl rfl rfl ⟨rfl,T⟩)
   replace hm:=cT c21 hm
   refine RQ.y (wantT (dj:=24) rfl (vb rfl c21)) (Y.fieldAddr (off:=3) rfl (by kernel_rfl))<|RQ.y (wantT (dj:=24) rfl (vb rfl c21)) (Y.load (v:=.slice A2 d0.kids.length c2) rfl (by kernel_rfl) (beC (blkCell B6 (i:=3) rfl)))<|RQ.y (wantT (dj:=24) rfl (vb rfl c21)) (Y.fieldAddr (off:=3) rfl (by kernel_rfl))<|RQ.y (wantT (dj:=24) rfl (vb rfl c21)) (Y.load (v:=.slice A4 d1.kids.length c4) rfl (by kernel_rfl) (beC (blkCell B10 (i:=3) rfl))) ?_
   obtain ⟨y24,e25,hm⟩:=bnd hm
   refine RQ.call (wantT (dj:=24) rfl (vb rfl c21)) (am3 rfl rfl rfl) (by kernel_rfl) (v:=.bool y24) (bel (K:=fun _=>True) fun w' hb'=>(c_m_slices_EqualFunc_impl_Core_impl_Core_impl_Core_impl_Core d0.kids d1.kids (fun x0 x1=>self x0 x1) _ e25 _ _ _ _ w' (slArg coreRd_ok h2 r2 (Tt T hb')) (slArg coreRd_ok h4 r4 (Tt T hb')) (by kernel_rfl) (fun x0 x1 b hx w1 hb1 y0 hy0 y1 hy1=>Calls.arr (by simp) (ih x0 x1 _ (by rw [← hself]; exact hx) _ _  w1 hy0 hy1 ))))<|RQ.y rfl (Y.pick (b:=true) (v:=.bool y24) (vb rfl c21) rfl)<|RQ.y rfl (Y.assign (v:=.bool y24) rfl)<|RQ.nil ?_
   intro w26 hb27
   have szw26:=hb27.size
   have T:=Tt T hb27
   refine then_n<|wp_ret ?_
   obtain rfl:=sj hm
   exact (ret1 rfl rfl rfl ⟨rfl,T⟩)
noncomputable def m_impl_Core_binds (d0:DCore) (d1:Int):Option Int:=
  (bif (d0.kind==4) then ((m_impl_truth true).bind fun y17=>some y17) else (bif (d0.kind==7) then ((m_impl_truth (d1==1)).bind fun y13=>some y13) else ((m_impl_truth false).bind fun y9=>some y9)))
set_option maxHeartbeats 2000000 in
theorem c_m_impl_Core_binds (d0:DCore) (d1:Int) (r:Int) (hm:m_impl_Core_binds d0 d1=some r) (v0:Value) (w:World) (hv0:St coreRd w v0 d0) :
    Calls Tryz.prog 227 #[v0,.int .i64 d1] w fun e w'=>e=.returned (.int .i64 r)∧Below w.heap.size w w':=by
  obtain ⟨csa0,rfl,hRR0⟩:=hv0
  obtain ⟨A1,n1,c1,A2,n2,c2,rfl,⟨h1,r1⟩,⟨h2,r2⟩⟩:=(coreRd_out hRR0)
  have e1:=h1.len; subst e1
  have q1:=len_le r1
  have e2:=h2.len; subst e2
  have q2:=len_le r2
  have T:=Below.refl w.heap.size w
  unfold m_impl_Core_binds at hm
  refine enter 18 Tryz.func227 rfl rfl rfl ?_
  intro f hf
  have s0:f 0=.agg #[.int .i64 d0.kind,.int .i64 d0.value,.slice A1 d0.data.length c1,.slice A2 d0.kids.length c2]:=hf 0 _ rfl
  have s1:f 1=.int .i64 d1:=hf 1 _ rfl
  refine wp_seq<|wp_rl rfl ?_
  refine RL.box rfl s0 (fun w3 B4 hb5 szw3=>?_)
  replace B4:Blk w3 w.heap.size 78 #[.int .i64 d0.kind,.int .i64 d0.value,.slice A1 d0.data.length c1,.slice A2 d0.kids.length c2]:=B4
  have GB4:w.heap.size≤w.heap.size:=T.size
  have T:=Tt T hb5
  refine RL.y rfl (Y.assign (v:=.int .i64 0) rfl)<|RL.nil<|then_n<|wp_seq<|wp_rb rfl<|RQ.y rfl (Y.fieldAddr (off:=0) rfl (by kernel_rfl))<|RQ.y rfl (Y.load (v:=.int .i64 d0.kind) rfl (by kernel_rfl) (beC (blkCell B4 (i:=0) rfl)))<|RQ.y rfl (Y.binI (v:=.bool (d0.kind==4)) rfl rfl rfl)<|RQ.y rfl (Y.move (v:=.bool (d0.kind==4)) rfl) ?_
  rcases bcases (d0.kind==4) with c7|c7
  ·replace hm:=cF c7 hm
   refine RQ.y (wantT (dj:=8) rfl (vb rfl c7)) (Y.fieldAddr (off:=0) rfl (by kernel_rfl))<|RQ.y (wantT (dj:=8) rfl (vb rfl c7)) (Y.load (v:=.int .i64 d0.kind) rfl (by kernel_rfl) (beC (blkCell B4 (i:=0) rfl)))<|RQ.y (wantT (dj:=8) rfl (vb rfl c7)) (Y.binI (v:=.bool (d0.kind==7)) rfl rfl rfl)<|RQ.y (wantT (dj:=8) rfl (vb rfl c7)) (Y.move (v:=.bool (d0.kind==7)) rfl) ?_
   rcases bcases (d0.kind==7) with c8|c8
   ·replace hm:=cF c8 hm
    refine RQ.skip (wantN (dj:=12) rfl (vb rfl c8) rfl)<|RQ.skip (wantN (dj:=12) rfl (vb rfl c8) rfl)<|RQ.y (wantT (dj:=8) rfl (vb rfl c7)) (Y.pick (b:=false) (v:=.bool false) (vb rfl c8) rfl)<|RQ.y rfl (Y.pick (b:=false) (v:=.bool false) (vb rfl c7) rfl) ?_
    obtain ⟨y9,e10,hm⟩:=bnd hm
    refine RQ.call rfl (am1 rfl) (by kernel_rfl) (v:=.int .i64 y9) (bel (K:=fun _=>True) fun w' hb'=>(c_m_impl_truth false _ e10  w' ))<|RQ.y rfl (Y.assign (v:=.int .i64 y9) rfl)<|RQ.nil ?_
    intro w11 hb12
    have szw11:=hb12.size
    have T:=Tt T hb12
    refine then_n<|wp_ret ?_
    obtain rfl:=sj hm
    exact (ret1 rfl rfl rfl ⟨rfl,T⟩)
   replace hm:=cT c8 hm
   refine RQ.y (wantT (dj:=12) rfl (vb rfl c8)) (Y.move (v:=.int .i64 d1) s1)<|RQ.y (wantT (dj:=12) rfl (vb rfl c8)) (Y.binI (v:=.bool (d1==1)) rfl rfl rfl)<|RQ.y (wantT (dj:=8) rfl (vb rfl c7)) (Y.pick (b:=true) (v:=.bool (d1==1)) (vb rfl c8) rfl)<|RQ.y rfl (Y.pick (b:=false) (v:=.bool (d1==1)) (vb rfl c7) rfl) ?_
   obtain ⟨y13,e14,hm⟩:=bnd hm
   refine RQ.call rfl (am1 rfl) (by kernel_rfl) (v:=.int .i64 y13) (bel (K:=fun _=>True) fun w' hb'=>(c_m_impl_truth (d1==1) _ e14  w' ))<|RQ.y rfl (Y.assign (v:=.int .i64 y13) rfl)<|RQ.nil ?_
   intro w15 hb16
   have szw15:=hb16.size
   have T:=Tt T hb16
   refine then_n<|wp_ret ?_
   obtain rfl:=sj hm
   exact (ret1 rfl rfl rfl ⟨rfl,T⟩)
  replace hm:=cT c7 hm
  iterate 4 refine RQ.skip (wantN (dj:=8) rfl (vb rfl c7) rfl) ?_
  refine RQ.skip rfl<|RQ.skip rfl<|RQ.skip (wantN (dj:=8) rfl (vb rfl c7) rfl)<|RQ.y rfl (Y.pick (b:=true) (v:=.bool true) (vb rfl c7) rfl) ?_
  obtain ⟨y17,e18,hm⟩:=bnd hm
  refine RQ.call rfl (am1 rfl) (by kernel_rfl) (v:=.int .i64 y17) (bel (K:=fun _=>True) fun w' hb'=>(c_m_impl_truth true _ e18  w' ))<|RQ.y rfl (Y.assign (v:=.int .i64 y17) rfl)<|RQ.nil ?_
  intro w19 hb20
  have szw19:=hb20.size
  have T:=Tt T hb20
  refine then_n<|wp_ret ?_
  obtain rfl:=sj hm
  exact (ret1 rfl rfl rfl ⟨rfl,T⟩)
noncomputable def m_impl_closedBelow_A1:Option Bool:=
  some true
noncomputable def m_impl_closedBelow_B1 (d0:DCore) (d1:Int) (self:DCore→Int→Option Bool) (rec1:Int→Option Bool) (K1:Option Bool) (i9:Int):Option Bool:=
  (bif (decide (i9 < (d0.kids.length:Int))) then ((getI d0.kids i9).bind fun x12=>((m_impl_Core_binds d0 i9).bind fun y30=>((ck (d1+y30)).bind fun s32=>((self x12 s32).bind fun y33=>(bif y33 then (rec1 (i9+1)) else some false))))) else (K1))
noncomputable def m_impl_closedBelow_L1 (d0:DCore) (d1:Int) (self:DCore→Int→Option Bool) (K1:Option Bool):Nat→Int→Option Bool
  |0,_=>none
  |g+1,i9=>m_impl_closedBelow_B1 d0 d1 self (m_impl_closedBelow_L1 d0 d1 self K1 g) K1 i9
noncomputable def m_impl_closedBelow_A2:Option Bool:=
  some true
noncomputable def m_impl_closedBelow_B2 (d0:DCore) (d1:Int) (self:DCore→Int→Option Bool) (rec2:Int→Option Bool) (K2:Option Bool) (i41:Int):Option Bool:=
  (bif (decide (i41 < (d0.kids.length:Int))) then ((getI d0.kids i41).bind fun x44=>((m_impl_Core_binds d0 i41).bind fun y62=>((ck (d1+y62)).bind fun s64=>((self x44 s64).bind fun y65=>(bif y65 then (rec2 (i41+1)) else some false))))) else (K2))
noncomputable def m_impl_closedBelow_L2 (d0:DCore) (d1:Int) (self:DCore→Int→Option Bool) (K2:Option Bool):Nat→Int→Option Bool
  |0,_=>none
  |g+1,i41=>m_impl_closedBelow_B2 d0 d1 self (m_impl_closedBelow_L2 d0 d1 self K2 g) K2 i41
noncomputable def m_impl_closedBelow_R (self:DCore→Int→Option Bool) (d0:DCore) (d1:Int):Option Bool:=
  (bif (d0.kind==1) then (bif (decide (d0.value ≥ d1)) then some false else (m_impl_closedBelow_L2 d0 d1 self m_impl_closedBelow_A2 (d0.kids.length+1) 0)) else (m_impl_closedBelow_L1 d0 d1 self m_impl_closedBelow_A1 (d0.kids.length+1) 0))
noncomputable def m_impl_closedBelow:Nat→DCore→Int→Option Bool
  |0,_,_=>none
  |gas+1,d0,d1=>m_impl_closedBelow_R (m_impl_closedBelow gas) d0 d1
set_option maxHeartbeats 2000000 in
theorem c_m_impl_closedBelow :∀(gas:Nat) (d0:DCore) (d1:Int) (r:Bool) (hm:m_impl_closedBelow gas d0 d1=some r) (v0:Value) (w:World) (hv0:St coreRd w v0 d0),
    Calls Tryz.prog 185 #[v0,.int .i64 d1] w fun e w'=>e=.returned (.bool r)∧Below w.heap.size w w':=by
  intro gas
  induction gas with
  |zero=>
   intro d0 d1 r hm v0 w hv0
   cases hm
  |succ gas ih=>
   intro d0 d1 r hm v0 w hv0
   obtain ⟨csa0,rfl,hRR0⟩:=hv0
   obtain ⟨A1,n1,c1,A2,n2,c2,rfl,⟨h1,r1⟩,⟨h2,r2⟩⟩:=(coreRd_out hRR0)
   have e1:=h1.len; subst e1
   have q1:=len_le r1
   have e2:=h2.len; subst e2
   have q2:=len_le r2
   have T:=Below.refl w.heap.size w
   obtain ⟨self,hself,hm⟩ :∃s,s=m_impl_closedBelow gas∧m_impl_closedBelow_R s d0 d1=some r:=⟨_,rfl,hm⟩
   unfold m_impl_closedBelow_R at hm
   refine enter 33 Tryz.func185 rfl rfl rfl ?_
   intro f hf
   have s0:f 0=.agg #[.int .i64 d0.kind,.int .i64 d0.value,.slice A1 d0.data.length c1,.slice A2 d0.kids.length c2]:=hf 0 _ rfl
   have s1:f 1=.int .i64 d1:=hf 1 _ rfl
   refine wp_seq<|wp_rl rfl ?_
   refine RL.box rfl s0 (fun w3 B4 hb5 szw3=>?_)
   replace B4:Blk w3 w.heap.size 78 #[.int .i64 d0.kind,.int .i64 d0.value,.slice A1 d0.data.length c1,.slice A2 d0.kids.length c2]:=B4
   have GB4:w.heap.size≤w.heap.size:=T.size
   have T:=Tt T hb5
   refine RL.y rfl (Y.assign (v:=.bool false) rfl)<|RL.nil<|then_n<|wp_seq<|wp_seq<|wp_rs rfl<|RQ.y rfl (Y.fieldAddr (off:=0) rfl (by kernel_rfl))<|RQ.y rfl (Y.load (v:=.int .i64 d0.kind) rfl (by kernel_rfl) (eqC (blkCell B4 (i:=0) rfl)))<|RQ.y rfl (Y.binI (v:=.bool (d0.kind==1)) rfl rfl rfl)<|RQ.y rfl (Y.move (v:=.bool (d0.kind==1)) rfl) ?_
   rcases bcases (d0.kind==1) with c7|c7
   ·replace hm:=cF c7 hm
    iterate 4 refine RQ.skip (wantN (dj:=10) rfl (vb rfl c7) rfl) ?_
    refine RQ.y rfl (Y.pick (b:=false) (v:=.bool false) (vb rfl c7) rfl)<|RQ.nil<|then_n<|cond_f rfl rfl<|wp_skip<|then_n<|wp_seq<|wp_seq<|wp_rs rfl<|RQ.y rfl (Y.fieldAddr (off:=3) rfl (by kernel_rfl))<|RQ.y rfl (Y.load (v:=.slice A2 d0.kids.length c2) rfl (by kernel_rfl) (eqC (blkCell B4 (i:=3) rfl)))<|RQ.y rfl (Y.len (by kernel_rfl) rfl)<|RQ.y rfl (Y.move (v:=.int .i64 0) rfl)<|RQ.nil<|then_n<|wp_block ?_
    obtain ⟨K1,hK1,hm⟩ :∃K,K=m_impl_closedBelow_A1∧m_impl_closedBelow_L1 d0 d1 self K (d0.kids.length+1) 0=some r:=⟨_,rfl,hm⟩
    refine wp_loopX (fun g f w'=>∃(i9:Int),f 1=.int .i64 d1∧f 2=.pointer (some ⟨w.heap.size,0,none⟩)∧f 17=.slice A2 d0.kids.length c2∧f 18=.int .i64 (d0.kids.length:Int)∧f 19=.int .i64 i9∧0≤i9∧Blk w' w.heap.size 78 #[.int .i64 d0.kind,.int .i64 d0.value,.slice A1 d0.data.length c1,.slice A2 d0.kids.length c2]∧Below w.heap.size w w'∧m_impl_closedBelow_L1 d0 d1 self K1 g i9=some r) 0 (fun f w'=>Blk w' w.heap.size 78 #[.int .i64 d0.kind,.int .i64 d0.value,.slice A1 d0.data.length c1,.slice A2 d0.kids.length c2]∧Below w.heap.size w w'∧m_impl_closedBelow_A1  = some r) (d0.kids.length+1) ⟨0,s1,rfl,rfl,rfl,rfl,(by omega),B4,T,hm⟩ ?_ ?_
    ·rintro f w8 ⟨B4,T,hm⟩
     unfold m_impl_closedBelow_A1 at hm
     refine blk_hit (then_n ?_)
     refine wp_seq<|wp_rs rfl<|RQ.y rfl (Y.assign (v:=.bool true) rfl)<|RQ.nil<|then_n<|wp_ret ?_
     obtain rfl:=sj hm
     exact (ret1 rfl rfl rfl ⟨rfl,T⟩)
    rintro g f w10 ⟨i9,s1_1,s2_1,s17_1,s18_1,s19_1,nn19_1,B4,T,hm⟩
    rcases g with _|g
    ·simp only [m_impl_closedBelow_L1] at hm; cases hm
    obtain ⟨rec1,hrec1,hm⟩ :∃z,z=m_impl_closedBelow_L1 d0 d1 self K1 g∧m_impl_closedBelow_B1 d0 d1 self z K1 i9=some r:=⟨_,rfl,hm⟩
    unfold m_impl_closedBelow_B1 at hm
    refine wp_seq<|wp_rs rfl<|RQ.y rfl (Y.binI (v:=.bool (decide (i9 < (d0.kids.length:Int)))) s19_1 s18_1 rfl)<|RQ.nil<|then_n<|wp_seq ?_
    rcases bcases (decide (i9 < (d0.kids.length:Int))) with c11|c11
    ·replace hm:=cF c11 hm
     have pc11:=of_decide_eq_false c11
     refine cond_f rfl (vb rfl c11)<|wp_exit ?_
     exact (then_x (then_x (hit_x ⟨_,rfl,⟨B4,T,(by rw [hK1] at hm; exact hm)⟩⟩)))
    replace hm:=cT c11 hm
    have pc11:=of_decide_eq_true c11
    refine cond_t rfl (vb rfl c11)<|wp_skip<|then_n<|wp_seq<|wp_block<|wp_seq<|wp_rl rfl<|RL.y rfl (Y.move (v:=.int .i64 i9) s19_1) ?_
    obtain ⟨x12,hx15,hm⟩:=bnd hm
    obtain ⟨k13,hk16,hl17,hx15⟩:=getI_some hx15
    obtain ⟨b19,o20,rfl,hbb19⟩:=h2.addr (by omega)
    obtain ⟨cs14,hRcs14,hc18⟩:=h2.el hx15
    have hScs14:=hRcs14
    obtain ⟨A21,n21,c21,A22,n22,c22,rfl,⟨h21,r21⟩,⟨h22,r22⟩⟩:=(coreRd_out hRcs14)
    have e21:=h21.len; subst e21
    have q21:=len_le r21
    have e22:=h22.len; subst e22
    have q22:=len_le r22
    refine RL.y rfl (Y.indexAddr (m:=k13) (sz:=4) s17_1 s19_1 hk16 hl17 (by kernel_rfl))<|RL.y rfl (Y.loadN (cs:=[.int .i64 x12.kind,.int .i64 x12.value,.slice A21 x12.data.length c21,.slice A22 x12.kids.length c22]) rfl (by kernel_rfl) (cells4 (eqC (cellT T (hc18 0 _ rfl))) (eqC (cellT T (hc18 1 _ rfl))) (eqC (cellT T (hc18 2 _ rfl))) (eqC (cellT T (hc18 3 _ rfl))))) ?_
    refine RL.alloc (z:=.agg #[.int .i64 0,.int .i64 0,.slice none 0 0,.slice none 0 0]) rfl (by kernel_rfl) (fun w23 B24 hb25 szw23=>?_)
    replace B24:Blk w23 w10.heap.size 78 #[.int .i64 0,.int .i64 0,.slice none 0 0,.slice none 0 0]:=B24
    have GB24:w.heap.size≤w10.heap.size:=T.size
    have Eob26_ob6:=Nat.ne_of_lt B4.lt
    have B4:=blkT B4 hb25
    have T:=Tt T hb25
    refine RL.y rfl (Y.assign (v:=.int .i64 i9) rfl) ?_
    refine RL.store (v:=.agg #[.int .i64 x12.kind,.int .i64 x12.value,.slice A21 x12.data.length c21,.slice A22 x12.kids.length c22]) (cs':=#[.int .i64 x12.kind,.int .i64 x12.value,.slice A21 x12.data.length c21,.slice A22 x12.kids.length c22]) rfl rfl rfl B24 (by kernel_rfl) (by rfl) (by rfl) (by rfl) (fun w27 B28 ho29=>?_)
    have szw27:=ho29.size
    have B4:=B4.only_ ho29 (by intro hin; simp at hin; exact Eob26_ob6 hin)
    have T:=T.trans (ho29.below (by first|(simp; done)|(simp; omega)))
    refine RL.nil<|then_n<|wp_seq<|wp_rbd (by kernel_rfl) (by kernel_rfl)<|RQ.y rfl (Y.loadN (cs:=[.int .i64 x12.kind,.int .i64 x12.value,.slice A21 x12.data.length c21,.slice A22 x12.kids.length c22]) rfl (by kernel_rfl) (cells4 (beC (blkCell B28 (i:=0) rfl)) (beC (blkCell B28 (i:=1) rfl)) (beC (blkCell B28 (i:=2) rfl)) (beC (blkCell B28 (i:=3) rfl))))<|RQ.y rfl (Y.move (v:=.int .i64 d1) s1_1)<|RQ.y rfl (Y.loadN (cs:=[.int .i64 d0.kind,.int .i64 d0.value,.slice A1 d0.data.length c1,.slice (some ⟨b19,o20,none⟩) d0.kids.length c2]) s2_1 (by kernel_rfl) (cells4 (beC (blkCell B4 (i:=0) rfl)) (beC (blkCell B4 (i:=1) rfl)) (beC (blkCell B4 (i:=2) rfl)) (beC (blkCell B4 (i:=3) rfl))))<|RQ.y rfl (Y.move (v:=.int .i64 i9) rfl) ?_
    obtain ⟨y30,e31,hm⟩:=bnd hm
    refine RQ.call rfl (am2 rfl rfl) (by kernel_rfl) (v:=.int .i64 y30) (bel (K:=fun _=>True) fun w' hb'=>(c_m_impl_Core_binds d0 i9 _ e31 _ w' (stArg (R:=coreRd) (coreRd_in ⟨_,_,_,_,_,_,rfl,⟨SlAt.now intRd_ok h1 (Nat.le_refl _) (Tt T hb'),r1⟩,⟨SlAt.now coreRd_ok h2 (Nat.le_refl _) (Tt T hb'),r2⟩⟩)))) ?_
    obtain ⟨s32,ks32,hm⟩:=bnd hm
    replace ks32:=ck_some ks32
    refine RQ.y rfl (Y.binI (v:=.int .i64 s32) rfl rfl (by rw [binI_add ks32.2,ks32.1])) ?_
    obtain ⟨y33,e34,hm⟩:=bnd hm
    refine RQ.call rfl (am2 rfl rfl) (by kernel_rfl) (v:=.bool y33) (bel (K:=fun _=>True) fun w' hb'=>(ih x12 s32 _ (by rw [← hself]; exact e34) _ w' (stArg (R:=coreRd) (coreRd_in ⟨_,_,_,_,_,_,rfl,⟨SlAt.now intRd_ok h21 (Nat.le_refl _) (Tt T hb'),r21⟩,⟨SlAt.now coreRd_ok h22 (Nat.le_refl _) (Tt T hb'),r22⟩⟩))))<|RQ.y rfl (Y.not (b':=(!y33)) rfl rfl)<|RQ.nil ?_
    intro w35 hb36
    have szw35:=hb36.size
    have B4:=blkT B4 hb36
    have T:=Tt T hb36
    refine then_n ?_
    rcases bcases y33 with c37|c37
    ·replace hm:=cF c37 hm
     refine cond_t rfl (vbn rfl c37 rfl)<|wp_seq<|wp_rs rfl<|RQ.y rfl (Y.assign (v:=.bool false) rfl)<|RQ.nil<|then_n<|wp_ret ?_
     obtain rfl:=sj hm
     exact (blk_r (then_r (then_r (hit_r (blk_r (then_r (ret1 rfl rfl rfl ⟨rfl,T⟩)))))))
    replace hm:=cT c37 hm
    refine cond_f rfl (vbn rfl c37 rfl)<|wp_skip ?_
    refine blk_n (then_n ?_)
    refine wp_rs rfl<|RQ.y rfl (Y.binI s19_1 rfl (binI_add (m:=i9) (by omega)))<|RQ.y rfl (Y.move (v:=.int .i64 (i9+1)) rfl)<|RQ.nil ?_
    exact (then_n ⟨g,_,Nat.lt_succ_self _,rfl,⟨(i9+1),s1_1,s2_1,s17_1,s18_1,rfl,(by omega),B4,T,(by rw [← hrec1]; exact hm)⟩⟩)
   replace hm:=cT c7 hm
   refine RQ.y (wantT (dj:=10) rfl (vb rfl c7)) (Y.fieldAddr (off:=1) rfl (by kernel_rfl))<|RQ.y (wantT (dj:=10) rfl (vb rfl c7)) (Y.load (v:=.int .i64 d0.value) rfl (by kernel_rfl) (eqC (blkCell B4 (i:=1) rfl)))<|RQ.y (wantT (dj:=10) rfl (vb rfl c7)) (Y.move (v:=.int .i64 d1) s1)<|RQ.y (wantT (dj:=10) rfl (vb rfl c7)) (Y.binI (v:=.bool (decide (d0.value ≥ d1))) rfl rfl rfl)<|RQ.y rfl (Y.pick (b:=true) (v:=.bool (decide (d0.value ≥ d1))) (vb rfl c7) rfl)<|RQ.nil<|then_n ?_
   rcases bcases (decide (d0.value ≥ d1)) with c39|c39
   ·replace hm:=cF c39 hm
    have pc39:=of_decide_eq_false c39
    refine cond_f rfl (vb rfl c39)<|wp_skip<|then_n<|wp_seq<|wp_seq<|wp_rs rfl<|RQ.y rfl (Y.fieldAddr (off:=3) rfl (by kernel_rfl))<|RQ.y rfl (Y.load (v:=.slice A2 d0.kids.length c2) rfl (by kernel_rfl) (eqC (blkCell B4 (i:=3) rfl)))<|RQ.y rfl (Y.len (by kernel_rfl) rfl)<|RQ.y rfl (Y.move (v:=.int .i64 0) rfl)<|RQ.nil<|then_n<|wp_block ?_
    obtain ⟨K2,hK2,hm⟩ :∃K,K=m_impl_closedBelow_A2∧m_impl_closedBelow_L2 d0 d1 self K (d0.kids.length+1) 0=some r:=⟨_,rfl,hm⟩
    refine wp_loopX (fun g f w'=>∃(i41:Int),f 1=.int .i64 d1∧f 2=.pointer (some ⟨w.heap.size,0,none⟩)∧f 17=.slice A2 d0.kids.length c2∧f 18=.int .i64 (d0.kids.length:Int)∧f 19=.int .i64 i41∧0≤i41∧Blk w' w.heap.size 78 #[.int .i64 d0.kind,.int .i64 d0.value,.slice A1 d0.data.length c1,.slice A2 d0.kids.length c2]∧Below w.heap.size w w'∧m_impl_closedBelow_L2 d0 d1 self K2 g i41=some r) 0 (fun f w'=>Blk w' w.heap.size 78 #[.int .i64 d0.kind,.int .i64 d0.value,.slice A1 d0.data.length c1,.slice A2 d0.kids.length c2]∧Below w.heap.size w w'∧m_impl_closedBelow_A2  = some r) (d0.kids.length+1) ⟨0,s1,rfl,rfl,rfl,rfl,(by omega),B4,T,hm⟩ ?_ ?_
    ·rintro f w40 ⟨B4,T,hm⟩
     unfold m_impl_closedBelow_A2 at hm
     refine blk_hit (then_n ?_)
     refine wp_seq<|wp_rs rfl<|RQ.y rfl (Y.assign (v:=.bool true) rfl)<|RQ.nil<|then_n<|wp_ret ?_
     obtain rfl:=sj hm
     exact (ret1 rfl rfl rfl ⟨rfl,T⟩)
    rintro g f w42 ⟨i41,s1_2,s2_2,s17_2,s18_2,s19_2,nn19_2,B4,T,hm⟩
    rcases g with _|g
    ·simp only [m_impl_closedBelow_L2] at hm; cases hm
    obtain ⟨rec2,hrec2,hm⟩ :∃z,z=m_impl_closedBelow_L2 d0 d1 self K2 g∧m_impl_closedBelow_B2 d0 d1 self z K2 i41=some r:=⟨_,rfl,hm⟩
    unfold m_impl_closedBelow_B2 at hm
    refine wp_seq<|wp_rs rfl<|RQ.y rfl (Y.binI (v:=.bool (decide (i41 < (d0.kids.length:Int)))) s19_2 s18_2 rfl)<|RQ.nil<|then_n<|wp_seq ?_
    rcases bcases (decide (i41 < (d0.kids.length:Int))) with c43|c43
    ·replace hm:=cF c43 hm
     have pc43:=of_decide_eq_false c43
     refine cond_f rfl (vb rfl c43)<|wp_exit ?_
     exact (then_x (then_x (hit_x ⟨_,rfl,⟨B4,T,(by rw [hK2] at hm; exact hm)⟩⟩)))
    replace hm:=cT c43 hm
    have pc43:=of_decide_eq_true c43
    refine cond_t rfl (vb rfl c43)<|wp_skip<|then_n<|wp_seq<|wp_block<|wp_seq<|wp_rl rfl<|RL.y rfl (Y.move (v:=.int .i64 i41) s19_2) ?_
    obtain ⟨x44,hx47,hm⟩:=bnd hm
    obtain ⟨k45,hk48,hl49,hx47⟩:=getI_some hx47
    obtain ⟨b51,o52,rfl,hbb51⟩:=h2.addr (by omega)
    obtain ⟨cs46,hRcs46,hc50⟩:=h2.el hx47
    have hScs46:=hRcs46
    obtain ⟨A53,n53,c53,A54,n54,c54,rfl,⟨h53,r53⟩,⟨h54,r54⟩⟩:=(coreRd_out hRcs46)
    have e53:=h53.len; subst e53
    have q53:=len_le r53
    have e54:=h54.len; subst e54
    have q54:=len_le r54
    refine RL.y rfl (Y.indexAddr (m:=k45) (sz:=4) s17_2 s19_2 hk48 hl49 (by kernel_rfl))<|RL.y rfl (Y.loadN (cs:=[.int .i64 x44.kind,.int .i64 x44.value,.slice A53 x44.data.length c53,.slice A54 x44.kids.length c54]) rfl (by kernel_rfl) (cells4 (eqC (cellT T (hc50 0 _ rfl))) (eqC (cellT T (hc50 1 _ rfl))) (eqC (cellT T (hc50 2 _ rfl))) (eqC (cellT T (hc50 3 _ rfl))))) ?_
    refine RL.alloc (z:=.agg #[.int .i64 0,.int .i64 0,.slice none 0 0,.slice none 0 0]) rfl (by kernel_rfl) (fun w55 B56 hb57 szw55=>?_)
    replace B56:Blk w55 w42.heap.size 78 #[.int .i64 0,.int .i64 0,.slice none 0 0,.slice none 0 0]:=B56
    have GB56:w.heap.size≤w42.heap.size:=T.size
    have Eob58_ob6:=Nat.ne_of_lt B4.lt
    have B4:=blkT B4 hb57
    have T:=Tt T hb57
    refine RL.y rfl (Y.assign (v:=.int .i64 i41) rfl) ?_
    refine RL.store (v:=.agg #[.int .i64 x44.kind,.int .i64 x44.value,.slice A53 x44.data.length c53,.slice A54 x44.kids.length c54]) (cs':=#[.int .i64 x44.kind,.int .i64 x44.value,.slice A53 x44.data.length c53,.slice A54 x44.kids.length c54]) rfl rfl rfl B56 (by kernel_rfl) (by rfl) (by rfl) (by rfl) (fun w59 B60 ho61=>?_)
    have szw59:=ho61.size
    have B4:=B4.only_ ho61 (by intro hin; simp at hin; exact Eob58_ob6 hin)
    have T:=T.trans (ho61.below (by first|(simp; done)|(simp; omega)))
    refine RL.nil<|then_n<|wp_seq<|wp_rbd (by kernel_rfl) (by kernel_rfl)<|RQ.y rfl (Y.loadN (cs:=[.int .i64 x44.kind,.int .i64 x44.value,.slice A53 x44.data.length c53,.slice A54 x44.kids.length c54]) rfl (by kernel_rfl) (cells4 (beC (blkCell B60 (i:=0) rfl)) (beC (blkCell B60 (i:=1) rfl)) (beC (blkCell B60 (i:=2) rfl)) (beC (blkCell B60 (i:=3) rfl))))<|RQ.y rfl (Y.move (v:=.int .i64 d1) s1_2)<|RQ.y rfl (Y.loadN (cs:=[.int .i64 d0.kind,.int .i64 d0.value,.slice A1 d0.data.length c1,.slice (some ⟨b51,o52,none⟩) d0.kids.length c2]) s2_2 (by kernel_rfl) (cells4 (beC (blkCell B4 (i:=0) rfl)) (beC (blkCell B4 (i:=1) rfl)) (beC (blkCell B4 (i:=2) rfl)) (beC (blkCell B4 (i:=3) rfl))))<|RQ.y rfl (Y.move (v:=.int .i64 i41) rfl) ?_
    obtain ⟨y62,e63,hm⟩:=bnd hm
    refine RQ.call rfl (am2 rfl rfl) (by kernel_rfl) (v:=.int .i64 y62) (bel (K:=fun _=>True) fun w' hb'=>(c_m_impl_Core_binds d0 i41 _ e63 _ w' (stArg (R:=coreRd) (coreRd_in ⟨_,_,_,_,_,_,rfl,⟨SlAt.now intRd_ok h1 (Nat.le_refl _) (Tt T hb'),r1⟩,⟨SlAt.now coreRd_ok h2 (Nat.le_refl _) (Tt T hb'),r2⟩⟩)))) ?_
    obtain ⟨s64,ks64,hm⟩:=bnd hm
    replace ks64:=ck_some ks64
    refine RQ.y rfl (Y.binI (v:=.int .i64 s64) rfl rfl (by rw [binI_add ks64.2,ks64.1])) ?_
    obtain ⟨y65,e66,hm⟩:=bnd hm
    refine RQ.call rfl (am2 rfl rfl) (by kernel_rfl) (v:=.bool y65) (bel (K:=fun _=>True) fun w' hb'=>(ih x44 s64 _ (by rw [← hself]; exact e66) _ w' (stArg (R:=coreRd) (coreRd_in ⟨_,_,_,_,_,_,rfl,⟨SlAt.now intRd_ok h53 (Nat.le_refl _) (Tt T hb'),r53⟩,⟨SlAt.now coreRd_ok h54 (Nat.le_refl _) (Tt T hb'),r54⟩⟩))))<|RQ.y rfl (Y.not (b':=(!y65)) rfl rfl)<|RQ.nil ?_
    intro w67 hb68
    have szw67:=hb68.size
    have B4:=blkT B4 hb68
    have T:=Tt T hb68
    refine then_n ?_
    rcases bcases y65 with c69|c69
    ·replace hm:=cF c69 hm
     refine cond_t rfl (vbn rfl c69 rfl)<|wp_seq<|wp_rs rfl<|RQ.y rfl (Y.assign (v:=.bool false) rfl)<|RQ.nil<|then_n<|wp_ret ?_
     obtain rfl:=sj hm
     exact (blk_r (then_r (then_r (hit_r (blk_r (then_r (ret1 rfl rfl rfl ⟨rfl,T⟩)))))))
    replace hm:=cT c69 hm
    refine cond_f rfl (vbn rfl c69 rfl)<|wp_skip ?_
    refine blk_n (then_n ?_)
    refine wp_rs rfl<|RQ.y rfl (Y.binI s19_2 rfl (binI_add (m:=i41) (by omega)))<|RQ.y rfl (Y.move (v:=.int .i64 (i41+1)) rfl)<|RQ.nil ?_
    exact (then_n ⟨g,_,Nat.lt_succ_self _,rfl,⟨(i41+1),s1_2,s2_2,s17_2,s18_2,rfl,(by omega),B4,T,(by rw [← hrec2]; exact hm)⟩⟩)
   replace hm:=cT c39 hm
   have pc39:=of_decide_eq_true c39
   refine cond_t rfl (vb rfl c39)<|wp_seq<|wp_rs rfl<|RQ.y rfl (Y.assign (v:=.bool false) rfl)<|RQ.nil<|then_n<|wp_ret ?_
   obtain rfl:=sj hm
   exact (then_r (ret1 rfl rfl rfl ⟨rfl,T⟩))
noncomputable def m_impl_IsClosed (d0:DCore):Option Bool:=
  ((m_impl_ValidCore d0).bind fun y7=>(bif y7 then ((m_impl_closedBelow (SizeOf.sizeOf d0) d0 0).bind fun y12=>some y12) else some false))
set_option maxHeartbeats 2000000 in
theorem c_m_impl_IsClosed (d0:DCore) (r:Bool) (hm:m_impl_IsClosed d0=some r) (v0:Value) (w:World) (hv0:St coreRd w v0 d0) :
    Calls Tryz.prog 220 #[v0] w fun e w'=>e=.returned (.bool r)∧Below w.heap.size w w':=by
  obtain ⟨csa0,rfl,hRR0⟩:=hv0
  obtain ⟨A1,n1,c1,A2,n2,c2,rfl,⟨h1,r1⟩,⟨h2,r2⟩⟩:=(coreRd_out hRR0)
  have e1:=h1.len; subst e1
  have q1:=len_le r1
  have e2:=h2.len; subst e2
  have q2:=len_le r2
  have T:=Below.refl w.heap.size w
  unfold m_impl_IsClosed at hm
  refine enter 9 Tryz.func220 rfl rfl rfl ?_
  intro f hf
  have s0:f 0=.agg #[.int .i64 d0.kind,.int .i64 d0.value,.slice A1 d0.data.length c1,.slice A2 d0.kids.length c2]:=hf 0 _ rfl
  refine wp_seq<|wp_rl rfl ?_
  refine RL.box rfl s0 (fun w3 B4 hb5 szw3=>?_)
  replace B4:Blk w3 w.heap.size 78 #[.int .i64 d0.kind,.int .i64 d0.value,.slice A1 d0.data.length c1,.slice A2 d0.kids.length c2]:=B4
  have GB4:w.heap.size≤w.heap.size:=T.size
  have T:=Tt T hb5
  refine RL.y rfl (Y.assign (v:=.bool false) rfl)<|RL.nil<|then_n<|wp_seq<|wp_rb rfl<|RQ.y rfl (Y.loadN (cs:=[.int .i64 d0.kind,.int .i64 d0.value,.slice A1 d0.data.length c1,.slice A2 d0.kids.length c2]) rfl (by kernel_rfl) (cells4 (beC (blkCell B4 (i:=0) rfl)) (beC (blkCell B4 (i:=1) rfl)) (beC (blkCell B4 (i:=2) rfl)) (beC (blkCell B4 (i:=3) rfl)))) ?_
  obtain ⟨y7,e8,hm⟩:=bnd hm
  refine RQ.call rfl (am1 rfl) (by kernel_rfl) (v:=.bool y7) (bel (K:=fun _=>True) fun w' hb'=>(c_m_impl_ValidCore d0 _ e8 _ w' (stArg (R:=coreRd) (coreRd_in ⟨_,_,_,_,_,_,rfl,⟨SlAt.now intRd_ok h1 (Nat.le_refl _) (Tt T hb'),r1⟩,⟨SlAt.now coreRd_ok h2 (Nat.le_refl _) (Tt T hb'),r2⟩⟩))))<|RQ.y rfl (Y.move (v:=.bool y7) rfl) ?_
  rcases bcases y7 with c9|c9
  ·replace hm:=cF c9 hm
   refine RQ.skip (wantN (dj:=5) rfl (vb rfl c9) rfl)<|RQ.skip (wantN (dj:=5) rfl (vb rfl c9) rfl)<|RQ.y rfl (Y.pick (b:=false) (v:=.bool false) (vb rfl c9) rfl)<|RQ.y rfl (Y.assign (v:=.bool false) rfl)<|RQ.nil ?_
   intro w10 hb11
   have szw10:=hb11.size
   have T:=Tt T hb11
   refine then_n<|wp_ret ?_
   obtain rfl:=sj hm
   exact (ret1 rfl rfl rfl ⟨rfl,T⟩)
  replace hm:=cT c9 hm
  refine RQ.y (wantT (dj:=5) rfl (vb rfl c9)) (Y.loadN (cs:=[.int .i64 d0.kind,.int .i64 d0.value,.slice A1 d0.data.length c1,.slice A2 d0.kids.length c2]) rfl (by kernel_rfl) (cells4 (beC (blkCell B4 (i:=0) rfl)) (beC (blkCell B4 (i:=1) rfl)) (beC (blkCell B4 (i:=2) rfl)) (beC (blkCell B4 (i:=3) rfl)))) ?_
  obtain ⟨y12,e13,hm⟩:=bnd hm
  refine RQ.call (wantT (dj:=5) rfl (vb rfl c9)) (am2 rfl rfl) (by kernel_rfl) (v:=.bool y12) (bel (K:=fun _=>True) fun w' hb'=>(c_m_impl_closedBelow (SizeOf.sizeOf d0) d0 0 _ e13 _ w' (stArg (R:=coreRd) (coreRd_in ⟨_,_,_,_,_,_,rfl,⟨SlAt.now intRd_ok h1 (Nat.le_refl _) (Tt T hb'),r1⟩,⟨SlAt.now coreRd_ok h2 (Nat.le_refl _) (Tt T hb'),r2⟩⟩))))<|RQ.y rfl (Y.pick (b:=true) (v:=.bool y12) (vb rfl c9) rfl)<|RQ.y rfl (Y.assign (v:=.bool y12) rfl)<|RQ.nil ?_
  intro w14 hb15
  have szw14:=hb15.size
  have T:=Tt T hb15
  refine then_n<|wp_ret ?_
  obtain rfl:=sj hm
  exact (ret1 rfl rfl rfl ⟨rfl,T⟩)
noncomputable def m_impl_IsErased_1 (d0:DCore):Option Bool:=
  (bif (d0.kind==6) then some true else some (d0.kind==7))
set_option maxHeartbeats 2000000 in
theorem c_m_impl_IsErased_1 (d0:DCore) (r:Bool) (hm:m_impl_IsErased_1 d0=some r) (v0:Value) (w:World) (hv0:St coreRd w v0 d0) :
    Calls Tryz.prog 224 #[v0] w fun e w'=>e=.returned (.bool r)∧Below w.heap.size w w':=by
  obtain ⟨csa0,rfl,hRR0⟩:=hv0
  obtain ⟨A1,n1,c1,A2,n2,c2,rfl,⟨h1,r1⟩,⟨h2,r2⟩⟩:=(coreRd_out hRR0)
  have e1:=h1.len; subst e1
  have q1:=len_le r1
  have e2:=h2.len; subst e2
  have q2:=len_le r2
  have T:=Below.refl w.heap.size w
  unfold m_impl_IsErased_1 at hm
  refine enter 11 Tryz.func224 rfl rfl rfl ?_
  intro f hf
  have s0:f 0=.agg #[.int .i64 d0.kind,.int .i64 d0.value,.slice A1 d0.data.length c1,.slice A2 d0.kids.length c2]:=hf 0 _ rfl
  refine wp_seq<|wp_rl rfl ?_
  refine RL.box rfl s0 (fun w3 B4 hb5 szw3=>?_)
  replace B4:Blk w3 w.heap.size 78 #[.int .i64 d0.kind,.int .i64 d0.value,.slice A1 d0.data.length c1,.slice A2 d0.kids.length c2]:=B4
  have GB4:w.heap.size≤w.heap.size:=T.size
  have T:=Tt T hb5
  refine RL.y rfl (Y.assign (v:=.bool false) rfl)<|RL.nil<|then_n<|wp_seq<|wp_rs rfl<|RQ.y rfl (Y.fieldAddr (off:=0) rfl (by kernel_rfl))<|RQ.y rfl (Y.load (v:=.int .i64 d0.kind) rfl (by kernel_rfl) (eqC (blkCell B4 (i:=0) rfl)))<|RQ.y rfl (Y.binI (v:=.bool (d0.kind==6)) rfl rfl rfl)<|RQ.y rfl (Y.move (v:=.bool (d0.kind==6)) rfl) ?_
  rcases bcases (d0.kind==6) with c7|c7
  ·replace hm:=cF c7 hm
   refine RQ.y (wantT (dj:=6) rfl (vb rfl c7)) (Y.fieldAddr (off:=0) rfl (by kernel_rfl))<|RQ.y (wantT (dj:=6) rfl (vb rfl c7)) (Y.load (v:=.int .i64 d0.kind) rfl (by kernel_rfl) (eqC (blkCell B4 (i:=0) rfl)))<|RQ.y (wantT (dj:=6) rfl (vb rfl c7)) (Y.binI (v:=.bool (d0.kind==7)) rfl rfl rfl)<|RQ.y rfl (Y.pick (b:=false) (v:=.bool (d0.kind==7)) (vb rfl c7) rfl)<|RQ.y rfl (Y.assign (v:=.bool (d0.kind==7)) rfl)<|RQ.nil<|then_n<|wp_ret ?_
   obtain rfl:=sj hm
   exact (ret1 rfl rfl rfl ⟨rfl,T⟩)
  replace hm:=cT c7 hm
  iterate 3 refine RQ.skip (wantN (dj:=6) rfl (vb rfl c7) rfl) ?_
  refine RQ.y rfl (Y.pick (b:=true) (v:=.bool true) (vb rfl c7) rfl)<|RQ.y rfl (Y.assign (v:=.bool true) rfl)<|RQ.nil<|then_n<|wp_ret ?_
  obtain rfl:=sj hm
  exact (ret1 rfl rfl rfl ⟨rfl,T⟩)
noncomputable def m_impl_namesOnly_1_1 (d0:Int) (d1:Int):Option Bool:=
  some (decide (d0 ≥ d1))
set_option maxHeartbeats 2000000 in
theorem c_m_impl_namesOnly_1_1 (d0:Int) (d1:Int) (r:Bool) (hm:m_impl_namesOnly_1_1 d0 d1=some r) (v1:Value) (w:World) (hv1:Pt intRd w v1 d1) :
    Calls Tryz.prog 226 #[.int .i64 d0,v1] w fun e w'=>e=.returned (.bool r)∧Below w.heap.size w w':=by
  obtain ⟨ba1,oa1,csa1,rfl,hba1,hRa1,hca1⟩:=hv1
  have hSa1:=hRa1
  obtain rfl:=hRa1
  have T:=Below.refl w.heap.size w
  unfold m_impl_namesOnly_1_1 at hm
  refine enter 7 Tryz.func226 rfl rfl rfl ?_
  intro f hf
  have s0:f 0=.int .i64 d0:=hf 0 _ rfl
  have s1:f 1=.pointer (some ⟨ba1,oa1,none⟩):=hf 1 _ rfl
  refine wp_seq<|wp_rs rfl<|RQ.y rfl (Y.assign (v:=.bool false) rfl)<|RQ.nil<|then_n<|wp_seq<|wp_rs rfl<|RQ.y rfl (Y.move (v:=.int .i64 d0) s0)<|RQ.y rfl (Y.load (v:=.int .i64 d1) s1 (by kernel_rfl) (eqC (cellT T (hca1 0 _ rfl))))<|RQ.y rfl (Y.binI (v:=.bool (decide (d0 ≥ d1))) rfl rfl rfl)<|RQ.y rfl (Y.assign (v:=.bool (decide (d0 ≥ d1))) rfl)<|RQ.nil<|then_n<|wp_ret ?_
  obtain rfl:=sj hm
  exact (ret1 rfl rfl rfl ⟨rfl,T⟩)
noncomputable def m_impl_namesOnly_1 (d0:DCore) (d1:Int):Option Bool:=
  (bif (d0.kind==11) then (bif (decide (d0.value ≥ d1)) then some true else ((m_slices_ContainsFunc_int64_int64 d0.data (fun x0=>m_impl_namesOnly_1_1 x0 d1)).bind fun y13=>some y13)) else ((m_slices_ContainsFunc_int64_int64 d0.data (fun x0=>m_impl_namesOnly_1_1 x0 d1)).bind fun y8=>some y8))
set_option maxHeartbeats 2000000 in
theorem c_m_impl_namesOnly_1 (d0:DCore) (d1:Int) (r:Bool) (hm:m_impl_namesOnly_1 d0 d1=some r) (v0:Value) (v1:Value) (w:World) (hv0:St coreRd w v0 d0) (hv1:Pt intRd w v1 d1) :
    Calls Tryz.prog 225 #[v0,v1] w fun e w'=>e=.returned (.bool r)∧Below w.heap.size w w':=by
  obtain ⟨csa0,rfl,hRR0⟩:=hv0
  obtain ⟨A1,n1,c1,A2,n2,c2,rfl,⟨h1,r1⟩,⟨h2,r2⟩⟩:=(coreRd_out hRR0)
  have e1:=h1.len; subst e1
  have q1:=len_le r1
  have e2:=h2.len; subst e2
  have q2:=len_le r2
  obtain ⟨ba1,oa1,csa1,rfl,hba1,hRa1,hca1⟩:=hv1
  have hSa1:=hRa1
  obtain rfl:=hRa1
  have T:=Below.refl w.heap.size w
  unfold m_impl_namesOnly_1 at hm
  refine enter 19 Tryz.func225 rfl rfl rfl ?_
  intro f hf
  have s0:f 0=.agg #[.int .i64 d0.kind,.int .i64 d0.value,.slice A1 d0.data.length c1,.slice A2 d0.kids.length c2]:=hf 0 _ rfl
  have s1:f 1=.pointer (some ⟨ba1,oa1,none⟩):=hf 1 _ rfl
  refine wp_seq<|wp_rl rfl ?_
  refine RL.box rfl s0 (fun w3 B4 hb5 szw3=>?_)
  replace B4:Blk w3 w.heap.size 78 #[.int .i64 d0.kind,.int .i64 d0.value,.slice A1 d0.data.length c1,.slice A2 d0.kids.length c2]:=B4
  have GB4:w.heap.size≤w.heap.size:=T.size
  have T:=Tt T hb5
  refine RL.y rfl (Y.assign (v:=.bool false) rfl)<|RL.nil<|then_n<|wp_seq<|wp_rb rfl<|RQ.y rfl (Y.fieldAddr (off:=0) rfl (by kernel_rfl))<|RQ.y rfl (Y.load (v:=.int .i64 d0.kind) rfl (by kernel_rfl) (beC (blkCell B4 (i:=0) rfl)))<|RQ.y rfl (Y.binI (v:=.bool (d0.kind==11)) rfl rfl rfl)<|RQ.y rfl (Y.move (v:=.bool (d0.kind==11)) rfl) ?_
  rcases bcases (d0.kind==11) with c7|c7
  ·replace hm:=cF c7 hm
   iterate 4 refine RQ.skip (wantN (dj:=7) rfl (vb rfl c7) rfl) ?_
   refine RQ.y rfl (Y.pick (b:=false) (v:=.bool false) (vb rfl c7) rfl)<|RQ.y rfl (Y.move (v:=.bool false) rfl)<|RQ.y rfl (Y.fieldAddr (off:=2) rfl (by kernel_rfl))<|RQ.y rfl (Y.load (v:=.slice A1 d0.data.length c1) rfl (by kernel_rfl) (beC (blkCell B4 (i:=2) rfl)))<|RQ.y rfl (Y.makeFunc (vals:=#[.pointer (some ⟨ba1,oa1,none⟩)]) (am1 s1)) ?_
   obtain ⟨y8,e9,hm⟩:=bnd hm
   refine RQ.call rfl (am2 rfl rfl) (by kernel_rfl) (v:=.bool y8) (bel (K:=fun _=>True) fun w' hb'=>(c_m_slices_ContainsFunc_int64_int64 d0.data (fun x0=>m_impl_namesOnly_1_1 x0 d1) _ e9 _ _ _ w' (slArg intRd_ok h1 r1 (Tt T hb')) (by kernel_rfl) (fun x0 b hx w1 hb1=>Calls.arr (by simp) (c_m_impl_namesOnly_1_1 x0 d1 _ hx  _ w1  (ptArg intRd_ok hba1 hSa1 hca1 (Tt (Tt T hb') hb1))))))<|RQ.y rfl (Y.pick (b:=false) (v:=.bool y8) rfl rfl)<|RQ.y rfl (Y.assign (v:=.bool y8) rfl)<|RQ.nil ?_
   intro w10 hb11
   have szw10:=hb11.size
   have T:=Tt T hb11
   refine then_n<|wp_ret ?_
   obtain rfl:=sj hm
   exact (ret1 rfl rfl rfl ⟨rfl,T⟩)
  replace hm:=cT c7 hm
  refine RQ.y (wantT (dj:=7) rfl (vb rfl c7)) (Y.fieldAddr (off:=1) rfl (by kernel_rfl))<|RQ.y (wantT (dj:=7) rfl (vb rfl c7)) (Y.load (v:=.int .i64 d0.value) rfl (by kernel_rfl) (beC (blkCell B4 (i:=1) rfl)))<|RQ.y (wantT (dj:=7) rfl (vb rfl c7)) (Y.load (v:=.int .i64 d1) s1 (by kernel_rfl) (beC (cellT T (hca1 0 _ rfl))))<|RQ.y (wantT (dj:=7) rfl (vb rfl c7)) (Y.binI (v:=.bool (decide (d0.value ≥ d1))) rfl rfl rfl)<|RQ.y rfl (Y.pick (b:=true) (v:=.bool (decide (d0.value ≥ d1))) (vb rfl c7) rfl)<|RQ.y rfl (Y.move (v:=.bool (decide (d0.value ≥ d1))) rfl) ?_
  rcases bcases (decide (d0.value ≥ d1)) with c12|c12
  ·replace hm:=cF c12 hm
   have pc12:=of_decide_eq_false c12
   refine RQ.y (wantT (dj:=13) rfl (vb rfl c12)) (Y.fieldAddr (off:=2) rfl (by kernel_rfl))<|RQ.y (wantT (dj:=13) rfl (vb rfl c12)) (Y.load (v:=.slice A1 d0.data.length c1) rfl (by kernel_rfl) (beC (blkCell B4 (i:=2) rfl)))<|RQ.y (wantT (dj:=13) rfl (vb rfl c12)) (Y.makeFunc (vals:=#[.pointer (some ⟨ba1,oa1,none⟩)]) (am1 s1)) ?_
   obtain ⟨y13,e14,hm⟩:=bnd hm
   refine RQ.call (wantT (dj:=13) rfl (vb rfl c12)) (am2 rfl rfl) (by kernel_rfl) (v:=.bool y13) (bel (K:=fun _=>True) fun w' hb'=>(c_m_slices_ContainsFunc_int64_int64 d0.data (fun x0=>m_impl_namesOnly_1_1 x0 d1) _ e14 _ _ _ w' (slArg intRd_ok h1 r1 (Tt T hb')) (by kernel_rfl) (fun x0 b hx w1 hb1=>Calls.arr (by simp) (c_m_impl_namesOnly_1_1 x0 d1 _ hx  _ w1  (ptArg intRd_ok hba1 hSa1 hca1 (Tt (Tt T hb') hb1))))))<|RQ.y rfl (Y.pick (b:=false) (v:=.bool y13) (vb rfl c12) rfl)<|RQ.y rfl (Y.assign (v:=.bool y13) rfl)<|RQ.nil ?_
   intro w15 hb16
   have szw15:=hb16.size
   have T:=Tt T hb16
   refine then_n<|wp_ret ?_
   obtain rfl:=sj hm
   exact (ret1 rfl rfl rfl ⟨rfl,T⟩)
  replace hm:=cT c12 hm
  have pc12:=of_decide_eq_true c12
  iterate 4 refine RQ.skip (wantN (dj:=13) rfl (vb rfl c12) rfl) ?_
  refine RQ.y rfl (Y.pick (b:=true) (v:=.bool true) (vb rfl c12) rfl)<|RQ.y rfl (Y.assign (v:=.bool true) rfl)<|RQ.nil ?_
  intro w17 hb18
  have szw17:=hb18.size
  have T:=Tt T hb18
  refine then_n<|wp_ret ?_
  obtain rfl:=sj hm
  exact (ret1 rfl rfl rfl ⟨rfl,T⟩)
noncomputable def m_slices_IndexFunc_impl_Core_impl_Core_A1:Option Int:=
  some (-1)
noncomputable def m_slices_IndexFunc_impl_Core_impl_Core_B1 (d0:List DCore) (d1:DCore→Option Bool) (rec1:Int→Option Int) (K1:Option Int) (i2:Int):Option Int:=
  (bif (decide (i2 < (d0.length:Int))) then ((getI d0 i2).bind fun x5=>((d1 x5).bind fun y16=>(bif y16 then some i2 else (rec1 (i2+1))))) else (K1))
noncomputable def m_slices_IndexFunc_impl_Core_impl_Core_L1 (d0:List DCore) (d1:DCore→Option Bool) (K1:Option Int):Nat→Int→Option Int
  |0,_=>none
  |g+1,i2=>m_slices_IndexFunc_impl_Core_impl_Core_B1 d0 d1 (m_slices_IndexFunc_impl_Core_impl_Core_L1 d0 d1 K1 g) K1 i2
noncomputable def m_slices_IndexFunc_impl_Core_impl_Core (d0:List DCore) (d1:DCore→Option Bool):Option Int:=
  (m_slices_IndexFunc_impl_Core_impl_Core_L1 d0 d1 m_slices_IndexFunc_impl_Core_impl_Core_A1 (d0.length+1) 0)
set_option maxHeartbeats 2000000 in
theorem c_m_slices_IndexFunc_impl_Core_impl_Core (d0:List DCore) (d1:DCore→Option Bool) (r:Int) (hm:m_slices_IndexFunc_impl_Core_impl_Core d0 d1=some r) (v0:Value) (gf1:FuncId) (caps1:Array Value) (w:World) (hv0:Sl coreRd 4 w v0 d0) (hgo1:isGo Tryz.prog gf1=true) (hf1 :∀(x0:DCore) (b:Bool),d1 x0=some b→∀w1,Below w.heap.size w w1→∀y0,St coreRd w1 y0 x0→Calls Tryz.prog gf1 (#[y0] ++ caps1) w1 fun e w2=>e=.returned (.bool b)∧Below w1.heap.size w1 w2) :
    Calls Tryz.prog 221 #[v0,.func (.func gf1) #[] caps1] w fun e w'=>e=.returned (.int .i64 r)∧Below w.heap.size w w':=by
  obtain ⟨Aa0,na0,ca0,rfl,ha0,ra0⟩:=hv0
  have ea0:=ha0.len; subst ea0
  have qa0:=len_le ra0
  have T:=Below.refl w.heap.size w
  unfold m_slices_IndexFunc_impl_Core_impl_Core at hm
  refine enter 19 Tryz.func221 rfl rfl rfl ?_
  intro f hf
  have s0:f 0=.slice Aa0 d0.length ca0:=hf 0 _ rfl
  have s1:f 1=.func (.func gf1) #[] caps1:=hf 1 _ rfl
  refine wp_seq<|wp_rs rfl<|RQ.y rfl (Y.assign (v:=.int .i64 0) rfl)<|RQ.nil<|then_n<|wp_seq<|wp_seq<|wp_rs rfl<|RQ.y rfl (Y.move (v:=.slice Aa0 d0.length ca0) s0)<|RQ.y rfl (Y.len (by kernel_rfl) rfl)<|RQ.y rfl (Y.move (v:=.int .i64 0) rfl)<|RQ.nil<|then_n<|wp_block ?_
  obtain ⟨K1,hK1,hm⟩ :∃K,K=m_slices_IndexFunc_impl_Core_impl_Core_A1∧m_slices_IndexFunc_impl_Core_impl_Core_L1 d0 d1 K (d0.length+1) 0=some r:=⟨_,rfl,hm⟩
  refine wp_loopX (fun g f w'=>∃(i2:Int),f 0=.slice Aa0 d0.length ca0∧f 1=.func (.func gf1) #[] caps1∧f 7=.int .i64 (d0.length:Int)∧f 8=.int .i64 i2∧0≤i2∧Below w.heap.size w w'∧m_slices_IndexFunc_impl_Core_impl_Core_L1 d0 d1 K1 g i2=some r) 0 (fun f w'=>Below w.heap.size w w'∧m_slices_IndexFunc_impl_Core_impl_Core_A1  = some r) (d0.length+1) ⟨0,s0,s1,rfl,rfl,(by omega),T,hm⟩ ?_ ?_
  ·rintro f w1 ⟨T,hm⟩
   unfold m_slices_IndexFunc_impl_Core_impl_Core_A1 at hm
   refine blk_hit (then_n ?_)
   refine wp_seq<|wp_rs rfl<|RQ.y rfl (Y.assign (v:=.int .i64 (-1)) rfl)<|RQ.nil<|then_n<|wp_ret ?_
   obtain rfl:=sj hm
   exact (ret1 rfl rfl rfl ⟨rfl,T⟩)
  rintro g f w3 ⟨i2,s0_1,s1_1,s7_1,s8_1,nn8_1,T,hm⟩
  rcases g with _|g
  ·simp only [m_slices_IndexFunc_impl_Core_impl_Core_L1] at hm; cases hm
  obtain ⟨rec1,hrec1,hm⟩ :∃z,z=m_slices_IndexFunc_impl_Core_impl_Core_L1 d0 d1 K1 g∧m_slices_IndexFunc_impl_Core_impl_Core_B1 d0 d1 z K1 i2=some r:=⟨_,rfl,hm⟩
  unfold m_slices_IndexFunc_impl_Core_impl_Core_B1 at hm
  refine wp_seq<|wp_rs rfl<|RQ.y rfl (Y.binI (v:=.bool (decide (i2 < (d0.length:Int)))) s8_1 s7_1 rfl)<|RQ.nil<|then_n<|wp_seq ?_
  rcases bcases (decide (i2 < (d0.length:Int))) with c4|c4
  ·replace hm:=cF c4 hm
   have pc4:=of_decide_eq_false c4
   refine cond_f rfl (vb rfl c4)<|wp_exit ?_
   exact (then_x (then_x (hit_x ⟨_,rfl,⟨T,(by rw [hK1] at hm; exact hm)⟩⟩)))
  replace hm:=cT c4 hm
  have pc4:=of_decide_eq_true c4
  refine cond_t rfl (vb rfl c4)<|wp_skip<|then_n<|wp_seq<|wp_block<|wp_seq<|wp_rs rfl<|RQ.y rfl (Y.move (v:=.int .i64 i2) s8_1)<|RQ.y rfl (Y.assign (v:=.int .i64 i2) rfl)<|RQ.nil<|then_n<|wp_seq<|wp_rb rfl<|RQ.y rfl (Y.move (v:=.func (.func gf1) #[] caps1) s1_1)<|RQ.y rfl (Y.move (v:=.slice Aa0 d0.length ca0) s0_1)<|RQ.y rfl (Y.move (v:=.int .i64 i2) rfl) ?_
  obtain ⟨x5,hx8,hm⟩:=bnd hm
  obtain ⟨k6,hk9,hl10,hx8⟩:=getI_some hx8
  obtain ⟨b12,o13,rfl,hbb12⟩:=ha0.addr (by omega)
  obtain ⟨cs7,hRcs7,hc11⟩:=ha0.el hx8
  have hScs7:=hRcs7
  obtain ⟨A14,n14,c14,A15,n15,c15,rfl,⟨h14,r14⟩,⟨h15,r15⟩⟩:=(coreRd_out hRcs7)
  have e14:=h14.len; subst e14
  have q14:=len_le r14
  have e15:=h15.len; subst e15
  have q15:=len_le r15
  refine RQ.y rfl (Y.indexAddr (m:=k6) (sz:=4) rfl rfl hk9 hl10 (by kernel_rfl))<|RQ.y rfl (Y.loadN (cs:=[.int .i64 x5.kind,.int .i64 x5.value,.slice A14 x5.data.length c14,.slice A15 x5.kids.length c15]) rfl (by kernel_rfl) (cells4 (beC (cellT T (hc11 0 _ rfl))) (beC (cellT T (hc11 1 _ rfl))) (beC (cellT T (hc11 2 _ rfl))) (beC (cellT T (hc11 3 _ rfl))))) ?_
  obtain ⟨y16,e17,hm⟩:=bnd hm
  refine RQ.callV rfl rfl (am1 rfl) hgo1 (v:=.bool y16) (bel (K:=fun _=>True) fun w' hb'=>hf1 x5 y16 e17 w' (Tt T hb') _ (stArg (R:=coreRd) (coreRd_in ⟨_,_,_,_,_,_,rfl,⟨SlAt.now intRd_ok h14 (Nat.le_refl _) (Tt T hb'),r14⟩,⟨SlAt.now coreRd_ok h15 (Nat.le_refl _) (Tt T hb'),r15⟩⟩)))<|RQ.nil ?_
  intro w18 hb19
  have szw18:=hb19.size
  have T:=Tt T hb19
  refine then_n ?_
  rcases bcases y16 with c20|c20
  ·replace hm:=cF c20 hm
   refine cond_f rfl (vb rfl c20)<|wp_skip ?_
   refine blk_n (then_n ?_)
   refine wp_rs rfl<|RQ.y rfl (Y.binI s8_1 rfl (binI_add (m:=i2) (by omega)))<|RQ.y rfl (Y.move (v:=.int .i64 (i2+1)) rfl)<|RQ.nil ?_
   exact (then_n ⟨g,_,Nat.lt_succ_self _,rfl,⟨(i2+1),s0_1,s1_1,s7_1,rfl,(by omega),T,(by rw [← hrec1]; exact hm)⟩⟩)
  replace hm:=cT c20 hm
  refine cond_t rfl (vb rfl c20)<|wp_seq<|wp_rs rfl<|RQ.y rfl (Y.move (v:=.int .i64 i2) rfl)<|RQ.y rfl (Y.assign (v:=.int .i64 i2) rfl)<|RQ.nil<|then_n<|wp_ret ?_
  obtain rfl:=sj hm
  exact (blk_r (then_r (then_r (hit_r (blk_r (then_r (ret1 rfl rfl rfl ⟨rfl,T⟩)))))))
noncomputable def m_slices_ContainsFunc_impl_Core_impl_Core (d0:List DCore) (d1:DCore→Option Bool):Option Bool:=
  ((m_slices_IndexFunc_impl_Core_impl_Core d0 d1).bind fun y1=>some (decide (y1 ≥ 0)))
set_option maxHeartbeats 2000000 in
theorem c_m_slices_ContainsFunc_impl_Core_impl_Core (d0:List DCore) (d1:DCore→Option Bool) (r:Bool) (hm:m_slices_ContainsFunc_impl_Core_impl_Core d0 d1=some r) (v0:Value) (gf1:FuncId) (caps1:Array Value) (w:World) (hv0:Sl coreRd 4 w v0 d0) (hgo1:isGo Tryz.prog gf1=true) (hf1 :∀(x0:DCore) (b:Bool),d1 x0=some b→∀w1,Below w.heap.size w w1→∀y0,St coreRd w1 y0 x0→Calls Tryz.prog gf1 (#[y0] ++ caps1) w1 fun e w2=>e=.returned (.bool b)∧Below w1.heap.size w1 w2) :
    Calls Tryz.prog 181 #[v0,.func (.func gf1) #[] caps1] w fun e w'=>e=.returned (.bool r)∧Below w.heap.size w w':=by
  obtain ⟨Aa0,na0,ca0,rfl,ha0,ra0⟩:=hv0
  have ea0:=ha0.len; subst ea0
  have qa0:=len_le ra0
  have T:=Below.refl w.heap.size w
  unfold m_slices_ContainsFunc_impl_Core_impl_Core at hm
  refine enter 9 Tryz.func181 rfl rfl rfl ?_
  intro f hf
  have s0:f 0=.slice Aa0 d0.length ca0:=hf 0 _ rfl
  have s1:f 1=.func (.func gf1) #[] caps1:=hf 1 _ rfl
  refine wp_seq<|wp_rs rfl<|RQ.y rfl (Y.assign (v:=.bool false) rfl)<|RQ.nil<|then_n<|wp_seq<|wp_rb rfl<|RQ.y rfl (Y.move (v:=.slice Aa0 d0.length ca0) s0)<|RQ.y rfl (Y.move (v:=.func (.func gf1) #[] caps1) s1) ?_
  obtain ⟨y1,e2,hm⟩:=bnd hm
  refine RQ.call rfl (am2 rfl rfl) (by kernel_rfl) (v:=.int .i64 y1) (bel (K:=fun _=>True) fun w' hb'=>(c_m_slices_IndexFunc_impl_Core_impl_Core d0 d1 _ e2 _ _ _ w' (slArg coreRd_ok ha0 ra0 (Tt T hb')) hgo1 (fun x0 b hx w1 hb1 y0 hy0=>hf1 x0 b hx w1 (Tt (Tt T hb') hb1) y0 hy0)))<|RQ.y rfl (Y.binI (v:=.bool (decide (y1 ≥ 0))) rfl rfl rfl)<|RQ.y rfl (Y.assign (v:=.bool (decide (y1 ≥ 0))) rfl)<|RQ.nil ?_
  intro w3 hb4
  have szw3:=hb4.size
  have T:=Tt T hb4
  refine then_n<|wp_ret ?_
  obtain rfl:=sj hm
  exact (ret1 rfl rfl rfl ⟨rfl,T⟩)
end
section
open Go.RowKit
set_option maxRecDepth 100000
theorem c_anyCoreK (d0:DCore) (r:Bool) (v0:Value) (gf1:FuncId) (caps1:Array Value) (ba1:Nat) (w:World) (hv0:St coreRd w v0 d0) (B1:Blk w ba1 255 #[.func (.func gf1) #[] caps1])
    (hany :∀w1,Below w.heap.size w w1→∀v,St coreRd w1 v d0→Calls Tryz.prog 223 #[v,.func (.func gf1) #[] caps1] w1 fun e w2=>e=.returned (.bool r)∧Below w1.heap.size w1 w2) :
    Calls Tryz.prog 252 #[v0,.pointer (some ⟨ba1,0,none⟩)] w fun e w'=>e=.returned (.bool r)∧Below w.heap.size w w':=by
  obtain ⟨csa0,rfl,hRR0⟩:=hv0
  obtain ⟨A1,n1,c1,A2,n2,c2,rfl,⟨h1,r1⟩,⟨h2,r2⟩⟩:=(coreRd_out hRR0)
  have e1:=h1.len; subst e1
  have q1:=len_le r1
  have e2:=h2.len; subst e2
  have q2:=len_le r2
  have T:=Below.refl w.heap.size w
  refine enter 7 Tryz.func252 rfl rfl rfl ?_
  intro f hf
  have s0:f 0=.agg #[.int .i64 d0.kind,.int .i64 d0.value,.slice A1 d0.data.length c1,.slice A2 d0.kids.length c2]:=hf 0 _ rfl
  have s1:f 1=.pointer (some ⟨ba1,0,none⟩):=hf 1 _ rfl
  refine wp_seq ?_
  refine wp_rl rfl ?_
  refine RL.box rfl s0 (fun w3 B4 hb5 szw3=>?_)
  replace B4:Blk w3 w.heap.size 78 #[.int .i64 d0.kind,.int .i64 d0.value,.slice A1 d0.data.length c1,.slice A2 d0.kids.length c2]:=B4
  have GB4:w.heap.size≤w.heap.size:=T.size
  have T:=Tt T hb5
  refine RL.y rfl (Y.assign (v:=.bool false) rfl) ?_
  refine RL.nil ?_
  refine then_n ?_
  refine wp_seq ?_
  refine wp_rb rfl ?_
  refine RQ.y rfl (Y.loadN (cs:=[.int .i64 d0.kind,.int .i64 d0.value,.slice A1 d0.data.length c1,.slice A2 d0.kids.length c2]) rfl (by kernel_rfl) (cells4 (beC (blkCell B4 (i:=0) rfl)) (beC (blkCell B4 (i:=1) rfl)) (beC (blkCell B4 (i:=2) rfl)) (beC (blkCell B4 (i:=3) rfl)))) ?_
  refine RQ.y rfl (Y.load (v:=.func (.func gf1) #[] caps1) s1 (by kernel_rfl) (beC (blkCell (blkT B1 T) (i:=0) rfl))) ?_
  refine RQ.call rfl (am2 rfl rfl) (by kernel_rfl) (v:=.bool r) (bel (K:=fun _=>True) fun w' hb'=>(hany w' (Tt T hb') _ (stArg (R:=coreRd) (coreRd_in ⟨_,_,_,_,_,_,rfl,⟨SlAt.now intRd_ok h1 (Nat.le_refl _) (Tt T hb'),r1⟩,⟨SlAt.now coreRd_ok h2 (Nat.le_refl _) (Tt T hb'),r2⟩⟩)))) ?_
  refine RQ.y rfl (Y.assign (v:=.bool r) rfl) ?_
  refine RQ.nil ?_
  intro w9 hb10
  have szw9:=hb10.size
  have T:=Tt T hb10
  refine then_n ?_
  refine wp_ret ?_
  exact (ret1 rfl rfl rfl ⟨rfl,T⟩)
noncomputable def m_impl_anyCore:Nat→DCore→(DCore→Option Bool)→Option Bool
  |0,_,_=>none
  |gas+1,d0,d1=>(d1 d0).bind fun y11=>bif y11 then some true else (m_slices_ContainsFunc_impl_Core_impl_Core d0.kids (fun x0=>m_impl_anyCore gas x0 d1)).bind fun y14=>some y14
set_option maxHeartbeats 2000000 in
theorem c_m_impl_anyCore :∀(gas:Nat) (d0:DCore) (d1:DCore→Option Bool) (r:Bool) (hm:m_impl_anyCore gas d0 d1=some r) (v0:Value) (gf1:FuncId) (caps1:Array Value) (w:World) (hv0:St coreRd w v0 d0) (hgo1:isGo Tryz.prog gf1=true) (hf1 :∀(x0:DCore) (b:Bool),d1 x0=some b→∀w1,Below w.heap.size w w1→∀y0,St coreRd w1 y0 x0→Calls Tryz.prog gf1 (#[y0] ++ caps1) w1 fun e w2=>e=.returned (.bool b)∧Below w1.heap.size w1 w2),
    Calls Tryz.prog 223 #[v0,.func (.func gf1) #[] caps1] w fun e w'=>e=.returned (.bool r)∧Below w.heap.size w w':=by
  intro gas
  induction gas with
  |zero=>intro d0 d1 r hm; cases hm
  |succ gas ih=>
   intro d0 d1 r hm v0 gf1 caps1 w hv0 hgo1 hf1
   obtain ⟨csa0,rfl,hRR0⟩:=hv0
   obtain ⟨A1,n1,c1,A2,n2,c2,rfl,⟨h1,r1⟩,⟨h2,r2⟩⟩:=(coreRd_out hRR0)
   have e1:=h1.len; subst e1
   have q1:=len_le r1
   have e2:=h2.len; subst e2
   have q2:=len_le r2
   have T:=Below.refl w.heap.size w
   unfold m_impl_anyCore at hm
   refine enter 14 Tryz.func223 rfl rfl rfl ?_
   intro f hf
   have s0:f 0=.agg #[.int .i64 d0.kind,.int .i64 d0.value,.slice A1 d0.data.length c1,.slice A2 d0.kids.length c2]:=hf 0 _ rfl
   have s1:f 1=.func (.func gf1) #[] caps1:=hf 1 _ rfl
   refine wp_seq<|wp_rl rfl ?_
   refine RL.box rfl s0 (fun w3 B4 hb5 szw3=>?_)
   replace B4:Blk w3 w.heap.size 78 #[.int .i64 d0.kind,.int .i64 d0.value,.slice A1 d0.data.length c1,.slice A2 d0.kids.length c2]:=B4
   have GB4:w.heap.size≤w.heap.size:=T.size
   have T:=Tt T hb5
   refine RL.box rfl s1 (fun w7 B8 hb9 szw7=>?_)
   replace B8:Blk w7 w3.heap.size 255 #[.func (.func gf1) #[] caps1]:=B8
   have GB8:w.heap.size≤w3.heap.size:=T.size
   have Eob10_ob6:=Nat.ne_of_lt B4.lt
   have B4:=blkT B4 hb9
   have T:=Tt T hb9
   refine RL.y rfl (Y.assign (v:=.bool false) rfl)<|RL.nil<|then_n<|wp_seq<|wp_rb rfl<|RQ.y rfl (Y.load (v:=.func (.func gf1) #[] caps1) rfl (by kernel_rfl) (beC (blkCell B8 (i:=0) rfl)))<|RQ.y rfl (Y.loadN (cs:=[.int .i64 d0.kind,.int .i64 d0.value,.slice A1 d0.data.length c1,.slice A2 d0.kids.length c2]) rfl (by kernel_rfl) (cells4 (beC (blkCell B4 (i:=0) rfl)) (beC (blkCell B4 (i:=1) rfl)) (beC (blkCell B4 (i:=2) rfl)) (beC (blkCell B4 (i:=3) rfl)))) ?_
   obtain ⟨y11,e12,hm⟩:=bnd hm
   refine RQ.callV rfl rfl (am1 rfl) hgo1 (v:=.bool y11) (bel (K:=fun _=>True) fun w' hb'=>hf1 d0 y11 e12 w' (Tt T hb') _ (stArg (R:=coreRd) (coreRd_in ⟨_,_,_,_,_,_,rfl,⟨SlAt.now intRd_ok h1 (Nat.le_refl _) (Tt T hb'),r1⟩,⟨SlAt.now coreRd_ok h2 (Nat.le_refl _) (Tt T hb'),r2⟩⟩)))<|RQ.y rfl (Y.move (v:=.bool y11) rfl) ?_
   rcases bcases y11 with c13|c13
   ·replace hm:=cF c13 hm
    refine RQ.y (wantT (dj:=8) rfl (vb rfl c13)) (Y.fieldAddr (off:=3) rfl (by kernel_rfl))<|RQ.y (wantT (dj:=8) rfl (vb rfl c13)) (Y.load (v:=.slice A2 d0.kids.length c2) rfl (by kernel_rfl) (beC (blkCell B4 (i:=3) rfl)))<|RQ.y (wantT (dj:=8) rfl (vb rfl c13)) (Y.makeFunc (vals:=#[.pointer (some ⟨w3.heap.size,0,none⟩)]) (am1 rfl)) ?_
    have key :∀(x0:DCore) (b:Bool),m_impl_anyCore gas x0 d1=some b→∀w1,Below w7.heap.size w7 w1→∀y0,St coreRd w1 y0 x0→Calls Tryz.prog 252 #[y0,.pointer (some ⟨w3.heap.size,0,none⟩)] w1 fun e w2=>e=.returned (.bool b)∧Below w1.heap.size w1 w2:=by
     intro x0 b hx w1 hb1 y0 hy0
     refine c_anyCoreK x0 b y0 gf1 caps1 w3.heap.size w1 hy0 (blkT B8 hb1) ?_
     intro w2 hb2 v hv
     refine ih x0 d1 b hx v gf1 caps1 w2 hv hgo1 ?_
     intro x b hx w4 hb4 y hy
     exact hf1 x b hx w4 (Tt (Tt (Tt T hb1) hb2) hb4) y hy
    obtain ⟨y14,e15,hm⟩:=bnd hm
    refine RQ.call (wantT (dj:=8) rfl (vb rfl c13)) (am2 rfl rfl) (by kernel_rfl) (v:=.bool y14) (bel (K:=fun _=>True) fun w' hb'=>(c_m_slices_ContainsFunc_impl_Core_impl_Core d0.kids (fun x0=>m_impl_anyCore gas x0 d1) _ e15 _ _ _ w' (slArg coreRd_ok h2 r2 (Tt T hb')) (by kernel_rfl) (fun x0 b hx w1 hb1 y0 hy0=>Calls.arr (by simp) (key x0 b hx w1 (Tt hb' hb1) y0 hy0))))<|RQ.y rfl (Y.pick (b:=false) (v:=.bool y14) (vb rfl c13) rfl)<|RQ.y rfl (Y.assign (v:=.bool y14) rfl)<|RQ.nil ?_
    intro w16 hb17
    have szw16:=hb17.size
    have T:=Tt T hb17
    refine then_n<|wp_ret ?_
    obtain rfl:=sj hm
    exact (ret1 rfl rfl rfl ⟨rfl,T⟩)
   replace hm:=cT c13 hm
   iterate 4 refine RQ.skip (wantN (dj:=8) rfl (vb rfl c13) rfl) ?_
   refine RQ.y rfl (Y.pick (b:=true) (v:=.bool true) (vb rfl c13) rfl)<|RQ.y rfl (Y.assign (v:=.bool true) rfl)<|RQ.nil ?_
   intro w18 hb19
   have szw18:=hb19.size
   have T:=Tt T hb19
   refine then_n<|wp_ret ?_
   obtain rfl:=sj hm
   exact (ret1 rfl rfl rfl ⟨rfl,T⟩)
end
end Go.Proofs.YtpbobilkejblgaaGreat
