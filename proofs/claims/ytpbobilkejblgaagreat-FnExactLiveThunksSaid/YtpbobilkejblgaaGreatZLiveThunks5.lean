/- Lemmas of the proof of LiveThunks, part 5. No condition. -/
import Derived.Test.YtpbobilkejblgaaGreatZLiveThunks4
namespace Go.Proofs.YtpbobilkejblgaaGreat
set_option linter.unusedVariables false
set_option linter.unusedSimpArgs false
section
open Go.RowKit
set_option maxRecDepth 100000
noncomputable def m_impl_IsErased (d0:DCore):Option Bool:=
  ((m_impl_ValidCore d0).bind fun y7=>(bif y7 then ((m_impl_anyCore (SizeOf.sizeOf d0) d0 (fun x0=>m_impl_IsErased_1 x0)).bind fun y12=>some (!y12)) else some false))
set_option maxHeartbeats 2000000 in
theorem c_m_impl_IsErased (d0:DCore) (r:Bool) (hm:m_impl_IsErased d0=some r) (v0:Value) (w:World) (hv0:St coreRd w v0 d0) :
    Calls Tryz.prog 183 #[v0] w fun e w'=>e=.returned (.bool r)∧Below w.heap.size w w':=by
  obtain ⟨csa0,rfl,hRR0⟩:=hv0
  obtain ⟨A1,n1,c1,A2,n2,c2,rfl,⟨h1,r1⟩,⟨h2,r2⟩⟩:=(coreRd_out hRR0)
  have e1:=h1.len; subst e1
  have q1:=len_le r1
  have e2:=h2.len; subst e2
  have q2:=len_le r2
  have T:=Below.refl w.heap.size w
  unfold m_impl_IsErased at hm
  refine enter 10 Tryz.func183 rfl rfl rfl ?_
  intro f hf
  have s0:f 0=.agg #[.int .i64 d0.kind,.int .i64 d0.value,.slice A1 d0.data.length c1,.slice A2 d0.kids.length c2]:=hf 0 _ rfl
  refine wp_seq<|wp_rl rfl ?_
  refine RL.box rfl s0 (fun w3 B4 hb5 szw3=>?_)
  replace B4:Blk w3 w.heap.size 78 #[.int .i64 d0.kind,.int .i64 d0.value,.slice A1 d0.data.length c1,.slice A2 d0.kids.length c2]:=B4
  have GB4:w.heap.size≤w.heap.size:=T.size
  have T:=Tt T hb5
  refine RL.y rfl (Y.assign (v:=.bool false) rfl)<|RL.nil<|then_n<|wp_seq<|wp_rb rfl<|RQ.y rfl (Y.loadN (cs:=[.int .i64 d0.kind,.int .i64 d0.value,.slice A1 d0.data.length c1,.slice A2 d0.kids.length c2]) rfl (by kernel_rfl) (cells4 (beC (blkCell B4 (i:=0) rfl)) (beC (blkCell B4 (i:=1) rfl)) (beC (blkCell B4 (i:=2) rfl)) (beC (blkCell B4 (i:=3) rfl)))) ?_
  obtain ⟨y7,e8,hm⟩:=bnd hm
  refine RQ.call rfl (am1 rfl) (by kernel_rfl) (v:=.bool y7) (bel (K:=fun _=>True) fun w' hb'=>(c_m_impl_ValidCore d0 _ e8 _ w' (stArg (R:=coreRd) (coreRd_in ⟨_,_,_,_,_,_,rfl,⟨SlAt.now intRd_ok h1 (Nat.le_refl _) (Tt T hb'),r1⟩,⟨SlAt.now coreRd_ok h2 (Nat.le_refl _) (Tt T hb'),r2⟩⟩))))<|RQ.y rfl (Y.move (v:=.bool y7) rfl) ?_
  rcases bcases y7 with c9|c9
  ·replace hm:=cF c9 hm
   iterate 3 refine RQ.skip (wantN (dj:=5) rfl (vb rfl c9) rfl) ?_
   refine RQ.y rfl (Y.pick (b:=false) (v:=.bool false) (vb rfl c9) rfl)<|RQ.y rfl (Y.assign (v:=.bool false) rfl)<|RQ.nil ?_
   intro w10 hb11
   have szw10:=hb11.size
   have T:=Tt T hb11
   refine then_n<|wp_ret ?_
   obtain rfl:=sj hm
   exact (ret1 rfl rfl rfl ⟨rfl,T⟩)
  replace hm:=cT c9 hm
  refine RQ.y (wantT (dj:=5) rfl (vb rfl c9)) (Y.loadN (cs:=[.int .i64 d0.kind,.int .i64 d0.value,.slice A1 d0.data.length c1,.slice A2 d0.kids.length c2]) rfl (by kernel_rfl) (cells4 (beC (blkCell B4 (i:=0) rfl)) (beC (blkCell B4 (i:=1) rfl)) (beC (blkCell B4 (i:=2) rfl)) (beC (blkCell B4 (i:=3) rfl)))) ?_
  obtain ⟨y12,e13,hm⟩:=bnd hm
  refine RQ.call (wantT (dj:=5) rfl (vb rfl c9)) (am2 rfl rfl) (by kernel_rfl) (v:=.bool y12) (bel (K:=fun _=>True) fun w' hb'=>(c_m_impl_anyCore (SizeOf.sizeOf d0) d0 (fun x0=>m_impl_IsErased_1 x0) _ e13 _ _ _ w' (stArg (R:=coreRd) (coreRd_in ⟨_,_,_,_,_,_,rfl,⟨SlAt.now intRd_ok h1 (Nat.le_refl _) (Tt T hb'),r1⟩,⟨SlAt.now coreRd_ok h2 (Nat.le_refl _) (Tt T hb'),r2⟩⟩)) (by kernel_rfl) (fun x0 b hx w1 hb1 y0 hy0=>Calls.arr (by simp) (c_m_impl_IsErased_1 x0 _ hx _  w1 hy0 ))))<|RQ.y (wantT (dj:=5) rfl (vb rfl c9)) (Y.not (b':=(!y12)) rfl rfl)<|RQ.y rfl (Y.pick (b:=true) (v:=.bool (!y12)) (vb rfl c9) rfl)<|RQ.y rfl (Y.assign (v:=.bool (!y12)) rfl)<|RQ.nil ?_
  intro w14 hb15
  have szw14:=hb15.size
  have T:=Tt T hb15
  refine then_n<|wp_ret ?_
  obtain rfl:=sj hm
  exact (ret1 rfl rfl rfl ⟨rfl,T⟩)
noncomputable def m_impl_namesOnly (d0:DCore) (d1:Int):Option Bool:=
  ((m_impl_anyCore (SizeOf.sizeOf d0) d0 (fun x0=>m_impl_namesOnly_1 x0 d1)).bind fun y11=>some (!y11))
set_option maxHeartbeats 2000000 in
theorem c_m_impl_namesOnly (d0:DCore) (d1:Int) (r:Bool) (hm:m_impl_namesOnly d0 d1=some r) (v0:Value) (w:World) (hv0:St coreRd w v0 d0) :
    Calls Tryz.prog 184 #[v0,.int .i64 d1] w fun e w'=>e=.returned (.bool r)∧Below w.heap.size w w':=by
  obtain ⟨csa0,rfl,hRR0⟩:=hv0
  obtain ⟨A1,n1,c1,A2,n2,c2,rfl,⟨h1,r1⟩,⟨h2,r2⟩⟩:=(coreRd_out hRR0)
  have e1:=h1.len; subst e1
  have q1:=len_le r1
  have e2:=h2.len; subst e2
  have q2:=len_le r2
  have T:=Below.refl w.heap.size w
  unfold m_impl_namesOnly at hm
  refine enter 9 Tryz.func184 rfl rfl rfl ?_
  intro f hf
  have s0:f 0=.agg #[.int .i64 d0.kind,.int .i64 d0.value,.slice A1 d0.data.length c1,.slice A2 d0.kids.length c2]:=hf 0 _ rfl
  have s1:f 1=.int .i64 d1:=hf 1 _ rfl
  refine wp_seq<|wp_rl rfl ?_
  refine RL.box rfl s0 (fun w3 B4 hb5 szw3=>?_)
  replace B4:Blk w3 w.heap.size 78 #[.int .i64 d0.kind,.int .i64 d0.value,.slice A1 d0.data.length c1,.slice A2 d0.kids.length c2]:=B4
  have GB4:w.heap.size≤w.heap.size:=T.size
  have T:=Tt T hb5
  refine RL.box rfl s1 (fun w7 B8 hb9 szw7=>?_)
  replace B8:Blk w7 w3.heap.size 3 #[.int .i64 d1]:=B8
  have GB8:w.heap.size≤w3.heap.size:=T.size
  have Eob10_ob6:=Nat.ne_of_lt B4.lt
  have B4:=blkT B4 hb9
  have T:=Tt T hb9
  refine RL.y rfl (Y.assign (v:=.bool false) rfl)<|RL.nil<|then_n<|wp_seq<|wp_rb rfl<|RQ.y rfl (Y.loadN (cs:=[.int .i64 d0.kind,.int .i64 d0.value,.slice A1 d0.data.length c1,.slice A2 d0.kids.length c2]) rfl (by kernel_rfl) (cells4 (beC (blkCell B4 (i:=0) rfl)) (beC (blkCell B4 (i:=1) rfl)) (beC (blkCell B4 (i:=2) rfl)) (beC (blkCell B4 (i:=3) rfl))))<|RQ.y rfl (Y.makeFunc (vals:=#[.pointer (some ⟨w3.heap.size,0,none⟩)]) (am1 rfl)) ?_
  obtain ⟨y11,e12,hm⟩:=bnd hm
  refine RQ.call rfl (am2 rfl rfl) (by kernel_rfl) (v:=.bool y11) (bel (K:=fun _=>True) fun w' hb'=>(c_m_impl_anyCore (SizeOf.sizeOf d0) d0 (fun x0=>m_impl_namesOnly_1 x0 d1) _ e12 _ _ _ w' (stArg (R:=coreRd) (coreRd_in ⟨_,_,_,_,_,_,rfl,⟨SlAt.now intRd_ok h1 (Nat.le_refl _) (Tt T hb'),r1⟩,⟨SlAt.now coreRd_ok h2 (Nat.le_refl _) (Tt T hb'),r2⟩⟩)) (by kernel_rfl) (fun x0 b hx w1 hb1 y0 hy0=>Calls.arr (by simp) (c_m_impl_namesOnly_1 x0 d1 _ hx _ _ w1 hy0 (ptBox (R:=intRd) (blkT B8 (Tt hb' hb1)) rfl)))))<|RQ.y rfl (Y.not (b':=(!y11)) rfl rfl)<|RQ.y rfl (Y.assign (v:=.bool (!y11)) rfl)<|RQ.nil ?_
  intro w13 hb14
  have szw13:=hb14.size
  have T:=Tt T hb14
  refine then_n<|wp_ret ?_
  obtain rfl:=sj hm
  exact (ret1 rfl rfl rfl ⟨rfl,T⟩)
noncomputable def m_impl_ValidBook_1 (d0:DCore) (d1:DBook):Option Bool:=
  ((m_impl_IsClosed d0).bind fun y8=>(bif y8 then ((m_impl_namesOnly d0 (d1.defs.length:Int)).bind fun y13=>some (!y13)) else some true))
set_option maxHeartbeats 2000000 in
theorem c_m_impl_ValidBook_1 (d0:DCore) (d1:DBook) (r:Bool) (hm:m_impl_ValidBook_1 d0 d1=some r) (v0:Value) (v1:Value) (w:World) (hv0:St coreRd w v0 d0) (hv1:Pt bookRd w v1 d1) :
    Calls Tryz.prog 219 #[v0,v1] w fun e w'=>e=.returned (.bool r)∧Below w.heap.size w w':=by
  obtain ⟨csa0,rfl,hRR0⟩:=hv0
  obtain ⟨A1,n1,c1,A2,n2,c2,rfl,⟨h1,r1⟩,⟨h2,r2⟩⟩:=(coreRd_out hRR0)
  have e1:=h1.len; subst e1
  have q1:=len_le r1
  have e2:=h2.len; subst e2
  have q2:=len_le r2
  obtain ⟨ba1,oa1,csa1,rfl,hba1,hRa1,hca1⟩:=hv1
  have hSa1:=hRa1
  obtain ⟨A3,n3,c3,rfl,⟨h3,r3⟩⟩:=hRa1
  have e3:=h3.len; subst e3
  have q3:=len_le r3
  have T:=Below.refl w.heap.size w
  unfold m_impl_ValidBook_1 at hm
  refine enter 15 Tryz.func219 rfl rfl rfl ?_
  intro f hf
  have s0:f 0=.agg #[.int .i64 d0.kind,.int .i64 d0.value,.slice A1 d0.data.length c1,.slice A2 d0.kids.length c2]:=hf 0 _ rfl
  have s1:f 1=.pointer (some ⟨ba1,oa1,none⟩):=hf 1 _ rfl
  refine wp_seq<|wp_rl rfl ?_
  refine RL.box rfl s0 (fun w4 B5 hb6 szw4=>?_)
  replace B5:Blk w4 w.heap.size 78 #[.int .i64 d0.kind,.int .i64 d0.value,.slice A1 d0.data.length c1,.slice A2 d0.kids.length c2]:=B5
  have GB5:w.heap.size≤w.heap.size:=T.size
  have T:=Tt T hb6
  refine RL.y rfl (Y.assign (v:=.bool false) rfl)<|RL.nil<|then_n<|wp_seq<|wp_rb rfl<|RQ.y rfl (Y.loadN (cs:=[.int .i64 d0.kind,.int .i64 d0.value,.slice A1 d0.data.length c1,.slice A2 d0.kids.length c2]) rfl (by kernel_rfl) (cells4 (beC (blkCell B5 (i:=0) rfl)) (beC (blkCell B5 (i:=1) rfl)) (beC (blkCell B5 (i:=2) rfl)) (beC (blkCell B5 (i:=3) rfl)))) ?_
  obtain ⟨y8,e9,hm⟩:=bnd hm
  refine RQ.call rfl (am1 rfl) (by kernel_rfl) (v:=.bool y8) (bel (K:=fun _=>True) fun w' hb'=>(c_m_impl_IsClosed d0 _ e9 _ w' (stArg (R:=coreRd) (coreRd_in ⟨_,_,_,_,_,_,rfl,⟨SlAt.now intRd_ok h1 (Nat.le_refl _) (Tt T hb'),r1⟩,⟨SlAt.now coreRd_ok h2 (Nat.le_refl _) (Tt T hb'),r2⟩⟩))))<|RQ.y rfl (Y.not (b':=(!y8)) rfl rfl)<|RQ.y rfl (Y.move (v:=.bool (!y8)) rfl) ?_
  rcases bcases y8 with c10|c10
  ·replace hm:=cF c10 hm
   iterate 6 refine RQ.skip (wantN (dj:=7) rfl (vbn rfl c10 rfl) rfl) ?_
   refine RQ.y rfl (Y.pick (b:=true) (v:=.bool true) (vbn rfl c10 rfl) rfl)<|RQ.y rfl (Y.assign (v:=.bool true) rfl)<|RQ.nil ?_
   intro w11 hb12
   have szw11:=hb12.size
   have T:=Tt T hb12
   refine then_n<|wp_ret ?_
   obtain rfl:=sj hm
   exact (ret1 rfl rfl rfl ⟨rfl,T⟩)
  replace hm:=cT c10 hm
  refine RQ.y (wantT (dj:=7) rfl (vbn rfl c10 rfl)) (Y.loadN (cs:=[.int .i64 d0.kind,.int .i64 d0.value,.slice A1 d0.data.length c1,.slice A2 d0.kids.length c2]) rfl (by kernel_rfl) (cells4 (beC (blkCell B5 (i:=0) rfl)) (beC (blkCell B5 (i:=1) rfl)) (beC (blkCell B5 (i:=2) rfl)) (beC (blkCell B5 (i:=3) rfl))))<|RQ.y (wantT (dj:=7) rfl (vbn rfl c10 rfl)) (Y.fieldAddr (off:=0) s1 (by kernel_rfl))<|RQ.y (wantT (dj:=7) rfl (vbn rfl c10 rfl)) (Y.load (v:=.slice A3 d1.defs.length c3) rfl (by kernel_rfl) (beC (cellT T (hca1 0 _ rfl))))<|RQ.y (wantT (dj:=7) rfl (vbn rfl c10 rfl)) (Y.len (by kernel_rfl) rfl) ?_
  obtain ⟨y13,e14,hm⟩:=bnd hm
  refine RQ.call (wantT (dj:=7) rfl (vbn rfl c10 rfl)) (am2 rfl rfl) (by kernel_rfl) (v:=.bool y13) (bel (K:=fun _=>True) fun w' hb'=>(c_m_impl_namesOnly d0 (d1.defs.length:Int) _ e14 _ w' (stArg (R:=coreRd) (coreRd_in ⟨_,_,_,_,_,_,rfl,⟨SlAt.now intRd_ok h1 (Nat.le_refl _) (Tt T hb'),r1⟩,⟨SlAt.now coreRd_ok h2 (Nat.le_refl _) (Tt T hb'),r2⟩⟩))))<|RQ.y (wantT (dj:=7) rfl (vbn rfl c10 rfl)) (Y.not (b':=(!y13)) rfl rfl)<|RQ.y rfl (Y.pick (b:=false) (v:=.bool (!y13)) (vbn rfl c10 rfl) rfl)<|RQ.y rfl (Y.assign (v:=.bool (!y13)) rfl)<|RQ.nil ?_
  intro w15 hb16
  have szw15:=hb16.size
  have T:=Tt T hb16
  refine then_n<|wp_ret ?_
  obtain rfl:=sj hm
  exact (ret1 rfl rfl rfl ⟨rfl,T⟩)
noncomputable def m_impl_ValidBook (d0:DBook):Option Bool:=
  (bif (decide ((d0.defs.length:Int) < 1)) then some false else (bif (decide ((d0.defs.length:Int) > 24)) then some false else ((m_slices_ContainsFunc_impl_Core_impl_Core d0.defs (fun x0=>m_impl_ValidBook_1 x0 d0)).bind fun y8=>some (!y8))))
set_option maxHeartbeats 2000000 in
theorem c_m_impl_ValidBook (d0:DBook) (r:Bool) (hm:m_impl_ValidBook d0=some r) (v0:Value) (w:World) (hv0:St bookRd w v0 d0) :
    Calls Tryz.prog 180 #[v0] w fun e w'=>e=.returned (.bool r)∧Below w.heap.size w w':=by
  obtain ⟨csa0,rfl,⟨A1,n1,c1,rfl,⟨h1,r1⟩⟩⟩:=hv0
  have e1:=h1.len; subst e1
  have q1:=len_le r1
  have T:=Below.refl w.heap.size w
  unfold m_impl_ValidBook at hm
  refine enter 18 Tryz.func180 rfl rfl rfl ?_
  intro f hf
  have s0:f 0=.agg #[.slice A1 d0.defs.length c1]:=hf 0 _ rfl
  refine wp_seq<|wp_rl rfl ?_
  refine RL.box rfl s0 (fun w2 B3 hb4 szw2=>?_)
  replace B3:Blk w2 w.heap.size 75 #[.slice A1 d0.defs.length c1]:=B3
  have GB3:w.heap.size≤w.heap.size:=T.size
  have T:=Tt T hb4
  refine RL.y rfl (Y.assign (v:=.bool false) rfl)<|RL.nil<|then_n<|wp_seq<|wp_seq<|wp_rs rfl<|RQ.y rfl (Y.fieldAddr (off:=0) rfl (by kernel_rfl))<|RQ.y rfl (Y.load (v:=.slice A1 d0.defs.length c1) rfl (by kernel_rfl) (eqC (blkCell B3 (i:=0) rfl)))<|RQ.y rfl (Y.len (by kernel_rfl) rfl)<|RQ.y rfl (Y.binI (v:=.bool (decide ((d0.defs.length:Int) < 1))) rfl rfl rfl)<|RQ.y rfl (Y.move (v:=.bool (decide ((d0.defs.length:Int) < 1))) rfl) ?_
  rcases bcases (decide ((d0.defs.length:Int) < 1)) with c6|c6
  ·replace hm:=cF c6 hm
   have pc6:=of_decide_eq_false c6
   refine RQ.y (wantT (dj:=7) rfl (vb rfl c6)) (Y.fieldAddr (off:=0) rfl (by kernel_rfl))<|RQ.y (wantT (dj:=7) rfl (vb rfl c6)) (Y.load (v:=.slice A1 d0.defs.length c1) rfl (by kernel_rfl) (eqC (blkCell B3 (i:=0) rfl)))<|RQ.y (wantT (dj:=7) rfl (vb rfl c6)) (Y.len (by kernel_rfl) rfl)<|RQ.y (wantT (dj:=7) rfl (vb rfl c6)) (Y.binI (v:=.bool (decide ((d0.defs.length:Int) > 24))) rfl rfl rfl)<|RQ.y rfl (Y.pick (b:=false) (v:=.bool (decide ((d0.defs.length:Int) > 24))) (vb rfl c6) rfl)<|RQ.nil<|then_n ?_
   rcases bcases (decide ((d0.defs.length:Int) > 24)) with c7|c7
   ·replace hm:=cF c7 hm
    have pc7:=of_decide_eq_false c7
    refine cond_f rfl (vb rfl c7)<|wp_skip<|then_n<|wp_seq<|wp_rb rfl<|RQ.y rfl (Y.fieldAddr (off:=0) rfl (by kernel_rfl))<|RQ.y rfl (Y.load (v:=.slice A1 d0.defs.length c1) rfl (by kernel_rfl) (beC (blkCell B3 (i:=0) rfl)))<|RQ.y rfl (Y.makeFunc (vals:=#[.pointer (some ⟨w.heap.size,0,none⟩)]) (am1 rfl)) ?_
    obtain ⟨y8,e9,hm⟩:=bnd hm
    refine RQ.call rfl (am2 rfl rfl) (by kernel_rfl) (v:=.bool y8) (bel (K:=fun _=>True) fun w' hb'=>(c_m_slices_ContainsFunc_impl_Core_impl_Core d0.defs (fun x0=>m_impl_ValidBook_1 x0 d0) _ e9 _ _ _ w' (slArg coreRd_ok h1 r1 (Tt T hb')) (by kernel_rfl) (fun x0 b hx w1 hb1 y0 hy0=>Calls.arr (by simp) (c_m_impl_ValidBook_1 x0 d0 _ hx _ _ w1 hy0 (ptBox (R:=bookRd) (blkT B3 (Tt hb' hb1)) ⟨_,_,_,rfl,⟨SlAt.now coreRd_ok h1 (Nat.le_refl _) (Tt (Tt T hb') hb1),r1⟩⟩)))))<|RQ.y rfl (Y.not (b':=(!y8)) rfl rfl)<|RQ.y rfl (Y.assign (v:=.bool (!y8)) rfl)<|RQ.nil ?_
    intro w10 hb11
    have szw10:=hb11.size
    have T:=Tt T hb11
    refine then_n<|wp_ret ?_
    obtain rfl:=sj hm
    exact (ret1 rfl rfl rfl ⟨rfl,T⟩)
   replace hm:=cT c7 hm
   have pc7:=of_decide_eq_true c7
   refine cond_t rfl (vb rfl c7)<|wp_seq<|wp_rs rfl<|RQ.y rfl (Y.assign (v:=.bool false) rfl)<|RQ.nil<|then_n<|wp_ret ?_
   obtain rfl:=sj hm
   exact (then_r (ret1 rfl rfl rfl ⟨rfl,T⟩))
  replace hm:=cT c6 hm
  have pc6:=of_decide_eq_true c6
  iterate 4 refine RQ.skip (wantN (dj:=7) rfl (vb rfl c6) rfl) ?_
  refine RQ.y rfl (Y.pick (b:=true) (v:=.bool true) (vb rfl c6) rfl)<|RQ.nil<|then_n<|cond_t rfl rfl<|wp_seq<|wp_rs rfl<|RQ.y rfl (Y.assign (v:=.bool false) rfl)<|RQ.nil<|then_n<|wp_ret ?_
  obtain rfl:=sj hm
  exact (then_r (ret1 rfl rfl rfl ⟨rfl,T⟩))
noncomputable def m_impl_isErasedBook_1 (d0:DCore):Option Bool:=
  ((m_impl_IsErased d0).bind fun y7=>some (!y7))
set_option maxHeartbeats 2000000 in
theorem c_m_impl_isErasedBook_1 (d0:DCore) (r:Bool) (hm:m_impl_isErasedBook_1 d0=some r) (v0:Value) (w:World) (hv0:St coreRd w v0 d0) :
    Calls Tryz.prog 182 #[v0] w fun e w'=>e=.returned (.bool r)∧Below w.heap.size w w':=by
  obtain ⟨csa0,rfl,hRR0⟩:=hv0
  obtain ⟨A1,n1,c1,A2,n2,c2,rfl,⟨h1,r1⟩,⟨h2,r2⟩⟩:=(coreRd_out hRR0)
  have e1:=h1.len; subst e1
  have q1:=len_le r1
  have e2:=h2.len; subst e2
  have q2:=len_le r2
  have T:=Below.refl w.heap.size w
  unfold m_impl_isErasedBook_1 at hm
  refine enter 6 Tryz.func182 rfl rfl rfl ?_
  intro f hf
  have s0:f 0=.agg #[.int .i64 d0.kind,.int .i64 d0.value,.slice A1 d0.data.length c1,.slice A2 d0.kids.length c2]:=hf 0 _ rfl
  refine wp_seq<|wp_rl rfl ?_
  refine RL.box rfl s0 (fun w3 B4 hb5 szw3=>?_)
  replace B4:Blk w3 w.heap.size 78 #[.int .i64 d0.kind,.int .i64 d0.value,.slice A1 d0.data.length c1,.slice A2 d0.kids.length c2]:=B4
  have GB4:w.heap.size≤w.heap.size:=T.size
  have T:=Tt T hb5
  refine RL.y rfl (Y.assign (v:=.bool false) rfl)<|RL.nil<|then_n<|wp_seq<|wp_rb rfl<|RQ.y rfl (Y.loadN (cs:=[.int .i64 d0.kind,.int .i64 d0.value,.slice A1 d0.data.length c1,.slice A2 d0.kids.length c2]) rfl (by kernel_rfl) (cells4 (beC (blkCell B4 (i:=0) rfl)) (beC (blkCell B4 (i:=1) rfl)) (beC (blkCell B4 (i:=2) rfl)) (beC (blkCell B4 (i:=3) rfl)))) ?_
  obtain ⟨y7,e8,hm⟩:=bnd hm
  refine RQ.call rfl (am1 rfl) (by kernel_rfl) (v:=.bool y7) (bel (K:=fun _=>True) fun w' hb'=>(c_m_impl_IsErased d0 _ e8 _ w' (stArg (R:=coreRd) (coreRd_in ⟨_,_,_,_,_,_,rfl,⟨SlAt.now intRd_ok h1 (Nat.le_refl _) (Tt T hb'),r1⟩,⟨SlAt.now coreRd_ok h2 (Nat.le_refl _) (Tt T hb'),r2⟩⟩))))<|RQ.y rfl (Y.not (b':=(!y7)) rfl rfl)<|RQ.y rfl (Y.assign (v:=.bool (!y7)) rfl)<|RQ.nil ?_
  intro w9 hb10
  have szw9:=hb10.size
  have T:=Tt T hb10
  refine then_n<|wp_ret ?_
  obtain rfl:=sj hm
  exact (ret1 rfl rfl rfl ⟨rfl,T⟩)
noncomputable def m_impl_isErasedBook (d0:DBook):Option Bool:=
  ((m_impl_ValidBook d0).bind fun y6=>(bif y6 then ((m_slices_ContainsFunc_impl_Core_impl_Core d0.defs (fun x0=>m_impl_isErasedBook_1 x0)).bind fun y11=>some (!y11)) else some false))
set_option maxHeartbeats 2000000 in
theorem c_m_impl_isErasedBook (d0:DBook) (r:Bool) (hm:m_impl_isErasedBook d0=some r) (v0:Value) (w:World) (hv0:St bookRd w v0 d0) :
    Calls Tryz.prog 118 #[v0] w fun e w'=>e=.returned (.bool r)∧Below w.heap.size w w':=by
  obtain ⟨csa0,rfl,⟨A1,n1,c1,rfl,⟨h1,r1⟩⟩⟩:=hv0
  have e1:=h1.len; subst e1
  have q1:=len_le r1
  have T:=Below.refl w.heap.size w
  unfold m_impl_isErasedBook at hm
  refine enter 11 Tryz.func118 rfl rfl rfl ?_
  intro f hf
  have s0:f 0=.agg #[.slice A1 d0.defs.length c1]:=hf 0 _ rfl
  refine wp_seq<|wp_rl rfl ?_
  refine RL.box rfl s0 (fun w2 B3 hb4 szw2=>?_)
  replace B3:Blk w2 w.heap.size 75 #[.slice A1 d0.defs.length c1]:=B3
  have GB3:w.heap.size≤w.heap.size:=T.size
  have T:=Tt T hb4
  refine RL.y rfl (Y.assign (v:=.bool false) rfl)<|RL.nil<|then_n<|wp_seq<|wp_rb rfl<|RQ.y rfl (Y.loadN (cs:=[.slice A1 d0.defs.length c1]) rfl (by kernel_rfl) (cells1 (beC (blkCell B3 (i:=0) rfl)))) ?_
  obtain ⟨y6,e7,hm⟩:=bnd hm
  refine RQ.call rfl (am1 rfl) (by kernel_rfl) (v:=.bool y6) (bel (K:=fun _=>True) fun w' hb'=>(c_m_impl_ValidBook d0 _ e7 _ w' (stArg (R:=bookRd) ⟨_,_,_,rfl,⟨SlAt.now coreRd_ok h1 (Nat.le_refl _) (Tt T hb'),r1⟩⟩)))<|RQ.y rfl (Y.move (v:=.bool y6) rfl) ?_
  rcases bcases y6 with c8|c8
  ·replace hm:=cF c8 hm
   iterate 4 refine RQ.skip (wantN (dj:=5) rfl (vb rfl c8) rfl) ?_
   refine RQ.y rfl (Y.pick (b:=false) (v:=.bool false) (vb rfl c8) rfl)<|RQ.y rfl (Y.assign (v:=.bool false) rfl)<|RQ.nil ?_
   intro w9 hb10
   have szw9:=hb10.size
   have T:=Tt T hb10
   refine then_n<|wp_ret ?_
   obtain rfl:=sj hm
   exact (ret1 rfl rfl rfl ⟨rfl,T⟩)
  replace hm:=cT c8 hm
  refine RQ.y (wantT (dj:=5) rfl (vb rfl c8)) (Y.fieldAddr (off:=0) rfl (by kernel_rfl))<|RQ.y (wantT (dj:=5) rfl (vb rfl c8)) (Y.load (v:=.slice A1 d0.defs.length c1) rfl (by kernel_rfl) (beC (blkCell B3 (i:=0) rfl))) ?_
  obtain ⟨y11,e12,hm⟩:=bnd hm
  refine RQ.call (wantT (dj:=5) rfl (vb rfl c8)) (am2 rfl rfl) (by kernel_rfl) (v:=.bool y11) (bel (K:=fun _=>True) fun w' hb'=>(c_m_slices_ContainsFunc_impl_Core_impl_Core d0.defs (fun x0=>m_impl_isErasedBook_1 x0) _ e12 _ _ _ w' (slArg coreRd_ok h1 r1 (Tt T hb')) (by kernel_rfl) (fun x0 b hx w1 hb1 y0 hy0=>Calls.arr (by simp) (c_m_impl_isErasedBook_1 x0 _ hx _  w1 hy0 ))))<|RQ.y (wantT (dj:=5) rfl (vb rfl c8)) (Y.not (b':=(!y11)) rfl rfl)<|RQ.y rfl (Y.pick (b:=true) (v:=.bool (!y11)) (vb rfl c8) rfl)<|RQ.y rfl (Y.assign (v:=.bool (!y11)) rfl)<|RQ.nil ?_
  intro w13 hb14
  have szw13:=hb14.size
  have T:=Tt T hb14
  refine then_n<|wp_ret ?_
  obtain rfl:=sj hm
  exact (ret1 rfl rfl rfl ⟨rfl,T⟩)
noncomputable def m_impl_Need_isAddress (d0:DNeed) (d1:Int):Option Bool:=
  (bif (decide (d1 ≥ 0)) then some (decide (d1 < (d0.heap.length:Int))) else some false)
set_option maxHeartbeats 2000000 in
theorem c_m_impl_Need_isAddress (d0:DNeed) (d1:Int) (r:Bool) (hm:m_impl_Need_isAddress d0 d1=some r) (v0:Value) (w:World) (hv0:Pt needRd w v0 d0) :
    Calls Tryz.prog 187 #[v0,.int .i64 d1] w fun e w'=>e=.returned (.bool r)∧Below w.heap.size w w':=by
  obtain ⟨ba0,oa0,csa0,rfl,hba0,hRa0,hca0⟩:=hv0
  have hSa0:=hRa0
  obtain ⟨A1,n1,c1,A2,n2,c2,A3,n3,c3,A4,n4,c4,A5,n5,c5,rfl,⟨h1,r1⟩,⟨h2,r2⟩,⟨h3,r3⟩,⟨h4,r4⟩,⟨h5,r5⟩⟩:=hRa0
  have e1:=h1.len; subst e1
  have q1:=len_le r1
  have e2:=h2.len; subst e2
  have q2:=len_le r2
  have e3:=h3.len; subst e3
  have q3:=len_le r3
  have e4:=h4.len; subst e4
  have q4:=len_le r4
  have e5:=h5.len; subst e5
  have q5:=len_le r5
  have T:=Below.refl w.heap.size w
  unfold m_impl_Need_isAddress at hm
  refine enter 16 Tryz.func187 rfl rfl rfl ?_
  intro f hf
  have s0:f 0=.pointer (some ⟨ba0,oa0,none⟩):=hf 0 _ rfl
  have s1:f 1=.int .i64 d1:=hf 1 _ rfl
  refine wp_seq<|wp_rs rfl<|RQ.y rfl (Y.assign (v:=.bool false) rfl)<|RQ.nil<|then_n<|wp_seq<|wp_rs rfl<|RQ.y rfl (Y.move (v:=.int .i64 d1) s1)<|RQ.y rfl (Y.binI (v:=.bool (decide (d1 ≥ 0))) rfl rfl rfl)<|RQ.y rfl (Y.move (v:=.bool (decide (d1 ≥ 0))) rfl) ?_
  rcases bcases (decide (d1 ≥ 0)) with c6|c6
  ·replace hm:=cF c6 hm
   have pc6:=of_decide_eq_false c6
   iterate 7 refine RQ.skip (wantN (dj:=7) rfl (vb rfl c6) rfl) ?_
   refine RQ.y rfl (Y.pick (b:=false) (v:=.bool false) (vb rfl c6) rfl)<|RQ.y rfl (Y.assign (v:=.bool false) rfl)<|RQ.nil<|then_n<|wp_ret ?_
   obtain rfl:=sj hm
   exact (ret1 rfl rfl rfl ⟨rfl,T⟩)
  replace hm:=cT c6 hm
  have pc6:=of_decide_eq_true c6
  refine RQ.y (wantT (dj:=7) rfl (vb rfl c6)) (Y.move (v:=.int .i64 d1) s1)<|RQ.y (wantT (dj:=7) rfl (vb rfl c6)) (Y.move (v:=.pointer (some ⟨ba0,oa0,none⟩)) s0)<|RQ.y (wantT (dj:=7) rfl (vb rfl c6)) (Y.nilCheck rfl)<|RQ.y (wantT (dj:=7) rfl (vb rfl c6)) (Y.fieldAddr (off:=6) rfl (by kernel_rfl))<|RQ.y (wantT (dj:=7) rfl (vb rfl c6)) (Y.load (v:=.slice A5 d0.heap.length c5) rfl (by kernel_rfl) (eqC (cellT T (hca0 6 _ rfl))))<|RQ.y (wantT (dj:=7) rfl (vb rfl c6)) (Y.len (by kernel_rfl) rfl)<|RQ.y (wantT (dj:=7) rfl (vb rfl c6)) (Y.binI (v:=.bool (decide (d1 < (d0.heap.length:Int)))) rfl rfl rfl)<|RQ.y rfl (Y.pick (b:=true) (v:=.bool (decide (d1 < (d0.heap.length:Int)))) (vb rfl c6) rfl)<|RQ.y rfl (Y.assign (v:=.bool (decide (d1 < (d0.heap.length:Int)))) rfl)<|RQ.nil<|then_n<|wp_ret ?_
  obtain rfl:=sj hm
  exact (ret1 rfl rfl rfl ⟨rfl,T⟩)
noncomputable def m_impl_Need_validClosure_1 (d0:Int) (d1:DNeed):Option Bool:=
  ((m_impl_Need_isAddress d1 d0).bind fun y7=>some (!y7))
set_option maxHeartbeats 2000000 in
theorem c_m_impl_Need_validClosure_1 (d0:Int) (d1:DNeed) (r:Bool) (hm:m_impl_Need_validClosure_1 d0 d1=some r) (v1:Value) (w:World) (hv1:Pt (ptRd needRd) w v1 d1) :
    Calls Tryz.prog 186 #[.int .i64 d0,v1] w fun e w'=>e=.returned (.bool r)∧Below w.heap.size w w':=by
  obtain ⟨ba1,oa1,csa1,rfl,hba1,hRa1,hca1⟩:=hv1
  have hSa1:=hRa1
  obtain ⟨pb1,po1,pcs1,rfl,hpb1,hpR1,hpc1⟩:=hRa1
  have hpS1:=hpR1
  obtain ⟨A2,n2,c2,A3,n3,c3,A4,n4,c4,A5,n5,c5,A6,n6,c6,rfl,⟨h2,r2⟩,⟨h3,r3⟩,⟨h4,r4⟩,⟨h5,r5⟩,⟨h6,r6⟩⟩:=hpR1
  have e2:=h2.len; subst e2
  have q2:=len_le r2
  have e3:=h3.len; subst e3
  have q3:=len_le r3
  have e4:=h4.len; subst e4
  have q4:=len_le r4
  have e5:=h5.len; subst e5
  have q5:=len_le r5
  have e6:=h6.len; subst e6
  have q6:=len_le r6
  have T:=Below.refl w.heap.size w
  unfold m_impl_Need_validClosure_1 at hm
  refine enter 8 Tryz.func186 rfl rfl rfl ?_
  intro f hf
  have s0:f 0=.int .i64 d0:=hf 0 _ rfl
  have s1:f 1=.pointer (some ⟨ba1,oa1,none⟩):=hf 1 _ rfl
  refine wp_seq<|wp_rs rfl<|RQ.y rfl (Y.assign (v:=.bool false) rfl)<|RQ.nil<|then_n<|wp_seq<|wp_rb rfl<|RQ.y rfl (Y.load (v:=.pointer (some ⟨pb1,po1,none⟩)) s1 (by kernel_rfl) (beC (cellT T (hca1 0 _ rfl))))<|RQ.y rfl (Y.move (v:=.int .i64 d0) s0) ?_
  obtain ⟨y7,e8,hm⟩:=bnd hm
  refine RQ.call rfl (am2 rfl rfl) (by kernel_rfl) (v:=.bool y7) (bel (K:=fun _=>True) fun w' hb'=>(c_m_impl_Need_isAddress d1 d0 _ e8 _ w' (ptArg needRd_ok hpb1 hpS1 hpc1 (Tt T hb'))))<|RQ.y rfl (Y.not (b':=(!y7)) rfl rfl)<|RQ.y rfl (Y.assign (v:=.bool (!y7)) rfl)<|RQ.nil ?_
  intro w9 hb10
  have szw9:=hb10.size
  have T:=Tt T hb10
  refine then_n<|wp_ret ?_
  obtain rfl:=sj hm
  exact (ret1 rfl rfl rfl ⟨rfl,T⟩)
noncomputable def m_impl_Need_validClosure (d0:DNeed) (d1:DBook) (d2:DClosure):Option Bool:=
  ((m_impl_IsErased (⟨d2.term.kind,d2.term.value,d2.term.data,d2.term.kids⟩:DCore)).bind fun y22=>(bif y22 then ((m_impl_namesOnly (⟨d2.term.kind,d2.term.value,d2.term.data,d2.term.kids⟩:DCore) (d1.defs.length:Int)).bind fun y27=>(bif y27 then ((m_impl_closedBelow (SizeOf.sizeOf (⟨d2.term.kind,d2.term.value,d2.term.data,d2.term.kids⟩:DCore)) (⟨d2.term.kind,d2.term.value,d2.term.data,d2.term.kids⟩:DCore) (d2.env.length:Int)).bind fun y32=>(bif y32 then (bif (decide ((d2.env.length:Int) > 256)) then some false else ((m_slices_ContainsFunc_int64_int64 d2.env (fun x0=>m_impl_Need_validClosure_1 x0 d0)).bind fun y40=>some (!y40))) else some false)) else some false)) else some false))
set_option maxHeartbeats 2000000 in
theorem c_m_impl_Need_validClosure (d0:DNeed) (d1:DBook) (d2:DClosure) (r:Bool) (hm:m_impl_Need_validClosure d0 d1 d2=some r) (v0:Value) (v1:Value) (v2:Value) (w:World) (hv0:Pt needRd w v0 d0) (hv1:St bookRd w v1 d1) (hv2:St closureRd w v2 d2) :
    Calls Tryz.prog 119 #[v0,v1,v2] w fun e w'=>e=.returned (.bool r)∧Below w.heap.size w w':=by
  obtain ⟨ba0,oa0,csa0,rfl,hba0,hRa0,hca0⟩:=hv0
  have hSa0:=hRa0
  obtain ⟨A1,n1,c1,A2,n2,c2,A3,n3,c3,A4,n4,c4,A5,n5,c5,rfl,⟨h1,r1⟩,⟨h2,r2⟩,⟨h3,r3⟩,⟨h4,r4⟩,⟨h5,r5⟩⟩:=hRa0
  have e1:=h1.len; subst e1
  have q1:=len_le r1
  have e2:=h2.len; subst e2
  have q2:=len_le r2
  have e3:=h3.len; subst e3
  have q3:=len_le r3
  have e4:=h4.len; subst e4
  have q4:=len_le r4
  have e5:=h5.len; subst e5
  have q5:=len_le r5
  obtain ⟨csa1,rfl,⟨A6,n6,c6,rfl,⟨h6,r6⟩⟩⟩:=hv1
  have e6:=h6.len; subst e6
  have q6:=len_le r6
  obtain ⟨csa2,rfl,⟨A7,n7,c7,A8,n8,c8,A9,n9,c9,rfl,⟨h7,r7⟩,⟨h8,r8⟩,⟨h9,r9⟩⟩⟩:=hv2
  have e7:=h7.len; subst e7
  have q7:=len_le r7
  have e8:=h8.len; subst e8
  have q8:=len_le r8
  have e9:=h9.len; subst e9
  have q9:=len_le r9
  have T:=Below.refl w.heap.size w
  unfold m_impl_Need_validClosure at hm
  refine enter 40 Tryz.func119 rfl rfl rfl ?_
  intro f hf
  have s0:f 0=.pointer (some ⟨ba0,oa0,none⟩):=hf 0 _ rfl
  have s1:f 1=.agg #[.slice A6 d1.defs.length c6]:=hf 1 _ rfl
  have s2:f 2=.agg #[.int .i64 d2.term.kind,.int .i64 d2.term.value,.slice A7 d2.term.data.length c7,.slice A8 d2.term.kids.length c8,.slice A9 d2.env.length c9]:=hf 2 _ rfl
  refine wp_seq<|wp_rl rfl ?_
  refine RL.box rfl s0 (fun w10 B11 hb12 szw10=>?_)
  replace B11:Blk w10 w.heap.size 121 #[.pointer (some ⟨ba0,oa0,none⟩)]:=B11
  have GB11:w.heap.size≤w.heap.size:=T.size
  have T:=Tt T hb12
  refine RL.box rfl s1 (fun w14 B15 hb16 szw14=>?_)
  replace B15:Blk w14 w10.heap.size 75 #[.slice A6 d1.defs.length c6]:=B15
  have GB15:w.heap.size≤w10.heap.size:=T.size
  have Eob17_ob13:=Nat.ne_of_lt B11.lt
  have B11:=blkT B11 hb16
  have T:=Tt T hb16
  refine RL.box rfl s2 (fun w18 B19 hb20 szw18=>?_)
  replace B19:Blk w18 w14.heap.size 80 #[.int .i64 d2.term.kind,.int .i64 d2.term.value,.slice A7 d2.term.data.length c7,.slice A8 d2.term.kids.length c8,.slice A9 d2.env.length c9]:=B19
  have GB19:w.heap.size≤w14.heap.size:=T.size
  have Eob21_ob13:=Nat.ne_of_lt B11.lt
  have Eob21_ob17:=Nat.ne_of_lt B15.lt
  have B11:=blkT B11 hb20
  have B15:=blkT B15 hb20
  have T:=Tt T hb20
  refine RL.y rfl (Y.assign (v:=.bool false) rfl)<|RL.nil<|then_n<|wp_seq<|wp_seq<|wp_rb rfl<|RQ.y rfl (Y.fieldAddr (off:=0) rfl (by kernel_rfl))<|RQ.y rfl (Y.loadN (cs:=[.int .i64 d2.term.kind,.int .i64 d2.term.value,.slice A7 d2.term.data.length c7,.slice A8 d2.term.kids.length c8]) rfl (by kernel_rfl) (cells4 (beC (blkCell B19 (i:=0) rfl)) (beC (blkCell B19 (i:=1) rfl)) (beC (blkCell B19 (i:=2) rfl)) (beC (blkCell B19 (i:=3) rfl)))) ?_
  obtain ⟨y22,e23,hm⟩:=bnd hm
  refine RQ.call rfl (am1 rfl) (by kernel_rfl) (v:=.bool y22) (bel (K:=fun _=>True) fun w' hb'=>(c_m_impl_IsErased (⟨d2.term.kind,d2.term.value,d2.term.data,d2.term.kids⟩:DCore) _ e23 _ w' (stArg (R:=coreRd) (coreRd_in ⟨_,_,_,_,_,_,rfl,⟨SlAt.now intRd_ok h7 (Nat.le_refl _) (Tt T hb'),r7⟩,⟨SlAt.now coreRd_ok h8 (Nat.le_refl _) (Tt T hb'),r8⟩⟩))))<|RQ.y rfl (Y.not (b':=(!y22)) rfl rfl)<|RQ.y rfl (Y.move (v:=.bool (!y22)) rfl) ?_
  rcases bcases y22 with c24|c24
  ·replace hm:=cF c24 hm
   iterate 7 refine RQ.skip (wantN (dj:=11) rfl (vbn rfl c24 rfl) rfl) ?_
   refine RQ.y rfl (Y.pick (b:=true) (v:=.bool true) (vbn rfl c24 rfl) rfl)<|RQ.y rfl (Y.move (v:=.bool true) rfl) ?_
   iterate 7 refine RQ.skip (wantN (dj:=20) rfl rfl rfl) ?_
   refine RQ.y rfl (Y.pick (b:=true) (v:=.bool true) rfl rfl)<|RQ.y rfl (Y.move (v:=.bool true) rfl) ?_
   iterate 4 refine RQ.skip (wantN (dj:=29) rfl rfl rfl) ?_
   refine RQ.y rfl (Y.pick (b:=true) (v:=.bool true) rfl rfl)<|RQ.nil ?_
   intro w25 hb26
   have szw25:=hb26.size
   have B11:=blkT B11 hb26
   have B19:=blkT B19 hb26
   have T:=Tt T hb26
   refine then_n<|cond_t rfl rfl<|wp_seq<|wp_rs rfl<|RQ.y rfl (Y.assign (v:=.bool false) rfl)<|RQ.nil<|then_n<|wp_ret ?_
   obtain rfl:=sj hm
   exact (then_r (ret1 rfl rfl rfl ⟨rfl,T⟩))
  replace hm:=cT c24 hm
  refine RQ.y (wantT (dj:=11) rfl (vbn rfl c24 rfl)) (Y.fieldAddr (off:=0) rfl (by kernel_rfl))<|RQ.y (wantT (dj:=11) rfl (vbn rfl c24 rfl)) (Y.loadN (cs:=[.int .i64 d2.term.kind,.int .i64 d2.term.value,.slice A7 d2.term.data.length c7,.slice A8 d2.term.kids.length c8]) rfl (by kernel_rfl) (cells4 (beC (blkCell B19 (i:=0) rfl)) (beC (blkCell B19 (i:=1) rfl)) (beC (blkCell B19 (i:=2) rfl)) (beC (blkCell B19 (i:=3) rfl))))<|RQ.y (wantT (dj:=11) rfl (vbn rfl c24 rfl)) (Y.fieldAddr (off:=0) rfl (by kernel_rfl))<|RQ.y (wantT (dj:=11) rfl (vbn rfl c24 rfl)) (Y.load (v:=.slice A6 d1.defs.length c6) rfl (by kernel_rfl) (beC (blkCell B15 (i:=0) rfl)))<|RQ.y (wantT (dj:=11) rfl (vbn rfl c24 rfl)) (Y.len (by kernel_rfl) rfl) ?_
  obtain ⟨y27,e28,hm⟩:=bnd hm
  refine RQ.call (wantT (dj:=11) rfl (vbn rfl c24 rfl)) (am2 rfl rfl) (by kernel_rfl) (v:=.bool y27) (bel (K:=fun _=>True) fun w' hb'=>(c_m_impl_namesOnly (⟨d2.term.kind,d2.term.value,d2.term.data,d2.term.kids⟩:DCore) (d1.defs.length:Int) _ e28 _ w' (stArg (R:=coreRd) (coreRd_in ⟨_,_,_,_,_,_,rfl,⟨SlAt.now intRd_ok h7 (Nat.le_refl _) (Tt T hb'),r7⟩,⟨SlAt.now coreRd_ok h8 (Nat.le_refl _) (Tt T hb'),r8⟩⟩))))<|RQ.y (wantT (dj:=11) rfl (vbn rfl c24 rfl)) (Y.not (b':=(!y27)) rfl rfl)<|RQ.y rfl (Y.pick (b:=false) (v:=.bool (!y27)) (vbn rfl c24 rfl) rfl)<|RQ.y rfl (Y.move (v:=.bool (!y27)) rfl) ?_
  rcases bcases y27 with c29|c29
  ·replace hm:=cF c29 hm
   iterate 7 refine RQ.skip (wantN (dj:=20) rfl (vbn rfl c29 rfl) rfl) ?_
   refine RQ.y rfl (Y.pick (b:=true) (v:=.bool true) (vbn rfl c29 rfl) rfl)<|RQ.y rfl (Y.move (v:=.bool true) rfl) ?_
   iterate 4 refine RQ.skip (wantN (dj:=29) rfl rfl rfl) ?_
   refine RQ.y rfl (Y.pick (b:=true) (v:=.bool true) rfl rfl)<|RQ.nil ?_
   intro w30 hb31
   have szw30:=hb31.size
   have B11:=blkT B11 hb31
   have B19:=blkT B19 hb31
   have T:=Tt T hb31
   refine then_n<|cond_t rfl rfl<|wp_seq<|wp_rs rfl<|RQ.y rfl (Y.assign (v:=.bool false) rfl)<|RQ.nil<|then_n<|wp_ret ?_
   obtain rfl:=sj hm
   exact (then_r (ret1 rfl rfl rfl ⟨rfl,T⟩))
  replace hm:=cT c29 hm
  refine RQ.y (wantT (dj:=20) rfl (vbn rfl c29 rfl)) (Y.fieldAddr (off:=0) rfl (by kernel_rfl))<|RQ.y (wantT (dj:=20) rfl (vbn rfl c29 rfl)) (Y.loadN (cs:=[.int .i64 d2.term.kind,.int .i64 d2.term.value,.slice A7 d2.term.data.length c7,.slice A8 d2.term.kids.length c8]) rfl (by kernel_rfl) (cells4 (beC (blkCell B19 (i:=0) rfl)) (beC (blkCell B19 (i:=1) rfl)) (beC (blkCell B19 (i:=2) rfl)) (beC (blkCell B19 (i:=3) rfl))))<|RQ.y (wantT (dj:=20) rfl (vbn rfl c29 rfl)) (Y.fieldAddr (off:=4) rfl (by kernel_rfl))<|RQ.y (wantT (dj:=20) rfl (vbn rfl c29 rfl)) (Y.load (v:=.slice A9 d2.env.length c9) rfl (by kernel_rfl) (beC (blkCell B19 (i:=4) rfl)))<|RQ.y (wantT (dj:=20) rfl (vbn rfl c29 rfl)) (Y.len (by kernel_rfl) rfl) ?_
  obtain ⟨y32,e33,hm⟩:=bnd hm
  refine RQ.call (wantT (dj:=20) rfl (vbn rfl c29 rfl)) (am2 rfl rfl) (by kernel_rfl) (v:=.bool y32) (bel (K:=fun _=>True) fun w' hb'=>(c_m_impl_closedBelow (SizeOf.sizeOf (⟨d2.term.kind,d2.term.value,d2.term.data,d2.term.kids⟩:DCore)) (⟨d2.term.kind,d2.term.value,d2.term.data,d2.term.kids⟩:DCore) (d2.env.length:Int) _ e33 _ w' (stArg (R:=coreRd) (coreRd_in ⟨_,_,_,_,_,_,rfl,⟨SlAt.now intRd_ok h7 (Nat.le_refl _) (Tt T hb'),r7⟩,⟨SlAt.now coreRd_ok h8 (Nat.le_refl _) (Tt T hb'),r8⟩⟩))))<|RQ.y (wantT (dj:=20) rfl (vbn rfl c29 rfl)) (Y.not (b':=(!y32)) rfl rfl)<|RQ.y rfl (Y.pick (b:=false) (v:=.bool (!y32)) (vbn rfl c29 rfl) rfl)<|RQ.y rfl (Y.move (v:=.bool (!y32)) rfl) ?_
  rcases bcases y32 with c34|c34
  ·replace hm:=cF c34 hm
   iterate 4 refine RQ.skip (wantN (dj:=29) rfl (vbn rfl c34 rfl) rfl) ?_
   refine RQ.y rfl (Y.pick (b:=true) (v:=.bool true) (vbn rfl c34 rfl) rfl)<|RQ.nil ?_
   intro w35 hb36
   have szw35:=hb36.size
   have B11:=blkT B11 hb36
   have B19:=blkT B19 hb36
   have T:=Tt T hb36
   refine then_n<|cond_t rfl rfl<|wp_seq<|wp_rs rfl<|RQ.y rfl (Y.assign (v:=.bool false) rfl)<|RQ.nil<|then_n<|wp_ret ?_
   obtain rfl:=sj hm
   exact (then_r (ret1 rfl rfl rfl ⟨rfl,T⟩))
  replace hm:=cT c34 hm
  refine RQ.y (wantT (dj:=29) rfl (vbn rfl c34 rfl)) (Y.fieldAddr (off:=4) rfl (by kernel_rfl))<|RQ.y (wantT (dj:=29) rfl (vbn rfl c34 rfl)) (Y.load (v:=.slice A9 d2.env.length c9) rfl (by kernel_rfl) (beC (blkCell B19 (i:=4) rfl)))<|RQ.y (wantT (dj:=29) rfl (vbn rfl c34 rfl)) (Y.len (by kernel_rfl) rfl)<|RQ.y (wantT (dj:=29) rfl (vbn rfl c34 rfl)) (Y.binI (v:=.bool (decide ((d2.env.length:Int) > 256))) rfl rfl rfl)<|RQ.y rfl (Y.pick (b:=false) (v:=.bool (decide ((d2.env.length:Int) > 256))) (vbn rfl c34 rfl) rfl)<|RQ.nil ?_
  intro w37 hb38
  have szw37:=hb38.size
  have B11:=blkT B11 hb38
  have B19:=blkT B19 hb38
  have T:=Tt T hb38
  refine then_n ?_
  rcases bcases (decide ((d2.env.length:Int) > 256)) with c39|c39
  ·replace hm:=cF c39 hm
   have pc39:=of_decide_eq_false c39
   refine cond_f rfl (vb rfl c39)<|wp_skip<|then_n<|wp_seq<|wp_rb rfl<|RQ.y rfl (Y.fieldAddr (off:=4) rfl (by kernel_rfl))<|RQ.y rfl (Y.load (v:=.slice A9 d2.env.length c9) rfl (by kernel_rfl) (beC (blkCell B19 (i:=4) rfl)))<|RQ.y rfl (Y.makeFunc (vals:=#[.pointer (some ⟨w.heap.size,0,none⟩)]) (am1 rfl)) ?_
   obtain ⟨y40,e41,hm⟩:=bnd hm
   refine RQ.call rfl (am2 rfl rfl) (by kernel_rfl) (v:=.bool y40) (bel (K:=fun _=>True) fun w' hb'=>(c_m_slices_ContainsFunc_int64_int64 d2.env (fun x0=>m_impl_Need_validClosure_1 x0 d0) _ e41 _ _ _ w' (slArg intRd_ok h9 r9 (Tt T hb')) (by kernel_rfl) (fun x0 b hx w1 hb1=>Calls.arr (by simp) (c_m_impl_Need_validClosure_1 x0 d0 _ hx  _ w1  (ptBox (R:=(ptRd needRd)) (blkT B11 (Tt hb' hb1)) (ptRd_of (ptArg needRd_ok hba0 hSa0 hca0 (Tt (Tt T hb') hb1))))))))<|RQ.y rfl (Y.not (b':=(!y40)) rfl rfl)<|RQ.y rfl (Y.assign (v:=.bool (!y40)) rfl)<|RQ.nil ?_
   intro w42 hb43
   have szw42:=hb43.size
   have T:=Tt T hb43
   refine then_n<|wp_ret ?_
   obtain rfl:=sj hm
   exact (ret1 rfl rfl rfl ⟨rfl,T⟩)
  replace hm:=cT c39 hm
  have pc39:=of_decide_eq_true c39
  refine cond_t rfl (vb rfl c39)<|wp_seq<|wp_rs rfl<|RQ.y rfl (Y.assign (v:=.bool false) rfl)<|RQ.nil<|then_n<|wp_ret ?_
  obtain rfl:=sj hm
  exact (then_r (ret1 rfl rfl rfl ⟨rfl,T⟩))
noncomputable def m_impl_Closure_isValue_A1 (d0:DClosure):Option Bool:=
  some ((d0.env.length:Int)==(d0.term.kids.length:Int))
noncomputable def m_impl_Closure_isValue_B1 (d0:DClosure) (rec1:Int→Option Bool) (K1:Option Bool) (i12:Int):Option Bool:=
  (bif (decide (i12 < (d0.term.kids.length:Int))) then ((getI d0.term.kids i12).bind fun x15=>(bif (x15.kind != 1) then some false else (bif (x15.value != i12) then some false else (rec1 (i12+1))))) else (K1))
noncomputable def m_impl_Closure_isValue_L1 (d0:DClosure) (K1:Option Bool):Nat→Int→Option Bool
  |0,_=>none
  |g+1,i12=>m_impl_Closure_isValue_B1 d0 (m_impl_Closure_isValue_L1 d0 K1 g) K1 i12
noncomputable def m_impl_Closure_isValue (d0:DClosure):Option Bool:=
  (bif (d0.term.kind==4) then some true else (bif (d0.term.kind==2) then some true else (bif (d0.term.kind==8) then (m_impl_Closure_isValue_L1 d0 (m_impl_Closure_isValue_A1 d0) (d0.term.kids.length+1) 0) else some false)))
set_option maxHeartbeats 2000000 in
theorem c_m_impl_Closure_isValue (d0:DClosure) (r:Bool) (hm:m_impl_Closure_isValue d0=some r) (v0:Value) (w:World) (hv0:St closureRd w v0 d0) :
    Calls Tryz.prog 120 #[v0] w fun e w'=>e=.returned (.bool r)∧Below w.heap.size w w':=by
  obtain ⟨csa0,rfl,⟨A1,n1,c1,A2,n2,c2,A3,n3,c3,rfl,⟨h1,r1⟩,⟨h2,r2⟩,⟨h3,r3⟩⟩⟩:=hv0
  have e1:=h1.len; subst e1
  have q1:=len_le r1
  have e2:=h2.len; subst e2
  have q2:=len_le r2
  have e3:=h3.len; subst e3
  have q3:=len_le r3
  have T:=Below.refl w.heap.size w
  unfold m_impl_Closure_isValue at hm
  refine enter 40 Tryz.func120 rfl rfl rfl ?_
  intro f hf
  have s0:f 0=.agg #[.int .i64 d0.term.kind,.int .i64 d0.term.value,.slice A1 d0.term.data.length c1,.slice A2 d0.term.kids.length c2,.slice A3 d0.env.length c3]:=hf 0 _ rfl
  refine wp_seq<|wp_rl rfl ?_
  refine RL.box rfl s0 (fun w4 B5 hb6 szw4=>?_)
  replace B5:Blk w4 w.heap.size 80 #[.int .i64 d0.term.kind,.int .i64 d0.term.value,.slice A1 d0.term.data.length c1,.slice A2 d0.term.kids.length c2,.slice A3 d0.env.length c3]:=B5
  have GB5:w.heap.size≤w.heap.size:=T.size
  have T:=Tt T hb6
  refine RL.y rfl (Y.assign (v:=.bool false) rfl)<|RL.nil<|then_n<|wp_seq<|wp_seq<|wp_rs rfl<|RQ.y rfl (Y.fieldAddr (off:=0) rfl (by kernel_rfl))<|RQ.y rfl (Y.fieldAddr (off:=0) rfl (by kernel_rfl))<|RQ.y rfl (Y.load (v:=.int .i64 d0.term.kind) rfl (by kernel_rfl) (eqC (blkCell B5 (i:=0) rfl)))<|RQ.nil<|then_n<|wp_block<|wp_seq<|wp_seq<|wp_rs rfl<|RQ.y rfl (Y.binI (v:=.bool (d0.term.kind==4)) rfl rfl rfl)<|RQ.y rfl (Y.assign (v:=.bool (d0.term.kind==4)) rfl)<|RQ.nil<|then_n ?_
  rcases bcases (d0.term.kind==4) with c8|c8
  ·replace hm:=cF c8 hm
   refine cond_f rfl (vb rfl c8)<|wp_rs rfl<|RQ.y rfl (Y.binI (v:=.bool (d0.term.kind==2)) rfl rfl rfl)<|RQ.y rfl (Y.assign (v:=.bool (d0.term.kind==2)) rfl)<|RQ.nil<|then_n ?_
   rcases bcases (d0.term.kind==2) with c9|c9
   ·replace hm:=cF c9 hm
    refine cond_f rfl (vb rfl c9)<|wp_seq<|wp_rs rfl<|RQ.y rfl (Y.binI (v:=.bool (d0.term.kind==8)) rfl rfl rfl)<|RQ.y rfl (Y.assign (v:=.bool (d0.term.kind==8)) rfl)<|RQ.nil<|then_n ?_
    rcases bcases (d0.term.kind==8) with c10|c10
    ·replace hm:=cF c10 hm
     refine cond_f rfl (vb rfl c10)<|wp_skip ?_
     refine blk_n (then_n ?_)
     refine wp_seq<|wp_rs rfl<|RQ.y rfl (Y.assign (v:=.bool false) rfl)<|RQ.nil<|then_n<|wp_ret ?_
     obtain rfl:=sj hm
     exact (ret1 rfl rfl rfl ⟨rfl,T⟩)
    replace hm:=cT c10 hm
    refine cond_t rfl (vb rfl c10)<|wp_seq<|wp_seq<|wp_rs rfl<|RQ.y rfl (Y.fieldAddr (off:=0) rfl (by kernel_rfl))<|RQ.y rfl (Y.fieldAddr (off:=3) rfl (by kernel_rfl))<|RQ.y rfl (Y.load (v:=.slice A2 d0.term.kids.length c2) rfl (by kernel_rfl) (eqC (blkCell B5 (i:=3) rfl)))<|RQ.y rfl (Y.len (by kernel_rfl) rfl)<|RQ.y rfl (Y.move (v:=.int .i64 0) rfl)<|RQ.nil<|then_n<|wp_block ?_
    obtain ⟨K1,hK1,hm⟩ :∃K,K=(m_impl_Closure_isValue_A1 d0)∧m_impl_Closure_isValue_L1 d0 K (d0.term.kids.length+1) 0=some r:=⟨_,rfl,hm⟩
    refine wp_loopX (fun g f w'=>∃(i12:Int),f 1=.pointer (some ⟨w.heap.size,0,none⟩)∧f 15=.slice A2 d0.term.kids.length c2∧f 16=.int .i64 (d0.term.kids.length:Int)∧f 17=.int .i64 i12∧0≤i12∧Blk w' w.heap.size 80 #[.int .i64 d0.term.kind,.int .i64 d0.term.value,.slice A1 d0.term.data.length c1,.slice A2 d0.term.kids.length c2,.slice A3 d0.env.length c3]∧Below w.heap.size w w'∧m_impl_Closure_isValue_L1 d0 K1 g i12=some r) 1 (fun f w'=>f 1=.pointer (some ⟨w.heap.size,0,none⟩)∧Blk w' w.heap.size 80 #[.int .i64 d0.term.kind,.int .i64 d0.term.value,.slice A1 d0.term.data.length c1,.slice A2 d0.term.kids.length c2,.slice A3 d0.env.length c3]∧Below w.heap.size w w'∧m_impl_Closure_isValue_A1 d0  = some r) (d0.term.kids.length+1) ⟨0,rfl,rfl,rfl,rfl,(by omega),B5,T,hm⟩ ?_ ?_
    ·rintro f w11 ⟨s1_1x,B5,T,hm⟩
     unfold m_impl_Closure_isValue_A1 at hm
     refine blk_hit (then_n ?_)
     refine wp_seq<|wp_rs rfl<|RQ.y rfl (Y.fieldAddr (off:=4) s1_1x (by kernel_rfl))<|RQ.y rfl (Y.load (v:=.slice A3 d0.env.length c3) rfl (by kernel_rfl) (eqC (blkCell B5 (i:=4) rfl)))<|RQ.y rfl (Y.len (by kernel_rfl) rfl)<|RQ.y rfl (Y.fieldAddr (off:=0) s1_1x (by kernel_rfl))<|RQ.y rfl (Y.fieldAddr (off:=3) rfl (by kernel_rfl))<|RQ.y rfl (Y.load (v:=.slice A2 d0.term.kids.length c2) rfl (by kernel_rfl) (eqC (blkCell B5 (i:=3) rfl)))<|RQ.y rfl (Y.len (by kernel_rfl) rfl)<|RQ.y rfl (Y.binI (v:=.bool ((d0.env.length:Int)==(d0.term.kids.length:Int))) rfl rfl rfl)<|RQ.y rfl (Y.assign (v:=.bool ((d0.env.length:Int)==(d0.term.kids.length:Int))) rfl)<|RQ.nil<|then_n<|wp_ret ?_
     obtain rfl:=sj hm
     exact (blk_r (then_r (ret1 rfl rfl rfl ⟨rfl,T⟩)))
    rintro g f w13 ⟨i12,s1_1,s15_1,s16_1,s17_1,nn17_1,B5,T,hm⟩
    rcases g with _|g
    ·simp only [m_impl_Closure_isValue_L1] at hm; cases hm
    obtain ⟨rec1,hrec1,hm⟩ :∃z,z=m_impl_Closure_isValue_L1 d0 K1 g∧m_impl_Closure_isValue_B1 d0 z K1 i12=some r:=⟨_,rfl,hm⟩
    unfold m_impl_Closure_isValue_B1 at hm
    refine wp_seq<|wp_rs rfl<|RQ.y rfl (Y.binI (v:=.bool (decide (i12 < (d0.term.kids.length:Int)))) s17_1 s16_1 rfl)<|RQ.nil<|then_n<|wp_seq ?_
    rcases bcases (decide (i12 < (d0.term.kids.length:Int))) with c14|c14
    ·replace hm:=cF c14 hm
     have pc14:=of_decide_eq_false c14
     refine cond_f rfl (vb rfl c14)<|wp_exit ?_
     exact (then_x (then_x (hit_x ⟨_,rfl,⟨s1_1,B5,T,(by rw [hK1] at hm; exact hm)⟩⟩)))
    replace hm:=cT c14 hm
    have pc14:=of_decide_eq_true c14
    refine cond_t rfl (vb rfl c14)<|wp_skip<|then_n<|wp_seq<|wp_block<|wp_seq<|wp_rl rfl<|RL.y rfl (Y.move (v:=.int .i64 i12) s17_1) ?_
    obtain ⟨x15,hx18,hm⟩:=bnd hm
    obtain ⟨k16,hk19,hl20,hx18⟩:=getI_some hx18
    obtain ⟨b22,o23,rfl,hbb22⟩:=h2.addr (by omega)
    obtain ⟨cs17,hRcs17,hc21⟩:=h2.el hx18
    have hScs17:=hRcs17
    obtain ⟨A24,n24,c24,A25,n25,c25,rfl,⟨h24,r24⟩,⟨h25,r25⟩⟩:=(coreRd_out hRcs17)
    have e24:=h24.len; subst e24
    have q24:=len_le r24
    have e25:=h25.len; subst e25
    have q25:=len_le r25
    refine RL.y rfl (Y.indexAddr (m:=k16) (sz:=4) s15_1 s17_1 hk19 hl20 (by kernel_rfl))<|RL.y rfl (Y.loadN (cs:=[.int .i64 x15.kind,.int .i64 x15.value,.slice A24 x15.data.length c24,.slice A25 x15.kids.length c25]) rfl (by kernel_rfl) (cells4 (eqC (cellT T (hc21 0 _ rfl))) (eqC (cellT T (hc21 1 _ rfl))) (eqC (cellT T (hc21 2 _ rfl))) (eqC (cellT T (hc21 3 _ rfl))))) ?_
    refine RL.alloc (z:=.agg #[.int .i64 0,.int .i64 0,.slice none 0 0,.slice none 0 0]) rfl (by kernel_rfl) (fun w26 B27 hb28 szw26=>?_)
    replace B27:Blk w26 w13.heap.size 78 #[.int .i64 0,.int .i64 0,.slice none 0 0,.slice none 0 0]:=B27
    have GB27:w.heap.size≤w13.heap.size:=T.size
    have Eob29_ob7:=Nat.ne_of_lt B5.lt
    have B5:=blkT B5 hb28
    have T:=Tt T hb28
    refine RL.y rfl (Y.assign (v:=.int .i64 i12) rfl) ?_
    refine RL.store (v:=.agg #[.int .i64 x15.kind,.int .i64 x15.value,.slice A24 x15.data.length c24,.slice A25 x15.kids.length c25]) (cs':=#[.int .i64 x15.kind,.int .i64 x15.value,.slice A24 x15.data.length c24,.slice A25 x15.kids.length c25]) rfl rfl rfl B27 (by kernel_rfl) (by rfl) (by rfl) (by rfl) (fun w30 B31 ho32=>?_)
    have szw30:=ho32.size
    have B5:=B5.only_ ho32 (by intro hin; simp at hin; exact Eob29_ob7 hin)
    have T:=T.trans (ho32.below (by first|(simp; done)|(simp; omega)))
    refine RL.nil<|then_n<|wp_seq<|wp_rs rfl<|RQ.y rfl (Y.fieldAddr (off:=0) rfl (by kernel_rfl))<|RQ.y rfl (Y.load (v:=.int .i64 x15.kind) rfl (by kernel_rfl) (eqC (blkCell B31 (i:=0) rfl)))<|RQ.y rfl (Y.binI (v:=.bool (x15.kind != 1)) rfl rfl rfl)<|RQ.y rfl (Y.move (v:=.bool (x15.kind != 1)) rfl) ?_
    rcases bcases (x15.kind != 1) with c33|c33
    ·replace hm:=cF c33 hm
     refine RQ.y (wantT (dj:=25) rfl (vb rfl c33)) (Y.fieldAddr (off:=1) rfl (by kernel_rfl))<|RQ.y (wantT (dj:=25) rfl (vb rfl c33)) (Y.load (v:=.int .i64 x15.value) rfl (by kernel_rfl) (eqC (blkCell B31 (i:=1) rfl)))<|RQ.y (wantT (dj:=25) rfl (vb rfl c33)) (Y.move (v:=.int .i64 i12) rfl)<|RQ.y (wantT (dj:=25) rfl (vb rfl c33)) (Y.binI (v:=.bool (x15.value != i12)) rfl rfl rfl)<|RQ.y rfl (Y.pick (b:=false) (v:=.bool (x15.value != i12)) (vb rfl c33) rfl)<|RQ.nil<|then_n ?_
     rcases bcases (x15.value != i12) with c34|c34
     ·replace hm:=cF c34 hm
      refine cond_f rfl (vb rfl c34)<|wp_skip ?_
      refine blk_n (then_n ?_)
      refine wp_rs rfl<|RQ.y rfl (Y.binI s17_1 rfl (binI_add (m:=i12) (by omega)))<|RQ.y rfl (Y.move (v:=.int .i64 (i12+1)) rfl)<|RQ.nil ?_
      exact (then_n ⟨g,_,Nat.lt_succ_self _,rfl,⟨(i12+1),s1_1,s15_1,s16_1,rfl,(by omega),B5,T,(by rw [← hrec1]; exact hm)⟩⟩)
     replace hm:=cT c34 hm
     refine cond_t rfl (vb rfl c34)<|wp_seq<|wp_rs rfl<|RQ.y rfl (Y.assign (v:=.bool false) rfl)<|RQ.nil<|then_n<|wp_ret ?_
     obtain rfl:=sj hm
     exact (blk_r (then_r (then_r (hit_r (blk_r (then_r (blk_r (then_r (ret1 rfl rfl rfl ⟨rfl,T⟩)))))))))
    replace hm:=cT c33 hm
    iterate 4 refine RQ.skip (wantN (dj:=25) rfl (vb rfl c33) rfl) ?_
    refine RQ.y rfl (Y.pick (b:=true) (v:=.bool true) (vb rfl c33) rfl)<|RQ.nil<|then_n<|cond_t rfl rfl<|wp_seq<|wp_rs rfl<|RQ.y rfl (Y.assign (v:=.bool false) rfl)<|RQ.nil<|then_n<|wp_ret ?_
    obtain rfl:=sj hm
    exact (blk_r (then_r (then_r (hit_r (blk_r (then_r (blk_r (then_r (ret1 rfl rfl rfl ⟨rfl,T⟩)))))))))
   replace hm:=cT c9 hm
   refine cond_t rfl (vb rfl c9)<|wp_seq<|wp_rs rfl<|RQ.y rfl (Y.assign (v:=.bool true) rfl)<|RQ.nil<|then_n<|wp_ret ?_
   obtain rfl:=sj hm
   exact (blk_r (then_r (ret1 rfl rfl rfl ⟨rfl,T⟩)))
  replace hm:=cT c8 hm
  refine cond_t rfl (vb rfl c8)<|wp_skip<|then_n<|cond_t rfl (vb rfl c8)<|wp_seq<|wp_rs rfl<|RQ.y rfl (Y.assign (v:=.bool true) rfl)<|RQ.nil<|then_n<|wp_ret ?_
  obtain rfl:=sj hm
  exact (blk_r (then_r (ret1 rfl rfl rfl ⟨rfl,T⟩)))
noncomputable def m_impl_Closure_isBlank (d0:DClosure):Option Bool:=
  ((m_impl_SameCore (SizeOf.sizeOf (⟨d0.term.kind,d0.term.value,d0.term.data,d0.term.kids⟩:DCore)) (⟨d0.term.kind,d0.term.value,d0.term.data,d0.term.kids⟩:DCore) (⟨0,0,[],[]⟩:DCore)).bind fun y8=>(bif y8 then some ((d0.env.length:Int)==0) else some false))
set_option maxHeartbeats 2000000 in
theorem c_m_impl_Closure_isBlank (d0:DClosure) (r:Bool) (hm:m_impl_Closure_isBlank d0=some r) (v0:Value) (w:World) (hv0:St closureRd w v0 d0) :
    Calls Tryz.prog 189 #[v0] w fun e w'=>e=.returned (.bool r)∧Below w.heap.size w w':=by
  obtain ⟨csa0,rfl,⟨A1,n1,c1,A2,n2,c2,A3,n3,c3,rfl,⟨h1,r1⟩,⟨h2,r2⟩,⟨h3,r3⟩⟩⟩:=hv0
  have e1:=h1.len; subst e1
  have q1:=len_le r1
  have e2:=h2.len; subst e2
  have q2:=len_le r2
  have e3:=h3.len; subst e3
  have q3:=len_le r3
  have T:=Below.refl w.heap.size w
  unfold m_impl_Closure_isBlank at hm
  refine enter 13 Tryz.func189 rfl rfl rfl ?_
  intro f hf
  have s0:f 0=.agg #[.int .i64 d0.term.kind,.int .i64 d0.term.value,.slice A1 d0.term.data.length c1,.slice A2 d0.term.kids.length c2,.slice A3 d0.env.length c3]:=hf 0 _ rfl
  refine wp_seq<|wp_rl rfl ?_
  refine RL.box rfl s0 (fun w4 B5 hb6 szw4=>?_)
  replace B5:Blk w4 w.heap.size 80 #[.int .i64 d0.term.kind,.int .i64 d0.term.value,.slice A1 d0.term.data.length c1,.slice A2 d0.term.kids.length c2,.slice A3 d0.env.length c3]:=B5
  have GB5:w.heap.size≤w.heap.size:=T.size
  have T:=Tt T hb6
  refine RL.y rfl (Y.assign (v:=.bool false) rfl)<|RL.nil<|then_n<|wp_seq<|wp_rb rfl<|RQ.y rfl (Y.fieldAddr (off:=0) rfl (by kernel_rfl))<|RQ.y rfl (Y.loadN (cs:=[.int .i64 d0.term.kind,.int .i64 d0.term.value,.slice A1 d0.term.data.length c1,.slice A2 d0.term.kids.length c2]) rfl (by kernel_rfl) (cells4 (beC (blkCell B5 (i:=0) rfl)) (beC (blkCell B5 (i:=1) rfl)) (beC (blkCell B5 (i:=2) rfl)) (beC (blkCell B5 (i:=3) rfl))))<|RQ.y rfl (Y.build0 (cells:=#[.int .i64 0,.int .i64 0,.slice none 0 0,.slice none 0 0])  (by kernel_rfl) (by kernel_rfl)) ?_
  obtain ⟨y8,e9,hm⟩:=bnd hm
  refine RQ.call rfl (am2 rfl rfl) (by kernel_rfl) (v:=.bool y8) (bel (K:=fun _=>True) fun w' hb'=>(c_m_impl_SameCore (SizeOf.sizeOf (⟨d0.term.kind,d0.term.value,d0.term.data,d0.term.kids⟩:DCore)) (⟨d0.term.kind,d0.term.value,d0.term.data,d0.term.kids⟩:DCore) (⟨0,0,[],[]⟩:DCore) _ e9 _ _ w' (stArg (R:=coreRd) (coreRd_in ⟨_,_,_,_,_,_,rfl,⟨SlAt.now intRd_ok h1 (Nat.le_refl _) (Tt T hb'),r1⟩,⟨SlAt.now coreRd_ok h2 (Nat.le_refl _) (Tt T hb'),r2⟩⟩)) (stArg (R:=coreRd) (coreRd_in ⟨_,_,_,_,_,_,rfl,⟨SlAt.none_,Nat.le_refl _,Nat.zero_le _⟩,⟨SlAt.none_,Nat.le_refl _,Nat.zero_le _⟩⟩))))<|RQ.y rfl (Y.move (v:=.bool y8) rfl) ?_
  rcases bcases y8 with c10|c10
  ·replace hm:=cF c10 hm
   iterate 4 refine RQ.skip (wantN (dj:=7) rfl (vb rfl c10) rfl) ?_
   refine RQ.y rfl (Y.pick (b:=false) (v:=.bool false) (vb rfl c10) rfl)<|RQ.y rfl (Y.assign (v:=.bool false) rfl)<|RQ.nil ?_
   intro w11 hb12
   have szw11:=hb12.size
   have T:=Tt T hb12
   refine then_n<|wp_ret ?_
   obtain rfl:=sj hm
   exact (ret1 rfl rfl rfl ⟨rfl,T⟩)
  replace hm:=cT c10 hm
  refine RQ.y (wantT (dj:=7) rfl (vb rfl c10)) (Y.fieldAddr (off:=4) rfl (by kernel_rfl))<|RQ.y (wantT (dj:=7) rfl (vb rfl c10)) (Y.load (v:=.slice A3 d0.env.length c3) rfl (by kernel_rfl) (beC (blkCell B5 (i:=4) rfl)))<|RQ.y (wantT (dj:=7) rfl (vb rfl c10)) (Y.len (by kernel_rfl) rfl)<|RQ.y (wantT (dj:=7) rfl (vb rfl c10)) (Y.binI (v:=.bool ((d0.env.length:Int)==0)) rfl rfl rfl)<|RQ.y rfl (Y.pick (b:=true) (v:=.bool ((d0.env.length:Int)==0)) (vb rfl c10) rfl)<|RQ.y rfl (Y.assign (v:=.bool ((d0.env.length:Int)==0)) rfl)<|RQ.nil ?_
  intro w13 hb14
  have szw13:=hb14.size
  have T:=Tt T hb14
  refine then_n<|wp_ret ?_
  obtain rfl:=sj hm
  exact (ret1 rfl rfl rfl ⟨rfl,T⟩)
noncomputable def m_impl_areDefs_1 (d0:Int) (d1:DBook):Option Bool:=
  (bif (decide (d0 < 0)) then some true else some (decide (d0 ≥ (d1.defs.length:Int))))
set_option maxHeartbeats 2000000 in
theorem c_m_impl_areDefs_1 (d0:Int) (d1:DBook) (r:Bool) (hm:m_impl_areDefs_1 d0 d1=some r) (v1:Value) (w:World) (hv1:Pt bookRd w v1 d1) :
    Calls Tryz.prog 229 #[.int .i64 d0,v1] w fun e w'=>e=.returned (.bool r)∧Below w.heap.size w w':=by
  obtain ⟨ba1,oa1,csa1,rfl,hba1,hRa1,hca1⟩:=hv1
  have hSa1:=hRa1
  obtain ⟨A1,n1,c1,rfl,⟨h1,r1⟩⟩:=hRa1
  have e1:=h1.len; subst e1
  have q1:=len_le r1
  have T:=Below.refl w.heap.size w
  unfold m_impl_areDefs_1 at hm
  refine enter 13 Tryz.func229 rfl rfl rfl ?_
  intro f hf
  have s0:f 0=.int .i64 d0:=hf 0 _ rfl
  have s1:f 1=.pointer (some ⟨ba1,oa1,none⟩):=hf 1 _ rfl
  refine wp_seq<|wp_rs rfl<|RQ.y rfl (Y.assign (v:=.bool false) rfl)<|RQ.nil<|then_n<|wp_seq<|wp_rs rfl<|RQ.y rfl (Y.move (v:=.int .i64 d0) s0)<|RQ.y rfl (Y.binI (v:=.bool (decide (d0 < 0))) rfl rfl rfl)<|RQ.y rfl (Y.move (v:=.bool (decide (d0 < 0))) rfl) ?_
  rcases bcases (decide (d0 < 0)) with c2|c2
  ·replace hm:=cF c2 hm
   have pc2:=of_decide_eq_false c2
   refine RQ.y (wantT (dj:=6) rfl (vb rfl c2)) (Y.move (v:=.int .i64 d0) s0)<|RQ.y (wantT (dj:=6) rfl (vb rfl c2)) (Y.fieldAddr (off:=0) s1 (by kernel_rfl))<|RQ.y (wantT (dj:=6) rfl (vb rfl c2)) (Y.load (v:=.slice A1 d1.defs.length c1) rfl (by kernel_rfl) (eqC (cellT T (hca1 0 _ rfl))))<|RQ.y (wantT (dj:=6) rfl (vb rfl c2)) (Y.len (by kernel_rfl) rfl)<|RQ.y (wantT (dj:=6) rfl (vb rfl c2)) (Y.binI (v:=.bool (decide (d0 ≥ (d1.defs.length:Int)))) rfl rfl rfl)<|RQ.y rfl (Y.pick (b:=false) (v:=.bool (decide (d0 ≥ (d1.defs.length:Int)))) (vb rfl c2) rfl)<|RQ.y rfl (Y.assign (v:=.bool (decide (d0 ≥ (d1.defs.length:Int)))) rfl)<|RQ.nil<|then_n<|wp_ret ?_
   obtain rfl:=sj hm
   exact (ret1 rfl rfl rfl ⟨rfl,T⟩)
  replace hm:=cT c2 hm
  have pc2:=of_decide_eq_true c2
  iterate 5 refine RQ.skip (wantN (dj:=6) rfl (vb rfl c2) rfl) ?_
  refine RQ.y rfl (Y.pick (b:=true) (v:=.bool true) (vb rfl c2) rfl)<|RQ.y rfl (Y.assign (v:=.bool true) rfl)<|RQ.nil<|then_n<|wp_ret ?_
  obtain rfl:=sj hm
  exact (ret1 rfl rfl rfl ⟨rfl,T⟩)
noncomputable def m_impl_areDefs (d0:DBook) (d1:List Int):Option Bool:=
  ((m_slices_ContainsFunc_int64_int64 d1 (fun x0=>m_impl_areDefs_1 x0 d0)).bind fun y6=>some (!y6))
set_option maxHeartbeats 2000000 in
theorem c_m_impl_areDefs (d0:DBook) (d1:List Int) (r:Bool) (hm:m_impl_areDefs d0 d1=some r) (v0:Value) (v1:Value) (w:World) (hv0:St bookRd w v0 d0) (hv1:Sl intRd 1 w v1 d1) :
    Calls Tryz.prog 192 #[v0,v1] w fun e w'=>e=.returned (.bool r)∧Below w.heap.size w w':=by
  obtain ⟨csa0,rfl,⟨A1,n1,c1,rfl,⟨h1,r1⟩⟩⟩:=hv0
  have e1:=h1.len; subst e1
  have q1:=len_le r1
  obtain ⟨Aa1,na1,ca1,rfl,ha1,ra1⟩:=hv1
  have ea1:=ha1.len; subst ea1
  have qa1:=len_le ra1
  have T:=Below.refl w.heap.size w
  unfold m_impl_areDefs at hm
  refine enter 9 Tryz.func192 rfl rfl rfl ?_
  intro f hf
  have s0:f 0=.agg #[.slice A1 d0.defs.length c1]:=hf 0 _ rfl
  have s1:f 1=.slice Aa1 d1.length ca1:=hf 1 _ rfl
  refine wp_seq<|wp_rl rfl ?_
  refine RL.box rfl s0 (fun w2 B3 hb4 szw2=>?_)
  replace B3:Blk w2 w.heap.size 75 #[.slice A1 d0.defs.length c1]:=B3
  have GB3:w.heap.size≤w.heap.size:=T.size
  have T:=Tt T hb4
  refine RL.y rfl (Y.assign (v:=.bool false) rfl)<|RL.nil<|then_n<|wp_seq<|wp_rb rfl<|RQ.y rfl (Y.move (v:=.slice Aa1 d1.length ca1) s1)<|RQ.y rfl (Y.makeFunc (vals:=#[.pointer (some ⟨w.heap.size,0,none⟩)]) (am1 rfl)) ?_
  obtain ⟨y6,e7,hm⟩:=bnd hm
  refine RQ.call rfl (am2 rfl rfl) (by kernel_rfl) (v:=.bool y6) (bel (K:=fun _=>True) fun w' hb'=>(c_m_slices_ContainsFunc_int64_int64 d1 (fun x0=>m_impl_areDefs_1 x0 d0) _ e7 _ _ _ w' (slArg intRd_ok ha1 ra1 (Tt T hb')) (by kernel_rfl) (fun x0 b hx w1 hb1=>Calls.arr (by simp) (c_m_impl_areDefs_1 x0 d0 _ hx  _ w1  (ptBox (R:=bookRd) (blkT B3 (Tt hb' hb1)) ⟨_,_,_,rfl,⟨SlAt.now coreRd_ok h1 (Nat.le_refl _) (Tt (Tt T hb') hb1),r1⟩⟩)))))<|RQ.y rfl (Y.not (b':=(!y6)) rfl rfl)<|RQ.y rfl (Y.assign (v:=.bool (!y6)) rfl)<|RQ.nil ?_
  intro w8 hb9
  have szw8:=hb9.size
  have T:=Tt T hb9
  refine then_n<|wp_ret ?_
  obtain rfl:=sj hm
  exact (ret1 rfl rfl rfl ⟨rfl,T⟩)
noncomputable def m_impl_Need_validFrame (d0:DNeed) (d1:DBook) (d2:DFrame):Option Bool:=
  (bif (d2.kind != 3) then ((m_impl_Closure_isBlank (⟨(⟨d2.closure.term.kind,d2.closure.term.value,d2.closure.term.data,d2.closure.term.kids⟩:DCore),d2.closure.env⟩:DClosure)).bind fun y98=>(bif y98 then (bif (d2.kind==1) then ((m_impl_Need_isAddress d0 d2.value).bind fun y172=>(bif y172 then some ((d2.data.length:Int)==0) else some false)) else (bif (d2.kind==2) then ((m_impl_Need_isAddress d0 d2.value).bind fun y165=>(bif y165 then some ((d2.data.length:Int)==0) else some false)) else (bif (d2.kind==3) then ((m_impl_isOperator d2.value).bind fun y153=>(bif y153 then (bif ((d2.data.length:Int)==0) then ((m_impl_Need_validClosure d0 d1 (⟨(⟨d2.closure.term.kind,d2.closure.term.value,d2.closure.term.data,d2.closure.term.kids⟩:DCore),d2.closure.env⟩:DClosure)).bind fun y161=>some y161) else some false) else some false)) else (bif (d2.kind==4) then ((m_impl_isOperator d2.value).bind fun y132=>(bif y132 then (bif ((d2.data.length:Int)==1) then ((getI d2.data 0).bind fun x140=>((m_impl_isInt x140).bind fun y149=>some y149)) else some false) else some false)) else (bif (d2.kind==5) then (bif (d2.value==0) then (bif (decide ((d2.data.length:Int) ≥ 1)) then (bif (decide ((d2.data.length:Int)≤4)) then ((m_impl_areDefs d1 d2.data).bind fun y128=>some y128) else some false) else some false) else some false) else (bif (d2.kind==6) then (bif (d2.value==0) then (bif ((d2.data.length:Int)==2) then ((m_impl_areDefs d1 d2.data).bind fun y115=>some y115) else some false) else some false) else some false)))))) else some false)) else (bif (d2.kind==1) then ((m_impl_Need_isAddress d0 d2.value).bind fun y91=>(bif y91 then some ((d2.data.length:Int)==0) else some false)) else (bif (d2.kind==2) then ((m_impl_Need_isAddress d0 d2.value).bind fun y84=>(bif y84 then some ((d2.data.length:Int)==0) else some false)) else (bif (d2.kind==3) then ((m_impl_isOperator d2.value).bind fun y72=>(bif y72 then (bif ((d2.data.length:Int)==0) then ((m_impl_Need_validClosure d0 d1 (⟨(⟨d2.closure.term.kind,d2.closure.term.value,d2.closure.term.data,d2.closure.term.kids⟩:DCore),d2.closure.env⟩:DClosure)).bind fun y80=>some y80) else some false) else some false)) else (bif (d2.kind==4) then ((m_impl_isOperator d2.value).bind fun y51=>(bif y51 then (bif ((d2.data.length:Int)==1) then ((getI d2.data 0).bind fun x59=>((m_impl_isInt x59).bind fun y68=>some y68)) else some false) else some false)) else (bif (d2.kind==5) then (bif (d2.value==0) then (bif (decide ((d2.data.length:Int) ≥ 1)) then (bif (decide ((d2.data.length:Int)≤4)) then ((m_impl_areDefs d1 d2.data).bind fun y47=>some y47) else some false) else some false) else some false) else (bif (d2.kind==6) then (bif (d2.value==0) then (bif ((d2.data.length:Int)==2) then ((m_impl_areDefs d1 d2.data).bind fun y34=>some y34) else some false) else some false) else some false)))))))
set_option maxHeartbeats 2000000 in
theorem c_m_impl_Need_validFrame (d0:DNeed) (d1:DBook) (d2:DFrame) (r:Bool) (hm:m_impl_Need_validFrame d0 d1 d2=some r) (v0:Value) (v1:Value) (v2:Value) (w:World) (hv0:Pt needRd w v0 d0) (hv1:St bookRd w v1 d1) (hv2:St frameRd w v2 d2) :
    Calls Tryz.prog 123 #[v0,v1,v2] w fun e w'=>e=.returned (.bool r)∧Below w.heap.size w w':=by
  obtain ⟨ba0,oa0,csa0,rfl,hba0,hRa0,hca0⟩:=hv0
  have hSa0:=hRa0
  obtain ⟨A1,n1,c1,A2,n2,c2,A3,n3,c3,A4,n4,c4,A5,n5,c5,rfl,⟨h1,r1⟩,⟨h2,r2⟩,⟨h3,r3⟩,⟨h4,r4⟩,⟨h5,r5⟩⟩:=hRa0
  have e1:=h1.len; subst e1
  have q1:=len_le r1
  have e2:=h2.len; subst e2
  have q2:=len_le r2
  have e3:=h3.len; subst e3
  have q3:=len_le r3
  have e4:=h4.len; subst e4
  have q4:=len_le r4
  have e5:=h5.len; subst e5
  have q5:=len_le r5
  obtain ⟨csa1,rfl,⟨A6,n6,c6,rfl,⟨h6,r6⟩⟩⟩:=hv1
  have e6:=h6.len; subst e6
  have q6:=len_le r6
  obtain ⟨csa2,rfl,⟨A7,n7,c7,A8,n8,c8,A9,n9,c9,A10,n10,c10,rfl,⟨h7,r7⟩,⟨h8,r8⟩,⟨h9,r9⟩,⟨h10,r10⟩⟩⟩:=hv2
  have e7:=h7.len; subst e7
  have q7:=len_le r7
  have e8:=h8.len; subst e8
  have q8:=len_le r8
  have e9:=h9.len; subst e9
  have q9:=len_le r9
  have e10:=h10.len; subst e10
  have q10:=len_le r10
  have T:=Below.refl w.heap.size w
  unfold m_impl_Need_validFrame at hm
  refine enter 107 Tryz.func123 rfl rfl rfl ?_
  intro f hf
  have s0:f 0=.pointer (some ⟨ba0,oa0,none⟩):=hf 0 _ rfl
  have s1:f 1=.agg #[.slice A6 d1.defs.length c6]:=hf 1 _ rfl
  have s2:f 2=.agg #[.int .i64 d2.kind,.int .i64 d2.value,.slice A7 d2.data.length c7,.int .i64 d2.closure.term.kind,.int .i64 d2.closure.term.value,.slice A8 d2.closure.term.data.length c8,.slice A9 d2.closure.term.kids.length c9,.slice A10 d2.closure.env.length c10]:=hf 2 _ rfl
  refine wp_seq<|wp_rl rfl ?_
  refine RL.box rfl s1 (fun w11 B12 hb13 szw11=>?_)
  replace B12:Blk w11 w.heap.size 75 #[.slice A6 d1.defs.length c6]:=B12
  have GB12:w.heap.size≤w.heap.size:=T.size
  have T:=Tt T hb13
  refine RL.box rfl s2 (fun w15 B16 hb17 szw15=>?_)
  replace B16:Blk w15 w11.heap.size 145 #[.int .i64 d2.kind,.int .i64 d2.value,.slice A7 d2.data.length c7,.int .i64 d2.closure.term.kind,.int .i64 d2.closure.term.value,.slice A8 d2.closure.term.data.length c8,.slice A9 d2.closure.term.kids.length c9,.slice A10 d2.closure.env.length c10]:=B16
  have GB16:w.heap.size≤w11.heap.size:=T.size
  have Eob18_ob14:=Nat.ne_of_lt B12.lt
  have B12:=blkT B12 hb17
  have T:=Tt T hb17
  refine RL.y rfl (Y.assign (v:=.bool false) rfl)<|RL.nil<|then_n<|wp_seq<|wp_seq<|wp_rb rfl<|RQ.y rfl (Y.fieldAddr (off:=0) rfl (by kernel_rfl))<|RQ.y rfl (Y.load (v:=.int .i64 d2.kind) rfl (by kernel_rfl) (beC (blkCell B16 (i:=0) rfl)))<|RQ.y rfl (Y.binI (v:=.bool (d2.kind != 3)) rfl rfl rfl)<|RQ.y rfl (Y.move (v:=.bool (d2.kind != 3)) rfl) ?_
  rcases bcases (d2.kind != 3) with c19|c19
  ·replace hm:=cF c19 hm
   iterate 4 refine RQ.skip (wantN (dj:=10) rfl (vb rfl c19) rfl) ?_
   refine RQ.y rfl (Y.pick (b:=false) (v:=.bool false) (vb rfl c19) rfl)<|RQ.nil ?_
   intro w20 hb21
   have szw20:=hb21.size
   have B12:=blkT B12 hb21
   have B16:=blkT B16 hb21
   have T:=Tt T hb21
   refine then_n<|cond_f rfl rfl<|wp_skip<|then_n<|wp_seq<|wp_seq<|wp_rs rfl<|RQ.y rfl (Y.fieldAddr (off:=0) rfl (by kernel_rfl))<|RQ.y rfl (Y.load (v:=.int .i64 d2.kind) rfl (by kernel_rfl) (eqC (blkCell B16 (i:=0) rfl)))<|RQ.nil<|then_n<|wp_block<|wp_seq<|wp_seq<|wp_rs rfl<|RQ.y rfl (Y.binI (v:=.bool (d2.kind==1)) rfl rfl rfl)<|RQ.y rfl (Y.assign (v:=.bool (d2.kind==1)) rfl)<|RQ.nil<|then_n ?_
   rcases bcases (d2.kind==1) with c22|c22
   ·replace hm:=cF c22 hm
    refine cond_f rfl (vb rfl c22)<|wp_rs rfl<|RQ.y rfl (Y.binI (v:=.bool (d2.kind==2)) rfl rfl rfl)<|RQ.y rfl (Y.assign (v:=.bool (d2.kind==2)) rfl)<|RQ.nil<|then_n ?_
    rcases bcases (d2.kind==2) with c23|c23
    ·replace hm:=cF c23 hm
     refine cond_f rfl (vb rfl c23)<|wp_seq<|wp_rs rfl<|RQ.y rfl (Y.binI (v:=.bool (d2.kind==3)) rfl rfl rfl)<|RQ.y rfl (Y.assign (v:=.bool (d2.kind==3)) rfl)<|RQ.nil<|then_n ?_
     rcases bcases (d2.kind==3) with c24|c24
     ·replace hm:=cF c24 hm
      refine cond_f rfl (vb rfl c24)<|wp_seq<|wp_rs rfl<|RQ.y rfl (Y.binI (v:=.bool (d2.kind==4)) rfl rfl rfl)<|RQ.y rfl (Y.assign (v:=.bool (d2.kind==4)) rfl)<|RQ.nil<|then_n ?_
      rcases bcases (d2.kind==4) with c25|c25
      ·replace hm:=cF c25 hm
       refine cond_f rfl (vb rfl c25)<|wp_seq<|wp_rs rfl<|RQ.y rfl (Y.binI (v:=.bool (d2.kind==5)) rfl rfl rfl)<|RQ.y rfl (Y.assign (v:=.bool (d2.kind==5)) rfl)<|RQ.nil<|then_n ?_
       rcases bcases (d2.kind==5) with c26|c26
       ·replace hm:=cF c26 hm
        refine cond_f rfl (vb rfl c26)<|wp_seq<|wp_rs rfl<|RQ.y rfl (Y.binI (v:=.bool (d2.kind==6)) rfl rfl rfl)<|RQ.y rfl (Y.assign (v:=.bool (d2.kind==6)) rfl)<|RQ.nil<|then_n ?_
        rcases bcases (d2.kind==6) with c27|c27
        ·replace hm:=cF c27 hm
         refine cond_f rfl (vb rfl c27)<|wp_skip ?_
         refine blk_n (then_n ?_)
         refine wp_seq<|wp_rs rfl<|RQ.y rfl (Y.assign (v:=.bool false) rfl)<|RQ.nil<|then_n<|wp_ret ?_
         obtain rfl:=sj hm
         exact (ret1 rfl rfl rfl ⟨rfl,T⟩)
        replace hm:=cT c27 hm
        refine cond_t rfl (vb rfl c27)<|wp_seq<|wp_rb rfl<|RQ.y rfl (Y.fieldAddr (off:=1) rfl (by kernel_rfl))<|RQ.y rfl (Y.load (v:=.int .i64 d2.value) rfl (by kernel_rfl) (beC (blkCell B16 (i:=1) rfl)))<|RQ.y rfl (Y.binI (v:=.bool (d2.value==0)) rfl rfl rfl)<|RQ.y rfl (Y.move (v:=.bool (d2.value==0)) rfl) ?_
        rcases bcases (d2.value==0) with c28|c28
        ·replace hm:=cF c28 hm
         iterate 4 refine RQ.skip (wantN (dj:=95) rfl (vb rfl c28) rfl) ?_
         refine RQ.y rfl (Y.pick (b:=false) (v:=.bool false) (vb rfl c28) rfl)<|RQ.y rfl (Y.move (v:=.bool false) rfl) ?_
         iterate 4 refine RQ.skip (wantN (dj:=101) rfl rfl rfl) ?_
         refine RQ.y rfl (Y.pick (b:=false) (v:=.bool false) rfl rfl)<|RQ.y rfl (Y.assign (v:=.bool false) rfl)<|RQ.nil ?_
         intro w29 hb30
         have szw29:=hb30.size
         have T:=Tt T hb30
         refine then_n<|wp_ret ?_
         obtain rfl:=sj hm
         exact (blk_r (then_r (ret1 rfl rfl rfl ⟨rfl,T⟩)))
        replace hm:=cT c28 hm
        refine RQ.y (wantT (dj:=95) rfl (vb rfl c28)) (Y.fieldAddr (off:=2) rfl (by kernel_rfl))<|RQ.y (wantT (dj:=95) rfl (vb rfl c28)) (Y.load (v:=.slice A7 d2.data.length c7) rfl (by kernel_rfl) (beC (blkCell B16 (i:=2) rfl)))<|RQ.y (wantT (dj:=95) rfl (vb rfl c28)) (Y.len (by kernel_rfl) rfl)<|RQ.y (wantT (dj:=95) rfl (vb rfl c28)) (Y.binI (v:=.bool ((d2.data.length:Int)==2)) rfl rfl rfl)<|RQ.y rfl (Y.pick (b:=true) (v:=.bool ((d2.data.length:Int)==2)) (vb rfl c28) rfl)<|RQ.y rfl (Y.move (v:=.bool ((d2.data.length:Int)==2)) rfl) ?_
        rcases bcases ((d2.data.length:Int)==2) with c31|c31
        ·replace hm:=cF c31 hm
         iterate 4 refine RQ.skip (wantN (dj:=101) rfl (vb rfl c31) rfl) ?_
         refine RQ.y rfl (Y.pick (b:=false) (v:=.bool false) (vb rfl c31) rfl)<|RQ.y rfl (Y.assign (v:=.bool false) rfl)<|RQ.nil ?_
         intro w32 hb33
         have szw32:=hb33.size
         have T:=Tt T hb33
         refine then_n<|wp_ret ?_
         obtain rfl:=sj hm
         exact (blk_r (then_r (ret1 rfl rfl rfl ⟨rfl,T⟩)))
        replace hm:=cT c31 hm
        refine RQ.y (wantT (dj:=101) rfl (vb rfl c31)) (Y.loadN (cs:=[.slice A6 d1.defs.length c6]) rfl (by kernel_rfl) (cells1 (beC (blkCell B12 (i:=0) rfl))))<|RQ.y (wantT (dj:=101) rfl (vb rfl c31)) (Y.fieldAddr (off:=2) rfl (by kernel_rfl))<|RQ.y (wantT (dj:=101) rfl (vb rfl c31)) (Y.load (v:=.slice A7 d2.data.length c7) rfl (by kernel_rfl) (beC (blkCell B16 (i:=2) rfl))) ?_
        obtain ⟨y34,e35,hm⟩:=bnd hm
        refine RQ.call (wantT (dj:=101) rfl (vb rfl c31)) (am2 rfl rfl) (by kernel_rfl) (v:=.bool y34) (bel (K:=fun _=>True) fun w' hb'=>(c_m_impl_areDefs d1 d2.data _ e35 _ _ w' (stArg (R:=bookRd) ⟨_,_,_,rfl,⟨SlAt.now coreRd_ok h6 (Nat.le_refl _) (Tt T hb'),r6⟩⟩) (slArg intRd_ok h7 r7 (Tt T hb'))))<|RQ.y rfl (Y.pick (b:=true) (v:=.bool y34) (vb rfl c31) rfl)<|RQ.y rfl (Y.assign (v:=.bool y34) rfl)<|RQ.nil ?_
        intro w36 hb37
        have szw36:=hb37.size
        have T:=Tt T hb37
        refine then_n<|wp_ret ?_
        obtain rfl:=sj hm
        exact (blk_r (then_r (ret1 rfl rfl rfl ⟨rfl,T⟩)))
       replace hm:=cT c26 hm
       refine cond_t rfl (vb rfl c26)<|wp_seq<|wp_rb rfl<|RQ.y rfl (Y.fieldAddr (off:=1) rfl (by kernel_rfl))<|RQ.y rfl (Y.load (v:=.int .i64 d2.value) rfl (by kernel_rfl) (beC (blkCell B16 (i:=1) rfl)))<|RQ.y rfl (Y.binI (v:=.bool (d2.value==0)) rfl rfl rfl)<|RQ.y rfl (Y.move (v:=.bool (d2.value==0)) rfl) ?_
       rcases bcases (d2.value==0) with c38|c38
       ·replace hm:=cF c38 hm
        iterate 4 refine RQ.skip (wantN (dj:=72) rfl (vb rfl c38) rfl) ?_
        refine RQ.y rfl (Y.pick (b:=false) (v:=.bool false) (vb rfl c38) rfl)<|RQ.y rfl (Y.move (v:=.bool false) rfl) ?_
        iterate 4 refine RQ.skip (wantN (dj:=78) rfl rfl rfl) ?_
        refine RQ.y rfl (Y.pick (b:=false) (v:=.bool false) rfl rfl)<|RQ.y rfl (Y.move (v:=.bool false) rfl) ?_
        iterate 4 refine RQ.skip (wantN (dj:=84) rfl rfl rfl) ?_
        refine RQ.y rfl (Y.pick (b:=false) (v:=.bool false) rfl rfl)<|RQ.y rfl (Y.assign (v:=.bool false) rfl)<|RQ.nil ?_
        intro w39 hb40
        have szw39:=hb40.size
        have T:=Tt T hb40
        refine then_n<|wp_ret ?_
        obtain rfl:=sj hm
        exact (blk_r (then_r (ret1 rfl rfl rfl ⟨rfl,T⟩)))
       replace hm:=cT c38 hm
       refine RQ.y (wantT (dj:=72) rfl (vb rfl c38)) (Y.fieldAddr (off:=2) rfl (by kernel_rfl))<|RQ.y (wantT (dj:=72) rfl (vb rfl c38)) (Y.load (v:=.slice A7 d2.data.length c7) rfl (by kernel_rfl) (beC (blkCell B16 (i:=2) rfl)))<|RQ.y (wantT (dj:=72) rfl (vb rfl c38)) (Y.len (by kernel_rfl) rfl)<|RQ.y (wantT (dj:=72) rfl (vb rfl c38)) (Y.binI (v:=.bool (decide ((d2.data.length:Int) ≥ 1))) rfl rfl rfl)<|RQ.y rfl (Y.pick (b:=true) (v:=.bool (decide ((d2.data.length:Int) ≥ 1))) (vb rfl c38) rfl)<|RQ.y rfl (Y.move (v:=.bool (decide ((d2.data.length:Int) ≥ 1))) rfl) ?_
       rcases bcases (decide ((d2.data.length:Int) ≥ 1)) with c41|c41
       ·replace hm:=cF c41 hm
        have pc41:=of_decide_eq_false c41
        iterate 4 refine RQ.skip (wantN (dj:=78) rfl (vb rfl c41) rfl) ?_
        refine RQ.y rfl (Y.pick (b:=false) (v:=.bool false) (vb rfl c41) rfl)<|RQ.y rfl (Y.move (v:=.bool false) rfl) ?_
        iterate 4 refine RQ.skip (wantN (dj:=84) rfl rfl rfl) ?_
        refine RQ.y rfl (Y.pick (b:=false) (v:=.bool false) rfl rfl)<|RQ.y rfl (Y.assign (v:=.bool false) rfl)<|RQ.nil ?_
        intro w42 hb43
        have szw42:=hb43.size
        have T:=Tt T hb43
        refine then_n<|wp_ret ?_
        obtain rfl:=sj hm
        exact (blk_r (then_r (ret1 rfl rfl rfl ⟨rfl,T⟩)))
       replace hm:=cT c41 hm
       have pc41:=of_decide_eq_true c41
       refine RQ.y (wantT (dj:=78) rfl (vb rfl c41)) (Y.fieldAddr (off:=2) rfl (by kernel_rfl))<|RQ.y (wantT (dj:=78) rfl (vb rfl c41)) (Y.load (v:=.slice A7 d2.data.length c7) rfl (by kernel_rfl) (beC (blkCell B16 (i:=2) rfl)))<|RQ.y (wantT (dj:=78) rfl (vb rfl c41)) (Y.len (by kernel_rfl) rfl)<|RQ.y (wantT (dj:=78) rfl (vb rfl c41)) (Y.binI (v:=.bool (decide ((d2.data.length:Int)≤4))) rfl rfl rfl)<|RQ.y rfl (Y.pick (b:=true) (v:=.bool (decide ((d2.data.length:Int)≤4))) (vb rfl c41) rfl)<|RQ.y rfl (Y.move (v:=.bool (decide ((d2.data.length:Int)≤4))) rfl) ?_
       rcases bcases (decide ((d2.data.length:Int)≤4)) with c44|c44
       ·replace hm:=cF c44 hm
        have pc44:=of_decide_eq_false c44
        iterate 4 refine RQ.skip (wantN (dj:=84) rfl (vb rfl c44) rfl) ?_
        refine RQ.y rfl (Y.pick (b:=false) (v:=.bool false) (vb rfl c44) rfl)<|RQ.y rfl (Y.assign (v:=.bool false) rfl)<|RQ.nil ?_
        intro w45 hb46
        have szw45:=hb46.size
        have T:=Tt T hb46
        refine then_n<|wp_ret ?_
        obtain rfl:=sj hm
        exact (blk_r (then_r (ret1 rfl rfl rfl ⟨rfl,T⟩)))
       replace hm:=cT c44 hm
       have pc44:=of_decide_eq_true c44
       refine RQ.y (wantT (dj:=84) rfl (vb rfl c44)) (Y.loadN (cs:=[.slice A6 d1.defs.length c6]) rfl (by kernel_rfl) (cells1 (beC (blkCell B12 (i:=0) rfl))))<|RQ.y (wantT (dj:=84) rfl (vb rfl c44)) (Y.fieldAddr (off:=2) rfl (by kernel_rfl))<|RQ.y (wantT (dj:=84) rfl (vb rfl c44)) (Y.load (v:=.slice A7 d2.data.length c7) rfl (by kernel_rfl) (beC (blkCell B16 (i:=2) rfl))) ?_
       obtain ⟨y47,e48,hm⟩:=bnd hm
       refine RQ.call (wantT (dj:=84) rfl (vb rfl c44)) (am2 rfl rfl) (by kernel_rfl) (v:=.bool y47) (bel (K:=fun _=>True) fun w' hb'=>(c_m_impl_areDefs d1 d2.data _ e48 _ _ w' (stArg (R:=bookRd) ⟨_,_,_,rfl,⟨SlAt.now coreRd_ok h6 (Nat.le_refl _) (Tt T hb'),r6⟩⟩) (slArg intRd_ok h7 r7 (Tt T hb'))))<|RQ.y rfl (Y.pick (b:=true) (v:=.bool y47) (vb rfl c44) rfl)<|RQ.y rfl (Y.assign (v:=.bool y47) rfl)<|RQ.nil ?_
       intro w49 hb50
       have szw49:=hb50.size
       have T:=Tt T hb50
       refine then_n<|wp_ret ?_
       obtain rfl:=sj hm
       exact (blk_r (then_r (ret1 rfl rfl rfl ⟨rfl,T⟩)))
      replace hm:=cT c25 hm
      refine cond_t rfl (vb rfl c25)<|wp_seq<|wp_rb rfl<|RQ.y rfl (Y.fieldAddr (off:=1) rfl (by kernel_rfl))<|RQ.y rfl (Y.load (v:=.int .i64 d2.value) rfl (by kernel_rfl) (beC (blkCell B16 (i:=1) rfl))) ?_
      obtain ⟨y51,e52,hm⟩:=bnd hm
      refine RQ.call rfl (am1 rfl) (by kernel_rfl) (v:=.bool y51) (bel (K:=fun _=>True) fun w' hb'=>(c_m_impl_isOperator d2.value _ e52  w' ))<|RQ.y rfl (Y.move (v:=.bool y51) rfl) ?_
      rcases bcases y51 with c53|c53
      ·replace hm:=cF c53 hm
       iterate 4 refine RQ.skip (wantN (dj:=54) rfl (vb rfl c53) rfl) ?_
       refine RQ.y rfl (Y.pick (b:=false) (v:=.bool false) (vb rfl c53) rfl)<|RQ.y rfl (Y.move (v:=.bool false) rfl) ?_
       iterate 5 refine RQ.skip (wantN (dj:=60) rfl rfl rfl) ?_
       refine RQ.y rfl (Y.pick (b:=false) (v:=.bool false) rfl rfl)<|RQ.y rfl (Y.assign (v:=.bool false) rfl)<|RQ.nil ?_
       intro w54 hb55
       have szw54:=hb55.size
       have T:=Tt T hb55
       refine then_n<|wp_ret ?_
       obtain rfl:=sj hm
       exact (blk_r (then_r (ret1 rfl rfl rfl ⟨rfl,T⟩)))
      replace hm:=cT c53 hm
      refine RQ.y (wantT (dj:=54) rfl (vb rfl c53)) (Y.fieldAddr (off:=2) rfl (by kernel_rfl))<|RQ.y (wantT (dj:=54) rfl (vb rfl c53)) (Y.load (v:=.slice A7 d2.data.length c7) rfl (by kernel_rfl) (beC (blkCell B16 (i:=2) rfl)))<|RQ.y (wantT (dj:=54) rfl (vb rfl c53)) (Y.len (by kernel_rfl) rfl)<|RQ.y (wantT (dj:=54) rfl (vb rfl c53)) (Y.binI (v:=.bool ((d2.data.length:Int)==1)) rfl rfl rfl)<|RQ.y rfl (Y.pick (b:=true) (v:=.bool ((d2.data.length:Int)==1)) (vb rfl c53) rfl)<|RQ.y rfl (Y.move (v:=.bool ((d2.data.length:Int)==1)) rfl) ?_
      rcases bcases ((d2.data.length:Int)==1) with c56|c56
      ·replace hm:=cF c56 hm
       iterate 5 refine RQ.skip (wantN (dj:=60) rfl (vb rfl c56) rfl) ?_
       refine RQ.y rfl (Y.pick (b:=false) (v:=.bool false) (vb rfl c56) rfl)<|RQ.y rfl (Y.assign (v:=.bool false) rfl)<|RQ.nil ?_
       intro w57 hb58
       have szw57:=hb58.size
       have T:=Tt T hb58
       refine then_n<|wp_ret ?_
       obtain rfl:=sj hm
       exact (blk_r (then_r (ret1 rfl rfl rfl ⟨rfl,T⟩)))
      replace hm:=cT c56 hm
      refine RQ.y (wantT (dj:=60) rfl (vb rfl c56)) (Y.fieldAddr (off:=2) rfl (by kernel_rfl))<|RQ.y (wantT (dj:=60) rfl (vb rfl c56)) (Y.load (v:=.slice A7 d2.data.length c7) rfl (by kernel_rfl) (beC (blkCell B16 (i:=2) rfl))) ?_
      obtain ⟨x59,hx62,hm⟩:=bnd hm
      obtain ⟨k60,hk63,hl64,hx62⟩:=getI_some hx62
      obtain ⟨b66,o67,rfl,hbb66⟩:=h7.addr (by omega)
      obtain ⟨cs61,hRcs61,hc65⟩:=h7.el hx62
      have hScs61:=hRcs61
      obtain rfl:=hRcs61
      refine RQ.y (wantT (dj:=60) rfl (vb rfl c56)) (Y.indexAddr (m:=k60) (sz:=1) rfl rfl hk63 hl64 (by kernel_rfl))<|RQ.y (wantT (dj:=60) rfl (vb rfl c56)) (Y.load (v:=.int .i64 x59) rfl (by kernel_rfl) (beC (cellT T (hc65 0 _ rfl)))) ?_
      obtain ⟨y68,e69,hm⟩:=bnd hm
      refine RQ.call (wantT (dj:=60) rfl (vb rfl c56)) (am1 rfl) (by kernel_rfl) (v:=.bool y68) (bel (K:=fun _=>True) fun w' hb'=>(c_m_impl_isInt x59 _ e69  w' ))<|RQ.y rfl (Y.pick (b:=true) (v:=.bool y68) (vb rfl c56) rfl)<|RQ.y rfl (Y.assign (v:=.bool y68) rfl)<|RQ.nil ?_
      intro w70 hb71
      have szw70:=hb71.size
      have T:=Tt T hb71
      refine then_n<|wp_ret ?_
      obtain rfl:=sj hm
      exact (blk_r (then_r (ret1 rfl rfl rfl ⟨rfl,T⟩)))
     replace hm:=cT c24 hm
     refine cond_t rfl (vb rfl c24)<|wp_seq<|wp_rb rfl<|RQ.y rfl (Y.fieldAddr (off:=1) rfl (by kernel_rfl))<|RQ.y rfl (Y.load (v:=.int .i64 d2.value) rfl (by kernel_rfl) (beC (blkCell B16 (i:=1) rfl))) ?_
     obtain ⟨y72,e73,hm⟩:=bnd hm
     refine RQ.call rfl (am1 rfl) (by kernel_rfl) (v:=.bool y72) (bel (K:=fun _=>True) fun w' hb'=>(c_m_impl_isOperator d2.value _ e73  w' ))<|RQ.y rfl (Y.move (v:=.bool y72) rfl) ?_
     rcases bcases y72 with c74|c74
     ·replace hm:=cF c74 hm
      iterate 4 refine RQ.skip (wantN (dj:=36) rfl (vb rfl c74) rfl) ?_
      refine RQ.y rfl (Y.pick (b:=false) (v:=.bool false) (vb rfl c74) rfl)<|RQ.y rfl (Y.move (v:=.bool false) rfl) ?_
      iterate 5 refine RQ.skip (wantN (dj:=42) rfl rfl rfl) ?_
      refine RQ.y rfl (Y.pick (b:=false) (v:=.bool false) rfl rfl)<|RQ.y rfl (Y.assign (v:=.bool false) rfl)<|RQ.nil ?_
      intro w75 hb76
      have szw75:=hb76.size
      have T:=Tt T hb76
      refine then_n<|wp_ret ?_
      obtain rfl:=sj hm
      exact (blk_r (then_r (ret1 rfl rfl rfl ⟨rfl,T⟩)))
     replace hm:=cT c74 hm
     refine RQ.y (wantT (dj:=36) rfl (vb rfl c74)) (Y.fieldAddr (off:=2) rfl (by kernel_rfl))<|RQ.y (wantT (dj:=36) rfl (vb rfl c74)) (Y.load (v:=.slice A7 d2.data.length c7) rfl (by kernel_rfl) (beC (blkCell B16 (i:=2) rfl)))<|RQ.y (wantT (dj:=36) rfl (vb rfl c74)) (Y.len (by kernel_rfl) rfl)<|RQ.y (wantT (dj:=36) rfl (vb rfl c74)) (Y.binI (v:=.bool ((d2.data.length:Int)==0)) rfl rfl rfl)<|RQ.y rfl (Y.pick (b:=true) (v:=.bool ((d2.data.length:Int)==0)) (vb rfl c74) rfl)<|RQ.y rfl (Y.move (v:=.bool ((d2.data.length:Int)==0)) rfl) ?_
     rcases bcases ((d2.data.length:Int)==0) with c77|c77
     ·replace hm:=cF c77 hm
      iterate 5 refine RQ.skip (wantN (dj:=42) rfl (vb rfl c77) rfl) ?_
      refine RQ.y rfl (Y.pick (b:=false) (v:=.bool false) (vb rfl c77) rfl)<|RQ.y rfl (Y.assign (v:=.bool false) rfl)<|RQ.nil ?_
      intro w78 hb79
      have szw78:=hb79.size
      have T:=Tt T hb79
      refine then_n<|wp_ret ?_
      obtain rfl:=sj hm
      exact (blk_r (then_r (ret1 rfl rfl rfl ⟨rfl,T⟩)))
     replace hm:=cT c77 hm
     refine RQ.y (wantT (dj:=42) rfl (vb rfl c77)) (Y.move (v:=.pointer (some ⟨ba0,oa0,none⟩)) s0)<|RQ.y (wantT (dj:=42) rfl (vb rfl c77)) (Y.loadN (cs:=[.slice A6 d1.defs.length c6]) rfl (by kernel_rfl) (cells1 (beC (blkCell B12 (i:=0) rfl))))<|RQ.y (wantT (dj:=42) rfl (vb rfl c77)) (Y.fieldAddr (off:=3) rfl (by kernel_rfl))<|RQ.y (wantT (dj:=42) rfl (vb rfl c77)) (Y.loadN (cs:=[.int .i64 d2.closure.term.kind,.int .i64 d2.closure.term.value,.slice A8 d2.closure.term.data.length c8,.slice A9 d2.closure.term.kids.length c9,.slice A10 d2.closure.env.length c10]) rfl (by kernel_rfl) (cells5 (beC (blkCell B16 (i:=3) rfl)) (beC (blkCell B16 (i:=4) rfl)) (beC (blkCell B16 (i:=5) rfl)) (beC (blkCell B16 (i:=6) rfl)) (beC (blkCell B16 (i:=7) rfl)))) ?_
     obtain ⟨y80,e81,hm⟩:=bnd hm
     refine RQ.call (wantT (dj:=42) rfl (vb rfl c77)) (am3 rfl rfl rfl) (by kernel_rfl) (v:=.bool y80) (bel (K:=fun _=>True) fun w' hb'=>(c_m_impl_Need_validClosure d0 d1 (⟨(⟨d2.closure.term.kind,d2.closure.term.value,d2.closure.term.data,d2.closure.term.kids⟩:DCore),d2.closure.env⟩:DClosure) _ e81 _ _ _ w' (ptArg needRd_ok hba0 hSa0 hca0 (Tt T hb')) (stArg (R:=bookRd) ⟨_,_,_,rfl,⟨SlAt.now coreRd_ok h6 (Nat.le_refl _) (Tt T hb'),r6⟩⟩) (stArg (R:=closureRd) ⟨_,_,_,_,_,_,_,_,_,rfl,⟨SlAt.now intRd_ok h8 (Nat.le_refl _) (Tt T hb'),r8⟩,⟨SlAt.now coreRd_ok h9 (Nat.le_refl _) (Tt T hb'),r9⟩,⟨SlAt.now intRd_ok h10 (Nat.le_refl _) (Tt T hb'),r10⟩⟩)))<|RQ.y rfl (Y.pick (b:=true) (v:=.bool y80) (vb rfl c77) rfl)<|RQ.y rfl (Y.assign (v:=.bool y80) rfl)<|RQ.nil ?_
     intro w82 hb83
     have szw82:=hb83.size
     have T:=Tt T hb83
     refine then_n<|wp_ret ?_
     obtain rfl:=sj hm
     exact (blk_r (then_r (ret1 rfl rfl rfl ⟨rfl,T⟩)))
    replace hm:=cT c23 hm
    refine cond_t rfl (vb rfl c23)<|wp_seq<|wp_rb rfl<|RQ.y rfl (Y.move (v:=.pointer (some ⟨ba0,oa0,none⟩)) s0)<|RQ.y rfl (Y.fieldAddr (off:=1) rfl (by kernel_rfl))<|RQ.y rfl (Y.load (v:=.int .i64 d2.value) rfl (by kernel_rfl) (beC (blkCell B16 (i:=1) rfl))) ?_
    obtain ⟨y84,e85,hm⟩:=bnd hm
    refine RQ.call rfl (am2 rfl rfl) (by kernel_rfl) (v:=.bool y84) (bel (K:=fun _=>True) fun w' hb'=>(c_m_impl_Need_isAddress d0 d2.value _ e85 _ w' (ptArg needRd_ok hba0 hSa0 hca0 (Tt T hb'))))<|RQ.y rfl (Y.move (v:=.bool y84) rfl) ?_
    rcases bcases y84 with c86|c86
    ·replace hm:=cF c86 hm
     iterate 4 refine RQ.skip (wantN (dj:=25) rfl (vb rfl c86) rfl) ?_
     refine RQ.y rfl (Y.pick (b:=false) (v:=.bool false) (vb rfl c86) rfl)<|RQ.y rfl (Y.assign (v:=.bool false) rfl)<|RQ.nil ?_
     intro w87 hb88
     have szw87:=hb88.size
     have T:=Tt T hb88
     refine then_n<|wp_ret ?_
     obtain rfl:=sj hm
     exact (blk_r (then_r (ret1 rfl rfl rfl ⟨rfl,T⟩)))
    replace hm:=cT c86 hm
    refine RQ.y (wantT (dj:=25) rfl (vb rfl c86)) (Y.fieldAddr (off:=2) rfl (by kernel_rfl))<|RQ.y (wantT (dj:=25) rfl (vb rfl c86)) (Y.load (v:=.slice A7 d2.data.length c7) rfl (by kernel_rfl) (beC (blkCell B16 (i:=2) rfl)))<|RQ.y (wantT (dj:=25) rfl (vb rfl c86)) (Y.len (by kernel_rfl) rfl)<|RQ.y (wantT (dj:=25) rfl (vb rfl c86)) (Y.binI (v:=.bool ((d2.data.length:Int)==0)) rfl rfl rfl)<|RQ.y rfl (Y.pick (b:=true) (v:=.bool ((d2.data.length:Int)==0)) (vb rfl c86) rfl)<|RQ.y rfl (Y.assign (v:=.bool ((d2.data.length:Int)==0)) rfl)<|RQ.nil ?_
    intro w89 hb90
    have szw89:=hb90.size
    have T:=Tt T hb90
    refine then_n<|wp_ret ?_
    obtain rfl:=sj hm
    exact (blk_r (then_r (ret1 rfl rfl rfl ⟨rfl,T⟩)))
   replace hm:=cT c22 hm
   refine cond_t rfl (vb rfl c22)<|wp_skip<|then_n<|cond_t rfl (vb rfl c22)<|wp_seq<|wp_rb rfl<|RQ.y rfl (Y.move (v:=.pointer (some ⟨ba0,oa0,none⟩)) s0)<|RQ.y rfl (Y.fieldAddr (off:=1) rfl (by kernel_rfl))<|RQ.y rfl (Y.load (v:=.int .i64 d2.value) rfl (by kernel_rfl) (beC (blkCell B16 (i:=1) rfl))) ?_
   obtain ⟨y91,e92,hm⟩:=bnd hm
   refine RQ.call rfl (am2 rfl rfl) (by kernel_rfl) (v:=.bool y91) (bel (K:=fun _=>True) fun w' hb'=>(c_m_impl_Need_isAddress d0 d2.value _ e92 _ w' (ptArg needRd_ok hba0 hSa0 hca0 (Tt T hb'))))<|RQ.y rfl (Y.move (v:=.bool y91) rfl) ?_
   rcases bcases y91 with c93|c93
   ·replace hm:=cF c93 hm
    iterate 4 refine RQ.skip (wantN (dj:=25) rfl (vb rfl c93) rfl) ?_
    refine RQ.y rfl (Y.pick (b:=false) (v:=.bool false) (vb rfl c93) rfl)<|RQ.y rfl (Y.assign (v:=.bool false) rfl)<|RQ.nil ?_
    intro w94 hb95
    have szw94:=hb95.size
    have T:=Tt T hb95
    refine then_n<|wp_ret ?_
    obtain rfl:=sj hm
    exact (blk_r (then_r (ret1 rfl rfl rfl ⟨rfl,T⟩)))
   replace hm:=cT c93 hm
   refine RQ.y (wantT (dj:=25) rfl (vb rfl c93)) (Y.fieldAddr (off:=2) rfl (by kernel_rfl))<|RQ.y (wantT (dj:=25) rfl (vb rfl c93)) (Y.load (v:=.slice A7 d2.data.length c7) rfl (by kernel_rfl) (beC (blkCell B16 (i:=2) rfl)))<|RQ.y (wantT (dj:=25) rfl (vb rfl c93)) (Y.len (by kernel_rfl) rfl)<|RQ.y (wantT (dj:=25) rfl (vb rfl c93)) (Y.binI (v:=.bool ((d2.data.length:Int)==0)) rfl rfl rfl)<|RQ.y rfl (Y.pick (b:=true) (v:=.bool ((d2.data.length:Int)==0)) (vb rfl c93) rfl)<|RQ.y rfl (Y.assign (v:=.bool ((d2.data.length:Int)==0)) rfl)<|RQ.nil ?_
   intro w96 hb97
   have szw96:=hb97.size
   have T:=Tt T hb97
   refine then_n<|wp_ret ?_
   obtain rfl:=sj hm
   exact (blk_r (then_r (ret1 rfl rfl rfl ⟨rfl,T⟩)))
  replace hm:=cT c19 hm
  refine RQ.y (wantT (dj:=10) rfl (vb rfl c19)) (Y.fieldAddr (off:=3) rfl (by kernel_rfl))<|RQ.y (wantT (dj:=10) rfl (vb rfl c19)) (Y.loadN (cs:=[.int .i64 d2.closure.term.kind,.int .i64 d2.closure.term.value,.slice A8 d2.closure.term.data.length c8,.slice A9 d2.closure.term.kids.length c9,.slice A10 d2.closure.env.length c10]) rfl (by kernel_rfl) (cells5 (beC (blkCell B16 (i:=3) rfl)) (beC (blkCell B16 (i:=4) rfl)) (beC (blkCell B16 (i:=5) rfl)) (beC (blkCell B16 (i:=6) rfl)) (beC (blkCell B16 (i:=7) rfl)))) ?_
  obtain ⟨y98,e99,hm⟩:=bnd hm
  refine RQ.call (wantT (dj:=10) rfl (vb rfl c19)) (am1 rfl) (by kernel_rfl) (v:=.bool y98) (bel (K:=fun _=>True) fun w' hb'=>(c_m_impl_Closure_isBlank (⟨(⟨d2.closure.term.kind,d2.closure.term.value,d2.closure.term.data,d2.closure.term.kids⟩:DCore),d2.closure.env⟩:DClosure) _ e99 _ w' (stArg (R:=closureRd) ⟨_,_,_,_,_,_,_,_,_,rfl,⟨SlAt.now intRd_ok h8 (Nat.le_refl _) (Tt T hb'),r8⟩,⟨SlAt.now coreRd_ok h9 (Nat.le_refl _) (Tt T hb'),r9⟩,⟨SlAt.now intRd_ok h10 (Nat.le_refl _) (Tt T hb'),r10⟩⟩)))<|RQ.y (wantT (dj:=10) rfl (vb rfl c19)) (Y.not (b':=(!y98)) rfl rfl)<|RQ.y rfl (Y.pick (b:=true) (v:=.bool (!y98)) (vb rfl c19) rfl)<|RQ.nil ?_
  intro w100 hb101
  have szw100:=hb101.size
  have B12:=blkT B12 hb101
  have B16:=blkT B16 hb101
  have T:=Tt T hb101
  refine then_n ?_
  rcases bcases y98 with c102|c102
  ·replace hm:=cF c102 hm
   refine cond_t rfl (vbn rfl c102 rfl)<|wp_seq<|wp_rs rfl<|RQ.y rfl (Y.assign (v:=.bool false) rfl)<|RQ.nil<|then_n<|wp_ret ?_
   obtain rfl:=sj hm
   exact (then_r (ret1 rfl rfl rfl ⟨rfl,T⟩))
  replace hm:=cT c102 hm
  refine cond_f rfl (vbn rfl c102 rfl)<|wp_skip<|then_n<|wp_seq<|wp_seq<|wp_rs rfl<|RQ.y rfl (Y.fieldAddr (off:=0) rfl (by kernel_rfl))<|RQ.y rfl (Y.load (v:=.int .i64 d2.kind) rfl (by kernel_rfl) (eqC (blkCell B16 (i:=0) rfl)))<|RQ.nil<|then_n<|wp_block<|wp_seq<|wp_seq<|wp_rs rfl<|RQ.y rfl (Y.binI (v:=.bool (d2.kind==1)) rfl rfl rfl)<|RQ.y rfl (Y.assign (v:=.bool (d2.kind==1)) rfl)<|RQ.nil<|then_n ?_
  rcases bcases (d2.kind==1) with c103|c103
  ·replace hm:=cF c103 hm
   refine cond_f rfl (vb rfl c103)<|wp_rs rfl<|RQ.y rfl (Y.binI (v:=.bool (d2.kind==2)) rfl rfl rfl)<|RQ.y rfl (Y.assign (v:=.bool (d2.kind==2)) rfl)<|RQ.nil<|then_n ?_
   rcases bcases (d2.kind==2) with c104|c104
   ·replace hm:=cF c104 hm
    refine cond_f rfl (vb rfl c104)<|wp_seq<|wp_rs rfl<|RQ.y rfl (Y.binI (v:=.bool (d2.kind==3)) rfl rfl rfl)<|RQ.y rfl (Y.assign (v:=.bool (d2.kind==3)) rfl)<|RQ.nil<|then_n ?_
    rcases bcases (d2.kind==3) with c105|c105
    ·replace hm:=cF c105 hm
     refine cond_f rfl (vb rfl c105)<|wp_seq<|wp_rs rfl<|RQ.y rfl (Y.binI (v:=.bool (d2.kind==4)) rfl rfl rfl)<|RQ.y rfl (Y.assign (v:=.bool (d2.kind==4)) rfl)<|RQ.nil<|then_n ?_
     rcases bcases (d2.kind==4) with c106|c106
     ·replace hm:=cF c106 hm
      refine cond_f rfl (vb rfl c106)<|wp_seq<|wp_rs rfl<|RQ.y rfl (Y.binI (v:=.bool (d2.kind==5)) rfl rfl rfl)<|RQ.y rfl (Y.assign (v:=.bool (d2.kind==5)) rfl)<|RQ.nil<|then_n ?_
      rcases bcases (d2.kind==5) with c107|c107
      ·replace hm:=cF c107 hm
       refine cond_f rfl (vb rfl c107)<|wp_seq<|wp_rs rfl<|RQ.y rfl (Y.binI (v:=.bool (d2.kind==6)) rfl rfl rfl)<|RQ.y rfl (Y.assign (v:=.bool (d2.kind==6)) rfl)<|RQ.nil<|then_n ?_
       rcases bcases (d2.kind==6) with c108|c108
       ·replace hm:=cF c108 hm
        refine cond_f rfl (vb rfl c108)<|wp_skip ?_
        refine blk_n (then_n ?_)
        refine wp_seq<|wp_rs rfl<|RQ.y rfl (Y.assign (v:=.bool false) rfl)<|RQ.nil<|then_n<|wp_ret ?_
        obtain rfl:=sj hm
        exact (ret1 rfl rfl rfl ⟨rfl,T⟩)
       replace hm:=cT c108 hm
       refine cond_t rfl (vb rfl c108)<|wp_seq<|wp_rb rfl<|RQ.y rfl (Y.fieldAddr (off:=1) rfl (by kernel_rfl))<|RQ.y rfl (Y.load (v:=.int .i64 d2.value) rfl (by kernel_rfl) (beC (blkCell B16 (i:=1) rfl)))<|RQ.y rfl (Y.binI (v:=.bool (d2.value==0)) rfl rfl rfl)<|RQ.y rfl (Y.move (v:=.bool (d2.value==0)) rfl) ?_
       rcases bcases (d2.value==0) with c109|c109
       ·replace hm:=cF c109 hm
        iterate 4 refine RQ.skip (wantN (dj:=95) rfl (vb rfl c109) rfl) ?_
        refine RQ.y rfl (Y.pick (b:=false) (v:=.bool false) (vb rfl c109) rfl)<|RQ.y rfl (Y.move (v:=.bool false) rfl) ?_
        iterate 4 refine RQ.skip (wantN (dj:=101) rfl rfl rfl) ?_
        refine RQ.y rfl (Y.pick (b:=false) (v:=.bool false) rfl rfl)<|RQ.y rfl (Y.assign (v:=.bool false) rfl)<|RQ.nil ?_
        intro w110 hb111
        have szw110:=hb111.size
        have T:=Tt T hb111
        refine then_n<|wp_ret ?_
        obtain rfl:=sj hm
        exact (blk_r (then_r (ret1 rfl rfl rfl ⟨rfl,T⟩)))
       replace hm:=cT c109 hm
       refine RQ.y (wantT (dj:=95) rfl (vb rfl c109)) (Y.fieldAddr (off:=2) rfl (by kernel_rfl))<|RQ.y (wantT (dj:=95) rfl (vb rfl c109)) (Y.load (v:=.slice A7 d2.data.length c7) rfl (by kernel_rfl) (beC (blkCell B16 (i:=2) rfl)))<|RQ.y (wantT (dj:=95) rfl (vb rfl c109)) (Y.len (by kernel_rfl) rfl)<|RQ.y (wantT (dj:=95) rfl (vb rfl c109)) (Y.binI (v:=.bool ((d2.data.length:Int)==2)) rfl rfl rfl)<|RQ.y rfl (Y.pick (b:=true) (v:=.bool ((d2.data.length:Int)==2)) (vb rfl c109) rfl)<|RQ.y rfl (Y.move (v:=.bool ((d2.data.length:Int)==2)) rfl) ?_
       rcases bcases ((d2.data.length:Int)==2) with c112|c112
       ·replace hm:=cF c112 hm
        iterate 4 refine RQ.skip (wantN (dj:=101) rfl (vb rfl c112) rfl) ?_
        refine RQ.y rfl (Y.pick (b:=false) (v:=.bool false) (vb rfl c112) rfl)<|RQ.y rfl (Y.assign (v:=.bool false) rfl)<|RQ.nil ?_
        intro w113 hb114
        have szw113:=hb114.size
        have T:=Tt T hb114
        refine then_n<|wp_ret ?_
        obtain rfl:=sj hm
        exact (blk_r (then_r (ret1 rfl rfl rfl ⟨rfl,T⟩)))
       replace hm:=cT c112 hm
       refine RQ.y (wantT (dj:=101) rfl (vb rfl c112)) (Y.loadN (cs:=[.slice A6 d1.defs.length c6]) rfl (by kernel_rfl) (cells1 (beC (blkCell B12 (i:=0) rfl))))<|RQ.y (wantT (dj:=101) rfl (vb rfl c112)) (Y.fieldAddr (off:=2) rfl (by kernel_rfl))<|RQ.y (wantT (dj:=101) rfl (vb rfl c112)) (Y.load (v:=.slice A7 d2.data.length c7) rfl (by kernel_rfl) (beC (blkCell B16 (i:=2) rfl))) ?_
       obtain ⟨y115,e116,hm⟩:=bnd hm
       refine RQ.call (wantT (dj:=101) rfl (vb rfl c112)) (am2 rfl rfl) (by kernel_rfl) (v:=.bool y115) (bel (K:=fun _=>True) fun w' hb'=>(c_m_impl_areDefs d1 d2.data _ e116 _ _ w' (stArg (R:=bookRd) ⟨_,_,_,rfl,⟨SlAt.now coreRd_ok h6 (Nat.le_refl _) (Tt T hb'),r6⟩⟩) (slArg intRd_ok h7 r7 (Tt T hb'))))<|RQ.y rfl (Y.pick (b:=true) (v:=.bool y115) (vb rfl c112) rfl)<|RQ.y rfl (Y.assign (v:=.bool y115) rfl)<|RQ.nil ?_
       intro w117 hb118
       have szw117:=hb118.size
       have T:=Tt T hb118
       refine then_n<|wp_ret ?_
       obtain rfl:=sj hm
       exact (blk_r (then_r (ret1 rfl rfl rfl ⟨rfl,T⟩)))
      replace hm:=cT c107 hm
      refine cond_t rfl (vb rfl c107)<|wp_seq<|wp_rb rfl<|RQ.y rfl (Y.fieldAddr (off:=1) rfl (by kernel_rfl))<|RQ.y rfl (Y.load (v:=.int .i64 d2.value) rfl (by kernel_rfl) (beC (blkCell B16 (i:=1) rfl)))<|RQ.y rfl (Y.binI (v:=.bool (d2.value==0)) rfl rfl rfl)<|RQ.y rfl (Y.move (v:=.bool (d2.value==0)) rfl) ?_
      rcases bcases (d2.value==0) with c119|c119
      ·replace hm:=cF c119 hm
       iterate 4 refine RQ.skip (wantN (dj:=72) rfl (vb rfl c119) rfl) ?_
       refine RQ.y rfl (Y.pick (b:=false) (v:=.bool false) (vb rfl c119) rfl)<|RQ.y rfl (Y.move (v:=.bool false) rfl) ?_
       iterate 4 refine RQ.skip (wantN (dj:=78) rfl rfl rfl) ?_
       refine RQ.y rfl (Y.pick (b:=false) (v:=.bool false) rfl rfl)<|RQ.y rfl (Y.move (v:=.bool false) rfl) ?_
       iterate 4 refine RQ.skip (wantN (dj:=84) rfl rfl rfl) ?_
       refine RQ.y rfl (Y.pick (b:=false) (v:=.bool false) rfl rfl)<|RQ.y rfl (Y.assign (v:=.bool false) rfl)<|RQ.nil ?_
       intro w120 hb121
       have szw120:=hb121.size
       have T:=Tt T hb121
       refine then_n<|wp_ret ?_
       obtain rfl:=sj hm
       exact (blk_r (then_r (ret1 rfl rfl rfl ⟨rfl,T⟩)))
      replace hm:=cT c119 hm
      refine RQ.y (wantT (dj:=72) rfl (vb rfl c119)) (Y.fieldAddr (off:=2) rfl (by kernel_rfl))<|RQ.y (wantT (dj:=72) rfl (vb rfl c119)) (Y.load (v:=.slice A7 d2.data.length c7) rfl (by kernel_rfl) (beC (blkCell B16 (i:=2) rfl)))<|RQ.y (wantT (dj:=72) rfl (vb rfl c119)) (Y.len (by kernel_rfl) rfl)<|RQ.y (wantT (dj:=72) rfl (vb rfl c119)) (Y.binI (v:=.bool (decide ((d2.data.length:Int) ≥ 1))) rfl rfl rfl)<|RQ.y rfl (Y.pick (b:=true) (v:=.bool (decide ((d2.data.length:Int) ≥ 1))) (vb rfl c119) rfl)<|RQ.y rfl (Y.move (v:=.bool (decide ((d2.data.length:Int) ≥ 1))) rfl) ?_
      rcases bcases (decide ((d2.data.length:Int) ≥ 1)) with c122|c122
      ·replace hm:=cF c122 hm
       have pc122:=of_decide_eq_false c122
       iterate 4 refine RQ.skip (wantN (dj:=78) rfl (vb rfl c122) rfl) ?_
       refine RQ.y rfl (Y.pick (b:=false) (v:=.bool false) (vb rfl c122) rfl)<|RQ.y rfl (Y.move (v:=.bool false) rfl) ?_
       iterate 4 refine RQ.skip (wantN (dj:=84) rfl rfl rfl) ?_
       refine RQ.y rfl (Y.pick (b:=false) (v:=.bool false) rfl rfl)<|RQ.y rfl (Y.assign (v:=.bool false) rfl)<|RQ.nil ?_
       intro w123 hb124
       have szw123:=hb124.size
       have T:=Tt T hb124
       refine then_n<|wp_ret ?_
       obtain rfl:=sj hm
       exact (blk_r (then_r (ret1 rfl rfl rfl ⟨rfl,T⟩)))
      replace hm:=cT c122 hm
      have pc122:=of_decide_eq_true c122
      refine RQ.y (wantT (dj:=78) rfl (vb rfl c122)) (Y.fieldAddr (off:=2) rfl (by kernel_rfl))<|RQ.y (wantT (dj:=78) rfl (vb rfl c122)) (Y.load (v:=.slice A7 d2.data.length c7) rfl (by kernel_rfl) (beC (blkCell B16 (i:=2) rfl)))<|RQ.y (wantT (dj:=78) rfl (vb rfl c122)) (Y.len (by kernel_rfl) rfl)<|RQ.y (wantT (dj:=78) rfl (vb rfl c122)) (Y.binI (v:=.bool (decide ((d2.data.length:Int)≤4))) rfl rfl rfl)<|RQ.y rfl (Y.pick (b:=true) (v:=.bool (decide ((d2.data.length:Int)≤4))) (vb rfl c122) rfl)<|RQ.y rfl (Y.move (v:=.bool (decide ((d2.data.length:Int)≤4))) rfl) ?_
      rcases bcases (decide ((d2.data.length:Int)≤4)) with c125|c125
      ·replace hm:=cF c125 hm
       have pc125:=of_decide_eq_false c125
       iterate 4 refine RQ.skip (wantN (dj:=84) rfl (vb rfl c125) rfl) ?_
       refine RQ.y rfl (Y.pick (b:=false) (v:=.bool false) (vb rfl c125) rfl)<|RQ.y rfl (Y.assign (v:=.bool false) rfl)<|RQ.nil ?_
       intro w126 hb127
       have szw126:=hb127.size
       have T:=Tt T hb127
       refine then_n<|wp_ret ?_
       obtain rfl:=sj hm
       exact (blk_r (then_r (ret1 rfl rfl rfl ⟨rfl,T⟩)))
      replace hm:=cT c125 hm
      have pc125:=of_decide_eq_true c125
      refine RQ.y (wantT (dj:=84) rfl (vb rfl c125)) (Y.loadN (cs:=[.slice A6 d1.defs.length c6]) rfl (by kernel_rfl) (cells1 (beC (blkCell B12 (i:=0) rfl))))<|RQ.y (wantT (dj:=84) rfl (vb rfl c125)) (Y.fieldAddr (off:=2) rfl (by kernel_rfl))<|RQ.y (wantT (dj:=84) rfl (vb rfl c125)) (Y.load (v:=.slice A7 d2.data.length c7) rfl (by kernel_rfl) (beC (blkCell B16 (i:=2) rfl))) ?_
      obtain ⟨y128,e129,hm⟩:=bnd hm
      refine RQ.call (wantT (dj:=84) rfl (vb rfl c125)) (am2 rfl rfl) (by kernel_rfl) (v:=.bool y128) (bel (K:=fun _=>True) fun w' hb'=>(c_m_impl_areDefs d1 d2.data _ e129 _ _ w' (stArg (R:=bookRd) ⟨_,_,_,rfl,⟨SlAt.now coreRd_ok h6 (Nat.le_refl _) (Tt T hb'),r6⟩⟩) (slArg intRd_ok h7 r7 (Tt T hb'))))<|RQ.y rfl (Y.pick (b:=true) (v:=.bool y128) (vb rfl c125) rfl)<|RQ.y rfl (Y.assign (v:=.bool y128) rfl)<|RQ.nil ?_
      intro w130 hb131
      have szw130:=hb131.size
      have T:=Tt T hb131
      refine then_n<|wp_ret ?_
      obtain rfl:=sj hm
      exact (blk_r (then_r (ret1 rfl rfl rfl ⟨rfl,T⟩)))
     replace hm:=cT c106 hm
     refine cond_t rfl (vb rfl c106)<|wp_seq<|wp_rb rfl<|RQ.y rfl (Y.fieldAddr (off:=1) rfl (by kernel_rfl))<|RQ.y rfl (Y.load (v:=.int .i64 d2.value) rfl (by kernel_rfl) (beC (blkCell B16 (i:=1) rfl))) ?_
     obtain ⟨y132,e133,hm⟩:=bnd hm
     refine RQ.call rfl (am1 rfl) (by kernel_rfl) (v:=.bool y132) (bel (K:=fun _=>True) fun w' hb'=>(c_m_impl_isOperator d2.value _ e133  w' ))<|RQ.y rfl (Y.move (v:=.bool y132) rfl) ?_
     rcases bcases y132 with c134|c134
     ·replace hm:=cF c134 hm
      iterate 4 refine RQ.skip (wantN (dj:=54) rfl (vb rfl c134) rfl) ?_
      refine RQ.y rfl (Y.pick (b:=false) (v:=.bool false) (vb rfl c134) rfl)<|RQ.y rfl (Y.move (v:=.bool false) rfl) ?_
      iterate 5 refine RQ.skip (wantN (dj:=60) rfl rfl rfl) ?_
      refine RQ.y rfl (Y.pick (b:=false) (v:=.bool false) rfl rfl)<|RQ.y rfl (Y.assign (v:=.bool false) rfl)<|RQ.nil ?_
      intro w135 hb136
      have szw135:=hb136.size
      have T:=Tt T hb136
      refine then_n<|wp_ret ?_
      obtain rfl:=sj hm
      exact (blk_r (then_r (ret1 rfl rfl rfl ⟨rfl,T⟩)))
     replace hm:=cT c134 hm
     refine RQ.y (wantT (dj:=54) rfl (vb rfl c134)) (Y.fieldAddr (off:=2) rfl (by kernel_rfl))<|RQ.y (wantT (dj:=54) rfl (vb rfl c134)) (Y.load (v:=.slice A7 d2.data.length c7) rfl (by kernel_rfl) (beC (blkCell B16 (i:=2) rfl)))<|RQ.y (wantT (dj:=54) rfl (vb rfl c134)) (Y.len (by kernel_rfl) rfl)<|RQ.y (wantT (dj:=54) rfl (vb rfl c134)) (Y.binI (v:=.bool ((d2.data.length:Int)==1)) rfl rfl rfl)<|RQ.y rfl (Y.pick (b:=true) (v:=.bool ((d2.data.length:Int)==1)) (vb rfl c134) rfl)<|RQ.y rfl (Y.move (v:=.bool ((d2.data.length:Int)==1)) rfl) ?_
     rcases bcases ((d2.data.length:Int)==1) with c137|c137
     ·replace hm:=cF c137 hm
      iterate 5 refine RQ.skip (wantN (dj:=60) rfl (vb rfl c137) rfl) ?_
      refine RQ.y rfl (Y.pick (b:=false) (v:=.bool false) (vb rfl c137) rfl)<|RQ.y rfl (Y.assign (v:=.bool false) rfl)<|RQ.nil ?_
      intro w138 hb139
      have szw138:=hb139.size
      have T:=Tt T hb139
      refine then_n<|wp_ret ?_
      obtain rfl:=sj hm
      exact (blk_r (then_r (ret1 rfl rfl rfl ⟨rfl,T⟩)))
     replace hm:=cT c137 hm
     refine RQ.y (wantT (dj:=60) rfl (vb rfl c137)) (Y.fieldAddr (off:=2) rfl (by kernel_rfl))<|RQ.y (wantT (dj:=60) rfl (vb rfl c137)) (Y.load (v:=.slice A7 d2.data.length c7) rfl (by kernel_rfl) (beC (blkCell B16 (i:=2) rfl))) ?_
     obtain ⟨x140,hx143,hm⟩:=bnd hm
     obtain ⟨k141,hk144,hl145,hx143⟩:=getI_some hx143
     obtain ⟨b147,o148,rfl,hbb147⟩:=h7.addr (by omega)
     obtain ⟨cs142,hRcs142,hc146⟩:=h7.el hx143
     have hScs142:=hRcs142
     obtain rfl:=hRcs142
     refine RQ.y (wantT (dj:=60) rfl (vb rfl c137)) (Y.indexAddr (m:=k141) (sz:=1) rfl rfl hk144 hl145 (by kernel_rfl))<|RQ.y (wantT (dj:=60) rfl (vb rfl c137)) (Y.load (v:=.int .i64 x140) rfl (by kernel_rfl) (beC (cellT T (hc146 0 _ rfl)))) ?_
     obtain ⟨y149,e150,hm⟩:=bnd hm
     refine RQ.call (wantT (dj:=60) rfl (vb rfl c137)) (am1 rfl) (by kernel_rfl) (v:=.bool y149) (bel (K:=fun _=>True) fun w' hb'=>(c_m_impl_isInt x140 _ e150  w' ))<|RQ.y rfl (Y.pick (b:=true) (v:=.bool y149) (vb rfl c137) rfl)<|RQ.y rfl (Y.assign (v:=.bool y149) rfl)<|RQ.nil ?_
     intro w151 hb152
     have szw151:=hb152.size
     have T:=Tt T hb152
     refine then_n<|wp_ret ?_
     obtain rfl:=sj hm
     exact (blk_r (then_r (ret1 rfl rfl rfl ⟨rfl,T⟩)))
    replace hm:=cT c105 hm
    refine cond_t rfl (vb rfl c105)<|wp_seq<|wp_rb rfl<|RQ.y rfl (Y.fieldAddr (off:=1) rfl (by kernel_rfl))<|RQ.y rfl (Y.load (v:=.int .i64 d2.value) rfl (by kernel_rfl) (beC (blkCell B16 (i:=1) rfl))) ?_
    obtain ⟨y153,e154,hm⟩:=bnd hm
    refine RQ.call rfl (am1 rfl) (by kernel_rfl) (v:=.bool y153) (bel (K:=fun _=>True) fun w' hb'=>(c_m_impl_isOperator d2.value _ e154  w' ))<|RQ.y rfl (Y.move (v:=.bool y153) rfl) ?_
    rcases bcases y153 with c155|c155
    ·replace hm:=cF c155 hm
     iterate 4 refine RQ.skip (wantN (dj:=36) rfl (vb rfl c155) rfl) ?_
     refine RQ.y rfl (Y.pick (b:=false) (v:=.bool false) (vb rfl c155) rfl)<|RQ.y rfl (Y.move (v:=.bool false) rfl) ?_
     iterate 5 refine RQ.skip (wantN (dj:=42) rfl rfl rfl) ?_
     refine RQ.y rfl (Y.pick (b:=false) (v:=.bool false) rfl rfl)<|RQ.y rfl (Y.assign (v:=.bool false) rfl)<|RQ.nil ?_
     intro w156 hb157
     have szw156:=hb157.size
     have T:=Tt T hb157
     refine then_n<|wp_ret ?_
     obtain rfl:=sj hm
     exact (blk_r (then_r (ret1 rfl rfl rfl ⟨rfl,T⟩)))
    replace hm:=cT c155 hm
    refine RQ.y (wantT (dj:=36) rfl (vb rfl c155)) (Y.fieldAddr (off:=2) rfl (by kernel_rfl))<|RQ.y (wantT (dj:=36) rfl (vb rfl c155)) (Y.load (v:=.slice A7 d2.data.length c7) rfl (by kernel_rfl) (beC (blkCell B16 (i:=2) rfl)))<|RQ.y (wantT (dj:=36) rfl (vb rfl c155)) (Y.len (by kernel_rfl) rfl)<|RQ.y (wantT (dj:=36) rfl (vb rfl c155)) (Y.binI (v:=.bool ((d2.data.length:Int)==0)) rfl rfl rfl)<|RQ.y rfl (Y.pick (b:=true) (v:=.bool ((d2.data.length:Int)==0)) (vb rfl c155) rfl)<|RQ.y rfl (Y.move (v:=.bool ((d2.data.length:Int)==0)) rfl) ?_
    rcases bcases ((d2.data.length:Int)==0) with c158|c158
    ·replace hm:=cF c158 hm
     iterate 5 refine RQ.skip (wantN (dj:=42) rfl (vb rfl c158) rfl) ?_
     refine RQ.y rfl (Y.pick (b:=false) (v:=.bool false) (vb rfl c158) rfl)<|RQ.y rfl (Y.assign (v:=.bool false) rfl)<|RQ.nil ?_
     intro w159 hb160
     have szw159:=hb160.size
     have T:=Tt T hb160
     refine then_n<|wp_ret ?_
     obtain rfl:=sj hm
     exact (blk_r (then_r (ret1 rfl rfl rfl ⟨rfl,T⟩)))
    replace hm:=cT c158 hm
    refine RQ.y (wantT (dj:=42) rfl (vb rfl c158)) (Y.move (v:=.pointer (some ⟨ba0,oa0,none⟩)) s0)<|RQ.y (wantT (dj:=42) rfl (vb rfl c158)) (Y.loadN (cs:=[.slice A6 d1.defs.length c6]) rfl (by kernel_rfl) (cells1 (beC (blkCell B12 (i:=0) rfl))))<|RQ.y (wantT (dj:=42) rfl (vb rfl c158)) (Y.fieldAddr (off:=3) rfl (by kernel_rfl))<|RQ.y (wantT (dj:=42) rfl (vb rfl c158)) (Y.loadN (cs:=[.int .i64 d2.closure.term.kind,.int .i64 d2.closure.term.value,.slice A8 d2.closure.term.data.length c8,.slice A9 d2.closure.term.kids.length c9,.slice A10 d2.closure.env.length c10]) rfl (by kernel_rfl) (cells5 (beC (blkCell B16 (i:=3) rfl)) (beC (blkCell B16 (i:=4) rfl)) (beC (blkCell B16 (i:=5) rfl)) (beC (blkCell B16 (i:=6) rfl)) (beC (blkCell B16 (i:=7) rfl)))) ?_
    obtain ⟨y161,e162,hm⟩:=bnd hm
    refine RQ.call (wantT (dj:=42) rfl (vb rfl c158)) (am3 rfl rfl rfl) (by kernel_rfl) (v:=.bool y161) (bel (K:=fun _=>True) fun w' hb'=>(c_m_impl_Need_validClosure d0 d1 (⟨(⟨d2.closure.term.kind,d2.closure.term.value,d2.closure.term.data,d2.closure.term.kids⟩:DCore),d2.closure.env⟩:DClosure) _ e162 _ _ _ w' (ptArg needRd_ok hba0 hSa0 hca0 (Tt T hb')) (stArg (R:=bookRd) ⟨_,_,_,rfl,⟨SlAt.now coreRd_ok h6 (Nat.le_refl _) (Tt T hb'),r6⟩⟩) (stArg (R:=closureRd) ⟨_,_,_,_,_,_,_,_,_,rfl,⟨SlAt.now intRd_ok h8 (Nat.le_refl _) (Tt T hb'),r8⟩,⟨SlAt.now coreRd_ok h9 (Nat.le_refl _) (Tt T hb'),r9⟩,⟨SlAt.now intRd_ok h10 (Nat.le_refl _) (Tt T hb'),r10⟩⟩)))<|RQ.y rfl (Y.pick (b:=true) (v:=.bool y161) (vb rfl c158) rfl)<|RQ.y rfl (Y.assign (v:=.bool y161) rfl)<|RQ.nil ?_
    intro w163 hb164
    have szw163:=hb164.size
    have T:=Tt T hb164
    refine then_n<|wp_ret ?_
    obtain rfl:=sj hm
    exact (blk_r (then_r (ret1 rfl rfl rfl ⟨rfl,T⟩)))
   replace hm:=cT c104 hm
   refine cond_t rfl (vb rfl c104)<|wp_seq<|wp_rb rfl<|RQ.y rfl (Y.move (v:=.pointer (some ⟨ba0,oa0,none⟩)) s0)<|RQ.y rfl (Y.fieldAddr (off:=1) rfl (by kernel_rfl))<|RQ.y rfl (Y.load (v:=.int .i64 d2.value) rfl (by kernel_rfl) (beC (blkCell B16 (i:=1) rfl))) ?_
   obtain ⟨y165,e166,hm⟩:=bnd hm
   refine RQ.call rfl (am2 rfl rfl) (by kernel_rfl) (v:=.bool y165) (bel (K:=fun _=>True) fun w' hb'=>(c_m_impl_Need_isAddress d0 d2.value _ e166 _ w' (ptArg needRd_ok hba0 hSa0 hca0 (Tt T hb'))))<|RQ.y rfl (Y.move (v:=.bool y165) rfl) ?_
   rcases bcases y165 with c167|c167
   ·replace hm:=cF c167 hm
    iterate 4 refine RQ.skip (wantN (dj:=25) rfl (vb rfl c167) rfl) ?_
    refine RQ.y rfl (Y.pick (b:=false) (v:=.bool false) (vb rfl c167) rfl)<|RQ.y rfl (Y.assign (v:=.bool false) rfl)<|RQ.nil ?_
    intro w168 hb169
    have szw168:=hb169.size
    have T:=Tt T hb169
    refine then_n<|wp_ret ?_
    obtain rfl:=sj hm
    exact (blk_r (then_r (ret1 rfl rfl rfl ⟨rfl,T⟩)))
   replace hm:=cT c167 hm
   refine RQ.y (wantT (dj:=25) rfl (vb rfl c167)) (Y.fieldAddr (off:=2) rfl (by kernel_rfl))<|RQ.y (wantT (dj:=25) rfl (vb rfl c167)) (Y.load (v:=.slice A7 d2.data.length c7) rfl (by kernel_rfl) (beC (blkCell B16 (i:=2) rfl)))<|RQ.y (wantT (dj:=25) rfl (vb rfl c167)) (Y.len (by kernel_rfl) rfl)<|RQ.y (wantT (dj:=25) rfl (vb rfl c167)) (Y.binI (v:=.bool ((d2.data.length:Int)==0)) rfl rfl rfl)<|RQ.y rfl (Y.pick (b:=true) (v:=.bool ((d2.data.length:Int)==0)) (vb rfl c167) rfl)<|RQ.y rfl (Y.assign (v:=.bool ((d2.data.length:Int)==0)) rfl)<|RQ.nil ?_
   intro w170 hb171
   have szw170:=hb171.size
   have T:=Tt T hb171
   refine then_n<|wp_ret ?_
   obtain rfl:=sj hm
   exact (blk_r (then_r (ret1 rfl rfl rfl ⟨rfl,T⟩)))
  replace hm:=cT c103 hm
  refine cond_t rfl (vb rfl c103)<|wp_skip<|then_n<|cond_t rfl (vb rfl c103)<|wp_seq<|wp_rb rfl<|RQ.y rfl (Y.move (v:=.pointer (some ⟨ba0,oa0,none⟩)) s0)<|RQ.y rfl (Y.fieldAddr (off:=1) rfl (by kernel_rfl))<|RQ.y rfl (Y.load (v:=.int .i64 d2.value) rfl (by kernel_rfl) (beC (blkCell B16 (i:=1) rfl))) ?_
  obtain ⟨y172,e173,hm⟩:=bnd hm
  refine RQ.call rfl (am2 rfl rfl) (by kernel_rfl) (v:=.bool y172) (bel (K:=fun _=>True) fun w' hb'=>(c_m_impl_Need_isAddress d0 d2.value _ e173 _ w' (ptArg needRd_ok hba0 hSa0 hca0 (Tt T hb'))))<|RQ.y rfl (Y.move (v:=.bool y172) rfl) ?_
  rcases bcases y172 with c174|c174
  ·replace hm:=cF c174 hm
   iterate 4 refine RQ.skip (wantN (dj:=25) rfl (vb rfl c174) rfl) ?_
   refine RQ.y rfl (Y.pick (b:=false) (v:=.bool false) (vb rfl c174) rfl)<|RQ.y rfl (Y.assign (v:=.bool false) rfl)<|RQ.nil ?_
   intro w175 hb176
   have szw175:=hb176.size
   have T:=Tt T hb176
   refine then_n<|wp_ret ?_
   obtain rfl:=sj hm
   exact (blk_r (then_r (ret1 rfl rfl rfl ⟨rfl,T⟩)))
  replace hm:=cT c174 hm
  refine RQ.y (wantT (dj:=25) rfl (vb rfl c174)) (Y.fieldAddr (off:=2) rfl (by kernel_rfl))<|RQ.y (wantT (dj:=25) rfl (vb rfl c174)) (Y.load (v:=.slice A7 d2.data.length c7) rfl (by kernel_rfl) (beC (blkCell B16 (i:=2) rfl)))<|RQ.y (wantT (dj:=25) rfl (vb rfl c174)) (Y.len (by kernel_rfl) rfl)<|RQ.y (wantT (dj:=25) rfl (vb rfl c174)) (Y.binI (v:=.bool ((d2.data.length:Int)==0)) rfl rfl rfl)<|RQ.y rfl (Y.pick (b:=true) (v:=.bool ((d2.data.length:Int)==0)) (vb rfl c174) rfl)<|RQ.y rfl (Y.assign (v:=.bool ((d2.data.length:Int)==0)) rfl)<|RQ.nil ?_
  intro w177 hb178
  have szw177:=hb178.size
  have T:=Tt T hb178
  refine then_n<|wp_ret ?_
  obtain rfl:=sj hm
  exact (blk_r (then_r (ret1 rfl rfl rfl ⟨rfl,T⟩)))
noncomputable def m_slices_IndexFunc_impl_Frame_impl_Frame_A1:Option Int:=
  some (-1)
noncomputable def m_slices_IndexFunc_impl_Frame_impl_Frame_B1 (d0:List DFrame) (d1:DFrame→Option Bool) (rec1:Int→Option Int) (K1:Option Int) (i2:Int):Option Int:=
  (bif (decide (i2 < (d0.length:Int))) then ((getI d0 i2).bind fun x5=>((d1 x5).bind fun y18=>(bif y18 then some i2 else (rec1 (i2+1))))) else (K1))
noncomputable def m_slices_IndexFunc_impl_Frame_impl_Frame_L1 (d0:List DFrame) (d1:DFrame→Option Bool) (K1:Option Int):Nat→Int→Option Int
  |0,_=>none
  |g+1,i2=>m_slices_IndexFunc_impl_Frame_impl_Frame_B1 d0 d1 (m_slices_IndexFunc_impl_Frame_impl_Frame_L1 d0 d1 K1 g) K1 i2
noncomputable def m_slices_IndexFunc_impl_Frame_impl_Frame (d0:List DFrame) (d1:DFrame→Option Bool):Option Int:=
  (m_slices_IndexFunc_impl_Frame_impl_Frame_L1 d0 d1 m_slices_IndexFunc_impl_Frame_impl_Frame_A1 (d0.length+1) 0)
set_option maxHeartbeats 2000000 in
theorem c_m_slices_IndexFunc_impl_Frame_impl_Frame (d0:List DFrame) (d1:DFrame→Option Bool) (r:Int) (hm:m_slices_IndexFunc_impl_Frame_impl_Frame d0 d1=some r) (v0:Value) (gf1:FuncId) (caps1:Array Value) (w:World) (hv0:Sl frameRd 8 w v0 d0) (hgo1:isGo Tryz.prog gf1=true) (hf1 :∀(x0:DFrame) (b:Bool),d1 x0=some b→∀w1,Below w.heap.size w w1→∀y0,St frameRd w1 y0 x0→Calls Tryz.prog gf1 (#[y0] ++ caps1) w1 fun e w2=>e=.returned (.bool b)∧Below w1.heap.size w1 w2) :
    Calls Tryz.prog 188 #[v0,.func (.func gf1) #[] caps1] w fun e w'=>e=.returned (.int .i64 r)∧Below w.heap.size w w':=by
  obtain ⟨Aa0,na0,ca0,rfl,ha0,ra0⟩:=hv0
  have ea0:=ha0.len; subst ea0
  have qa0:=len_le ra0
  have T:=Below.refl w.heap.size w
  unfold m_slices_IndexFunc_impl_Frame_impl_Frame at hm
  refine enter 19 Tryz.func188 rfl rfl rfl ?_
  intro f hf
  have s0:f 0=.slice Aa0 d0.length ca0:=hf 0 _ rfl
  have s1:f 1=.func (.func gf1) #[] caps1:=hf 1 _ rfl
  refine wp_seq<|wp_rs rfl<|RQ.y rfl (Y.assign (v:=.int .i64 0) rfl)<|RQ.nil<|then_n<|wp_seq<|wp_seq<|wp_rs rfl<|RQ.y rfl (Y.move (v:=.slice Aa0 d0.length ca0) s0)<|RQ.y rfl (Y.len (by kernel_rfl) rfl)<|RQ.y rfl (Y.move (v:=.int .i64 0) rfl)<|RQ.nil<|then_n<|wp_block ?_
  obtain ⟨K1,hK1,hm⟩ :∃K,K=m_slices_IndexFunc_impl_Frame_impl_Frame_A1∧m_slices_IndexFunc_impl_Frame_impl_Frame_L1 d0 d1 K (d0.length+1) 0=some r:=⟨_,rfl,hm⟩
  refine wp_loopX (fun g f w'=>∃(i2:Int),f 0=.slice Aa0 d0.length ca0∧f 1=.func (.func gf1) #[] caps1∧f 7=.int .i64 (d0.length:Int)∧f 8=.int .i64 i2∧0≤i2∧Below w.heap.size w w'∧m_slices_IndexFunc_impl_Frame_impl_Frame_L1 d0 d1 K1 g i2=some r) 0 (fun f w'=>Below w.heap.size w w'∧m_slices_IndexFunc_impl_Frame_impl_Frame_A1  = some r) (d0.length+1) ⟨0,s0,s1,rfl,rfl,(by omega),T,hm⟩ ?_ ?_
  ·rintro f w1 ⟨T,hm⟩
   unfold m_slices_IndexFunc_impl_Frame_impl_Frame_A1 at hm
   refine blk_hit (then_n ?_)
   refine wp_seq<|wp_rs rfl<|RQ.y rfl (Y.assign (v:=.int .i64 (-1)) rfl)<|RQ.nil<|then_n<|wp_ret ?_
   obtain rfl:=sj hm
   exact (ret1 rfl rfl rfl ⟨rfl,T⟩)
  rintro g f w3 ⟨i2,s0_1,s1_1,s7_1,s8_1,nn8_1,T,hm⟩
  rcases g with _|g
  ·simp only [m_slices_IndexFunc_impl_Frame_impl_Frame_L1] at hm; cases hm
  obtain ⟨rec1,hrec1,hm⟩ :∃z,z=m_slices_IndexFunc_impl_Frame_impl_Frame_L1 d0 d1 K1 g∧m_slices_IndexFunc_impl_Frame_impl_Frame_B1 d0 d1 z K1 i2=some r:=⟨_,rfl,hm⟩
  unfold m_slices_IndexFunc_impl_Frame_impl_Frame_B1 at hm
  refine wp_seq<|wp_rs rfl<|RQ.y rfl (Y.binI (v:=.bool (decide (i2 < (d0.length:Int)))) s8_1 s7_1 rfl)<|RQ.nil<|then_n<|wp_seq ?_
  rcases bcases (decide (i2 < (d0.length:Int))) with c4|c4
  ·replace hm:=cF c4 hm
   have pc4:=of_decide_eq_false c4
   refine cond_f rfl (vb rfl c4)<|wp_exit ?_
   exact (then_x (then_x (hit_x ⟨_,rfl,⟨T,(by rw [hK1] at hm; exact hm)⟩⟩)))
  replace hm:=cT c4 hm
  have pc4:=of_decide_eq_true c4
  refine cond_t rfl (vb rfl c4)<|wp_skip<|then_n<|wp_seq<|wp_block<|wp_seq<|wp_rs rfl<|RQ.y rfl (Y.move (v:=.int .i64 i2) s8_1)<|RQ.y rfl (Y.assign (v:=.int .i64 i2) rfl)<|RQ.nil<|then_n<|wp_seq<|wp_rb rfl<|RQ.y rfl (Y.move (v:=.func (.func gf1) #[] caps1) s1_1)<|RQ.y rfl (Y.move (v:=.slice Aa0 d0.length ca0) s0_1)<|RQ.y rfl (Y.move (v:=.int .i64 i2) rfl) ?_
  obtain ⟨x5,hx8,hm⟩:=bnd hm
  obtain ⟨k6,hk9,hl10,hx8⟩:=getI_some hx8
  obtain ⟨b12,o13,rfl,hbb12⟩:=ha0.addr (by omega)
  obtain ⟨cs7,hRcs7,hc11⟩:=ha0.el hx8
  have hScs7:=hRcs7
  obtain ⟨A14,n14,c14,A15,n15,c15,A16,n16,c16,A17,n17,c17,rfl,⟨h14,r14⟩,⟨h15,r15⟩,⟨h16,r16⟩,⟨h17,r17⟩⟩:=hRcs7
  have e14:=h14.len; subst e14
  have q14:=len_le r14
  have e15:=h15.len; subst e15
  have q15:=len_le r15
  have e16:=h16.len; subst e16
  have q16:=len_le r16
  have e17:=h17.len; subst e17
  have q17:=len_le r17
  refine RQ.y rfl (Y.indexAddr (m:=k6) (sz:=8) rfl rfl hk9 hl10 (by kernel_rfl))<|RQ.y rfl (Y.loadN (cs:=[.int .i64 x5.kind,.int .i64 x5.value,.slice A14 x5.data.length c14,.int .i64 x5.closure.term.kind,.int .i64 x5.closure.term.value,.slice A15 x5.closure.term.data.length c15,.slice A16 x5.closure.term.kids.length c16,.slice A17 x5.closure.env.length c17]) rfl (by kernel_rfl) (cells8 (beC (cellT T (hc11 0 _ rfl))) (beC (cellT T (hc11 1 _ rfl))) (beC (cellT T (hc11 2 _ rfl))) (beC (cellT T (hc11 3 _ rfl))) (beC (cellT T (hc11 4 _ rfl))) (beC (cellT T (hc11 5 _ rfl))) (beC (cellT T (hc11 6 _ rfl))) (beC (cellT T (hc11 7 _ rfl))))) ?_
  obtain ⟨y18,e19,hm⟩:=bnd hm
  refine RQ.callV rfl rfl (am1 rfl) hgo1 (v:=.bool y18) (bel (K:=fun _=>True) fun w' hb'=>hf1 x5 y18 e19 w' (Tt T hb') _ (stArg (R:=frameRd) ⟨_,_,_,_,_,_,_,_,_,_,_,_,rfl,⟨SlAt.now intRd_ok h14 (Nat.le_refl _) (Tt T hb'),r14⟩,⟨SlAt.now intRd_ok h15 (Nat.le_refl _) (Tt T hb'),r15⟩,⟨SlAt.now coreRd_ok h16 (Nat.le_refl _) (Tt T hb'),r16⟩,⟨SlAt.now intRd_ok h17 (Nat.le_refl _) (Tt T hb'),r17⟩⟩))<|RQ.nil ?_
  intro w20 hb21
  have szw20:=hb21.size
  have T:=Tt T hb21
  refine then_n ?_
  rcases bcases y18 with c22|c22
  ·replace hm:=cF c22 hm
   refine cond_f rfl (vb rfl c22)<|wp_skip ?_
   refine blk_n (then_n ?_)
   refine wp_rs rfl<|RQ.y rfl (Y.binI s8_1 rfl (binI_add (m:=i2) (by omega)))<|RQ.y rfl (Y.move (v:=.int .i64 (i2+1)) rfl)<|RQ.nil ?_
   exact (then_n ⟨g,_,Nat.lt_succ_self _,rfl,⟨(i2+1),s0_1,s1_1,s7_1,rfl,(by omega),T,(by rw [← hrec1]; exact hm)⟩⟩)
  replace hm:=cT c22 hm
  refine cond_t rfl (vb rfl c22)<|wp_seq<|wp_rs rfl<|RQ.y rfl (Y.move (v:=.int .i64 i2) rfl)<|RQ.y rfl (Y.assign (v:=.int .i64 i2) rfl)<|RQ.nil<|then_n<|wp_ret ?_
  obtain rfl:=sj hm
  exact (blk_r (then_r (then_r (hit_r (blk_r (then_r (ret1 rfl rfl rfl ⟨rfl,T⟩)))))))
noncomputable def m_slices_ContainsFunc_impl_Frame_impl_Frame (d0:List DFrame) (d1:DFrame→Option Bool):Option Bool:=
  ((m_slices_IndexFunc_impl_Frame_impl_Frame d0 d1).bind fun y1=>some (decide (y1 ≥ 0)))
set_option maxHeartbeats 2000000 in
theorem c_m_slices_ContainsFunc_impl_Frame_impl_Frame (d0:List DFrame) (d1:DFrame→Option Bool) (r:Bool) (hm:m_slices_ContainsFunc_impl_Frame_impl_Frame d0 d1=some r) (v0:Value) (gf1:FuncId) (caps1:Array Value) (w:World) (hv0:Sl frameRd 8 w v0 d0) (hgo1:isGo Tryz.prog gf1=true) (hf1 :∀(x0:DFrame) (b:Bool),d1 x0=some b→∀w1,Below w.heap.size w w1→∀y0,St frameRd w1 y0 x0→Calls Tryz.prog gf1 (#[y0] ++ caps1) w1 fun e w2=>e=.returned (.bool b)∧Below w1.heap.size w1 w2) :
    Calls Tryz.prog 121 #[v0,.func (.func gf1) #[] caps1] w fun e w'=>e=.returned (.bool r)∧Below w.heap.size w w':=by
  obtain ⟨Aa0,na0,ca0,rfl,ha0,ra0⟩:=hv0
  have ea0:=ha0.len; subst ea0
  have qa0:=len_le ra0
  have T:=Below.refl w.heap.size w
  unfold m_slices_ContainsFunc_impl_Frame_impl_Frame at hm
  refine enter 9 Tryz.func121 rfl rfl rfl ?_
  intro f hf
  have s0:f 0=.slice Aa0 d0.length ca0:=hf 0 _ rfl
  have s1:f 1=.func (.func gf1) #[] caps1:=hf 1 _ rfl
  refine wp_seq<|wp_rs rfl<|RQ.y rfl (Y.assign (v:=.bool false) rfl)<|RQ.nil<|then_n<|wp_seq<|wp_rb rfl<|RQ.y rfl (Y.move (v:=.slice Aa0 d0.length ca0) s0)<|RQ.y rfl (Y.move (v:=.func (.func gf1) #[] caps1) s1) ?_
  obtain ⟨y1,e2,hm⟩:=bnd hm
  refine RQ.call rfl (am2 rfl rfl) (by kernel_rfl) (v:=.int .i64 y1) (bel (K:=fun _=>True) fun w' hb'=>(c_m_slices_IndexFunc_impl_Frame_impl_Frame d0 d1 _ e2 _ _ _ w' (slArg frameRd_ok ha0 ra0 (Tt T hb')) hgo1 (fun x0 b hx w1 hb1 y0 hy0=>hf1 x0 b hx w1 (Tt (Tt T hb') hb1) y0 hy0)))<|RQ.y rfl (Y.binI (v:=.bool (decide (y1 ≥ 0))) rfl rfl rfl)<|RQ.y rfl (Y.assign (v:=.bool (decide (y1 ≥ 0))) rfl)<|RQ.nil ?_
  intro w3 hb4
  have szw3:=hb4.size
  have T:=Tt T hb4
  refine then_n<|wp_ret ?_
  obtain rfl:=sj hm
  exact (ret1 rfl rfl rfl ⟨rfl,T⟩)
noncomputable def m_impl_ValidNeed_1 (d0:DFrame) (d1:DNeed) (d2:DBook):Option Bool:=
  ((m_impl_Need_validFrame d1 d2 d0).bind fun y15=>some (!y15))
set_option maxHeartbeats 2000000 in
theorem c_m_impl_ValidNeed_1 (d0:DFrame) (d1:DNeed) (d2:DBook) (r:Bool) (hm:m_impl_ValidNeed_1 d0 d1 d2=some r) (v0:Value) (v1:Value) (v2:Value) (w:World) (hv0:St frameRd w v0 d0) (hv1:Pt needRd w v1 d1) (hv2:Pt bookRd w v2 d2) :
    Calls Tryz.prog 122 #[v0,v1,v2] w fun e w'=>e=.returned (.bool r)∧Below w.heap.size w w':=by
  obtain ⟨csa0,rfl,⟨A1,n1,c1,A2,n2,c2,A3,n3,c3,A4,n4,c4,rfl,⟨h1,r1⟩,⟨h2,r2⟩,⟨h3,r3⟩,⟨h4,r4⟩⟩⟩:=hv0
  have e1:=h1.len; subst e1
  have q1:=len_le r1
  have e2:=h2.len; subst e2
  have q2:=len_le r2
  have e3:=h3.len; subst e3
  have q3:=len_le r3
  have e4:=h4.len; subst e4
  have q4:=len_le r4
  obtain ⟨ba1,oa1,csa1,rfl,hba1,hRa1,hca1⟩:=hv1
  have hSa1:=hRa1
  obtain ⟨A5,n5,c5,A6,n6,c6,A7,n7,c7,A8,n8,c8,A9,n9,c9,rfl,⟨h5,r5⟩,⟨h6,r6⟩,⟨h7,r7⟩,⟨h8,r8⟩,⟨h9,r9⟩⟩:=hRa1
  have e5:=h5.len; subst e5
  have q5:=len_le r5
  have e6:=h6.len; subst e6
  have q6:=len_le r6
  have e7:=h7.len; subst e7
  have q7:=len_le r7
  have e8:=h8.len; subst e8
  have q8:=len_le r8
  have e9:=h9.len; subst e9
  have q9:=len_le r9
  obtain ⟨ba2,oa2,csa2,rfl,hba2,hRa2,hca2⟩:=hv2
  have hSa2:=hRa2
  obtain ⟨A10,n10,c10,rfl,⟨h10,r10⟩⟩:=hRa2
  have e10:=h10.len; subst e10
  have q10:=len_le r10
  have T:=Below.refl w.heap.size w
  unfold m_impl_ValidNeed_1 at hm
  refine enter 9 Tryz.func122 rfl rfl rfl ?_
  intro f hf
  have s0:f 0=.agg #[.int .i64 d0.kind,.int .i64 d0.value,.slice A1 d0.data.length c1,.int .i64 d0.closure.term.kind,.int .i64 d0.closure.term.value,.slice A2 d0.closure.term.data.length c2,.slice A3 d0.closure.term.kids.length c3,.slice A4 d0.closure.env.length c4]:=hf 0 _ rfl
  have s1:f 1=.pointer (some ⟨ba1,oa1,none⟩):=hf 1 _ rfl
  have s2:f 2=.pointer (some ⟨ba2,oa2,none⟩):=hf 2 _ rfl
  refine wp_seq<|wp_rl rfl ?_
  refine RL.box rfl s0 (fun w11 B12 hb13 szw11=>?_)
  replace B12:Blk w11 w.heap.size 145 #[.int .i64 d0.kind,.int .i64 d0.value,.slice A1 d0.data.length c1,.int .i64 d0.closure.term.kind,.int .i64 d0.closure.term.value,.slice A2 d0.closure.term.data.length c2,.slice A3 d0.closure.term.kids.length c3,.slice A4 d0.closure.env.length c4]:=B12
  have GB12:w.heap.size≤w.heap.size:=T.size
  have T:=Tt T hb13
  refine RL.y rfl (Y.assign (v:=.bool false) rfl)<|RL.nil<|then_n<|wp_seq<|wp_rb rfl<|RQ.y rfl (Y.loadN (cs:=[.slice A10 d2.defs.length c10]) s2 (by kernel_rfl) (cells1 (beC (cellT T (hca2 0 _ rfl)))))<|RQ.y rfl (Y.loadN (cs:=[.int .i64 d0.kind,.int .i64 d0.value,.slice A1 d0.data.length c1,.int .i64 d0.closure.term.kind,.int .i64 d0.closure.term.value,.slice A2 d0.closure.term.data.length c2,.slice A3 d0.closure.term.kids.length c3,.slice A4 d0.closure.env.length c4]) rfl (by kernel_rfl) (cells8 (beC (blkCell B12 (i:=0) rfl)) (beC (blkCell B12 (i:=1) rfl)) (beC (blkCell B12 (i:=2) rfl)) (beC (blkCell B12 (i:=3) rfl)) (beC (blkCell B12 (i:=4) rfl)) (beC (blkCell B12 (i:=5) rfl)) (beC (blkCell B12 (i:=6) rfl)) (beC (blkCell B12 (i:=7) rfl)))) ?_
  obtain ⟨y15,e16,hm⟩:=bnd hm
  refine RQ.call rfl (am3 s1 rfl rfl) (by kernel_rfl) (v:=.bool y15) (bel (K:=fun _=>True) fun w' hb'=>(c_m_impl_Need_validFrame d1 d2 d0 _ e16 _ _ _ w' (ptArg needRd_ok hba1 hSa1 hca1 (Tt T hb')) (stArg (R:=bookRd) ⟨_,_,_,rfl,⟨SlAt.now coreRd_ok h10 (Nat.le_refl _) (Tt T hb'),r10⟩⟩) (stArg (R:=frameRd) ⟨_,_,_,_,_,_,_,_,_,_,_,_,rfl,⟨SlAt.now intRd_ok h1 (Nat.le_refl _) (Tt T hb'),r1⟩,⟨SlAt.now intRd_ok h2 (Nat.le_refl _) (Tt T hb'),r2⟩,⟨SlAt.now coreRd_ok h3 (Nat.le_refl _) (Tt T hb'),r3⟩,⟨SlAt.now intRd_ok h4 (Nat.le_refl _) (Tt T hb'),r4⟩⟩)))<|RQ.y rfl (Y.not (b':=(!y15)) rfl rfl)<|RQ.y rfl (Y.assign (v:=.bool (!y15)) rfl)<|RQ.nil ?_
  intro w17 hb18
  have szw17:=hb18.size
  have T:=Tt T hb18
  refine then_n<|wp_ret ?_
  obtain rfl:=sj hm
  exact (ret1 rfl rfl rfl ⟨rfl,T⟩)
noncomputable def m_impl_ValidNeed_A1 (d0:DBook) (d1:DNeed):Option Bool:=
  ((m_slices_ContainsFunc_impl_Frame_impl_Frame d1.stack (fun x0=>m_impl_ValidNeed_1 x0 d1 d0)).bind fun y28=>some (!y28))
noncomputable def m_impl_ValidNeed_B1 (d0:DBook) (d1:DNeed) (rec1:Int→Option Bool) (K1:Option Bool) (i32:Int):Option Bool:=
  (bif (decide (i32 < (d1.heap.length:Int))) then ((getI d1.heap i32).bind fun x35=>((m_impl_Need_validClosure d1 d0 (⟨(⟨x35.closure.term.kind,x35.closure.term.value,x35.closure.term.data,x35.closure.term.kids⟩:DCore),x35.closure.env⟩:DClosure)).bind fun y54=>(bif y54 then (bif x35.done then ((m_impl_Closure_isValue (⟨(⟨x35.closure.term.kind,x35.closure.term.value,x35.closure.term.data,x35.closure.term.kids⟩:DCore),x35.closure.env⟩:DClosure)).bind fun y62=>(bif y62 then (rec1 (i32+1)) else some false)) else (rec1 (i32+1))) else some false))) else (K1))
noncomputable def m_impl_ValidNeed_L1 (d0:DBook) (d1:DNeed) (K1:Option Bool):Nat→Int→Option Bool
  |0,_=>none
  |g+1,i32=>m_impl_ValidNeed_B1 d0 d1 (m_impl_ValidNeed_L1 d0 d1 K1 g) K1 i32
noncomputable def m_impl_ValidNeed (d0:DBook) (d1:DNeed):Option Bool:=
  ((m_impl_isErasedBook d0).bind fun y15=>(bif y15 then (bif (decide ((d1.heap.length:Int) > 2000)) then some false else (bif (decide ((d1.stack.length:Int) > 400)) then some false else ((m_impl_Need_validClosure d1 d0 (⟨(⟨d1.control.term.kind,d1.control.term.value,d1.control.term.data,d1.control.term.kids⟩:DCore),d1.control.env⟩:DClosure)).bind fun y22=>(bif y22 then (m_impl_ValidNeed_L1 d0 d1 (m_impl_ValidNeed_A1 d0 d1) (d1.heap.length+1) 0) else some false)))) else some false))
set_option maxHeartbeats 2000000 in
theorem c_m_impl_ValidNeed (d0:DBook) (d1:DNeed) (r:Bool) (hm:m_impl_ValidNeed d0 d1=some r) (v0:Value) (v1:Value) (w:World) (hv0:St bookRd w v0 d0) (hv1:St needRd w v1 d1) :
    Calls Tryz.prog 63 #[v0,v1] w fun e w'=>e=.returned (.bool r)∧Below w.heap.size w w':=by
  obtain ⟨csa0,rfl,⟨A1,n1,c1,rfl,⟨h1,r1⟩⟩⟩:=hv0
  have e1:=h1.len; subst e1
  have q1:=len_le r1
  obtain ⟨csa1,rfl,⟨A2,n2,c2,A3,n3,c3,A4,n4,c4,A5,n5,c5,A6,n6,c6,rfl,⟨h2,r2⟩,⟨h3,r3⟩,⟨h4,r4⟩,⟨h5,r5⟩,⟨h6,r6⟩⟩⟩:=hv1
  have e2:=h2.len; subst e2
  have q2:=len_le r2
  have e3:=h3.len; subst e3
  have q3:=len_le r3
  have e4:=h4.len; subst e4
  have q4:=len_le r4
  have e5:=h5.len; subst e5
  have q5:=len_le r5
  have e6:=h6.len; subst e6
  have q6:=len_le r6
  have T:=Below.refl w.heap.size w
  unfold m_impl_ValidNeed at hm
  refine enter 57 Tryz.func63 rfl rfl rfl ?_
  intro f hf
  have s0:f 0=.agg #[.slice A1 d0.defs.length c1]:=hf 0 _ rfl
  have s1:f 1=.agg #[.int .i64 d1.control.term.kind,.int .i64 d1.control.term.value,.slice A2 d1.control.term.data.length c2,.slice A3 d1.control.term.kids.length c3,.slice A4 d1.control.env.length c4,.slice A5 d1.stack.length c5,.slice A6 d1.heap.length c6]:=hf 1 _ rfl
  refine wp_seq<|wp_rl rfl ?_
  refine RL.box rfl s0 (fun w7 B8 hb9 szw7=>?_)
  replace B8:Blk w7 w.heap.size 75 #[.slice A1 d0.defs.length c1]:=B8
  have GB8:w.heap.size≤w.heap.size:=T.size
  have T:=Tt T hb9
  refine RL.box rfl s1 (fun w11 B12 hb13 szw11=>?_)
  replace B12:Blk w11 w7.heap.size 84 #[.int .i64 d1.control.term.kind,.int .i64 d1.control.term.value,.slice A2 d1.control.term.data.length c2,.slice A3 d1.control.term.kids.length c3,.slice A4 d1.control.env.length c4,.slice A5 d1.stack.length c5,.slice A6 d1.heap.length c6]:=B12
  have GB12:w.heap.size≤w7.heap.size:=T.size
  have Eob14_ob10:=Nat.ne_of_lt B8.lt
  have B8:=blkT B8 hb13
  have T:=Tt T hb13
  refine RL.y rfl (Y.assign (v:=.bool false) rfl)<|RL.nil<|then_n<|wp_seq<|wp_seq<|wp_rb rfl<|RQ.y rfl (Y.loadN (cs:=[.slice A1 d0.defs.length c1]) rfl (by kernel_rfl) (cells1 (beC (blkCell B8 (i:=0) rfl)))) ?_
  obtain ⟨y15,e16,hm⟩:=bnd hm
  refine RQ.call rfl (am1 rfl) (by kernel_rfl) (v:=.bool y15) (bel (K:=fun _=>True) fun w' hb'=>(c_m_impl_isErasedBook d0 _ e16 _ w' (stArg (R:=bookRd) ⟨_,_,_,rfl,⟨SlAt.now coreRd_ok h1 (Nat.le_refl _) (Tt T hb'),r1⟩⟩)))<|RQ.y rfl (Y.not (b':=(!y15)) rfl rfl)<|RQ.y rfl (Y.move (v:=.bool (!y15)) rfl) ?_
  rcases bcases y15 with c17|c17
  ·replace hm:=cF c17 hm
   iterate 4 refine RQ.skip (wantN (dj:=10) rfl (vbn rfl c17 rfl) rfl) ?_
   refine RQ.y rfl (Y.pick (b:=true) (v:=.bool true) (vbn rfl c17 rfl) rfl)<|RQ.y rfl (Y.move (v:=.bool true) rfl) ?_
   iterate 4 refine RQ.skip (wantN (dj:=16) rfl rfl rfl) ?_
   refine RQ.y rfl (Y.pick (b:=true) (v:=.bool true) rfl rfl)<|RQ.y rfl (Y.move (v:=.bool true) rfl) ?_
   iterate 5 refine RQ.skip (wantN (dj:=22) rfl rfl rfl) ?_
   refine RQ.y rfl (Y.pick (b:=true) (v:=.bool true) rfl rfl)<|RQ.nil ?_
   intro w18 hb19
   have szw18:=hb19.size
   have B8:=blkT B8 hb19
   have B12:=blkT B12 hb19
   have T:=Tt T hb19
   refine then_n<|cond_t rfl rfl<|wp_seq<|wp_rs rfl<|RQ.y rfl (Y.assign (v:=.bool false) rfl)<|RQ.nil<|then_n<|wp_ret ?_
   obtain rfl:=sj hm
   exact (then_r (ret1 rfl rfl rfl ⟨rfl,T⟩))
  replace hm:=cT c17 hm
  refine RQ.y (wantT (dj:=10) rfl (vbn rfl c17 rfl)) (Y.fieldAddr (off:=6) rfl (by kernel_rfl))<|RQ.y (wantT (dj:=10) rfl (vbn rfl c17 rfl)) (Y.load (v:=.slice A6 d1.heap.length c6) rfl (by kernel_rfl) (beC (blkCell B12 (i:=6) rfl)))<|RQ.y (wantT (dj:=10) rfl (vbn rfl c17 rfl)) (Y.len (by kernel_rfl) rfl)<|RQ.y (wantT (dj:=10) rfl (vbn rfl c17 rfl)) (Y.binI (v:=.bool (decide ((d1.heap.length:Int) > 2000))) rfl rfl rfl)<|RQ.y rfl (Y.pick (b:=false) (v:=.bool (decide ((d1.heap.length:Int) > 2000))) (vbn rfl c17 rfl) rfl)<|RQ.y rfl (Y.move (v:=.bool (decide ((d1.heap.length:Int) > 2000))) rfl) ?_
  rcases bcases (decide ((d1.heap.length:Int) > 2000)) with c20|c20
  ·replace hm:=cF c20 hm
   have pc20:=of_decide_eq_false c20
   refine RQ.y (wantT (dj:=16) rfl (vb rfl c20)) (Y.fieldAddr (off:=5) rfl (by kernel_rfl))<|RQ.y (wantT (dj:=16) rfl (vb rfl c20)) (Y.load (v:=.slice A5 d1.stack.length c5) rfl (by kernel_rfl) (beC (blkCell B12 (i:=5) rfl)))<|RQ.y (wantT (dj:=16) rfl (vb rfl c20)) (Y.len (by kernel_rfl) rfl)<|RQ.y (wantT (dj:=16) rfl (vb rfl c20)) (Y.binI (v:=.bool (decide ((d1.stack.length:Int) > 400))) rfl rfl rfl)<|RQ.y rfl (Y.pick (b:=false) (v:=.bool (decide ((d1.stack.length:Int) > 400))) (vb rfl c20) rfl)<|RQ.y rfl (Y.move (v:=.bool (decide ((d1.stack.length:Int) > 400))) rfl) ?_
   rcases bcases (decide ((d1.stack.length:Int) > 400)) with c21|c21
   ·replace hm:=cF c21 hm
    have pc21:=of_decide_eq_false c21
    refine RQ.y (wantT (dj:=22) rfl (vb rfl c21)) (Y.loadN (cs:=[.slice A1 d0.defs.length c1]) rfl (by kernel_rfl) (cells1 (beC (blkCell B8 (i:=0) rfl))))<|RQ.y (wantT (dj:=22) rfl (vb rfl c21)) (Y.fieldAddr (off:=0) rfl (by kernel_rfl))<|RQ.y (wantT (dj:=22) rfl (vb rfl c21)) (Y.loadN (cs:=[.int .i64 d1.control.term.kind,.int .i64 d1.control.term.value,.slice A2 d1.control.term.data.length c2,.slice A3 d1.control.term.kids.length c3,.slice A4 d1.control.env.length c4]) rfl (by kernel_rfl) (cells5 (beC (blkCell B12 (i:=0) rfl)) (beC (blkCell B12 (i:=1) rfl)) (beC (blkCell B12 (i:=2) rfl)) (beC (blkCell B12 (i:=3) rfl)) (beC (blkCell B12 (i:=4) rfl)))) ?_
    obtain ⟨y22,e23,hm⟩:=bnd hm
    refine RQ.call (wantT (dj:=22) rfl (vb rfl c21)) (am3 rfl rfl rfl) (by kernel_rfl) (v:=.bool y22) (bel (K:=fun _=>True) fun w' hb'=>(c_m_impl_Need_validClosure d1 d0 (⟨(⟨d1.control.term.kind,d1.control.term.value,d1.control.term.data,d1.control.term.kids⟩:DCore),d1.control.env⟩:DClosure) _ e23 _ _ _ w' (ptBox (R:=needRd) (blkT B12 hb') ⟨_,_,_,_,_,_,_,_,_,_,_,_,_,_,_,rfl,⟨SlAt.now intRd_ok h2 (Nat.le_refl _) (Tt T hb'),r2⟩,⟨SlAt.now coreRd_ok h3 (Nat.le_refl _) (Tt T hb'),r3⟩,⟨SlAt.now intRd_ok h4 (Nat.le_refl _) (Tt T hb'),r4⟩,⟨SlAt.now frameRd_ok h5 (Nat.le_refl _) (Tt T hb'),r5⟩,⟨SlAt.now thunkRd_ok h6 (Nat.le_refl _) (Tt T hb'),r6⟩⟩) (stArg (R:=bookRd) ⟨_,_,_,rfl,⟨SlAt.now coreRd_ok h1 (Nat.le_refl _) (Tt T hb'),r1⟩⟩) (stArg (R:=closureRd) ⟨_,_,_,_,_,_,_,_,_,rfl,⟨SlAt.now intRd_ok h2 (Nat.le_refl _) (Tt T hb'),r2⟩,⟨SlAt.now coreRd_ok h3 (Nat.le_refl _) (Tt T hb'),r3⟩,⟨SlAt.now intRd_ok h4 (Nat.le_refl _) (Tt T hb'),r4⟩⟩)))<|RQ.y (wantT (dj:=22) rfl (vb rfl c21)) (Y.not (b':=(!y22)) rfl rfl)<|RQ.y rfl (Y.pick (b:=false) (v:=.bool (!y22)) (vb rfl c21) rfl)<|RQ.nil ?_
    intro w24 hb25
    have szw24:=hb25.size
    have B8:=blkT B8 hb25
    have B12:=blkT B12 hb25
    have T:=Tt T hb25
    refine then_n ?_
    rcases bcases y22 with c26|c26
    ·replace hm:=cF c26 hm
     refine cond_t rfl (vbn rfl c26 rfl)<|wp_seq<|wp_rs rfl<|RQ.y rfl (Y.assign (v:=.bool false) rfl)<|RQ.nil<|then_n<|wp_ret ?_
     obtain rfl:=sj hm
     exact (then_r (ret1 rfl rfl rfl ⟨rfl,T⟩))
    replace hm:=cT c26 hm
    refine cond_f rfl (vbn rfl c26 rfl)<|wp_skip<|then_n<|wp_seq<|wp_seq<|wp_rs rfl<|RQ.y rfl (Y.fieldAddr (off:=6) rfl (by kernel_rfl))<|RQ.y rfl (Y.load (v:=.slice A6 d1.heap.length c6) rfl (by kernel_rfl) (eqC (blkCell B12 (i:=6) rfl)))<|RQ.y rfl (Y.len (by kernel_rfl) rfl)<|RQ.y rfl (Y.move (v:=.int .i64 0) rfl)<|RQ.nil<|then_n<|wp_block ?_
    obtain ⟨K1,hK1,hm⟩ :∃K,K=(m_impl_ValidNeed_A1 d0 d1)∧m_impl_ValidNeed_L1 d0 d1 K (d1.heap.length+1) 0=some r:=⟨_,rfl,hm⟩
    refine wp_loopX (fun g f w'=>∃(i32:Int),f 2=.pointer (some ⟨w.heap.size,0,none⟩)∧f 3=.pointer (some ⟨w7.heap.size,0,none⟩)∧f 30=.slice A6 d1.heap.length c6∧f 31=.int .i64 (d1.heap.length:Int)∧f 32=.int .i64 i32∧0≤i32∧Blk w' w.heap.size 75 #[.slice A1 d0.defs.length c1]∧Blk w' w7.heap.size 84 #[.int .i64 d1.control.term.kind,.int .i64 d1.control.term.value,.slice A2 d1.control.term.data.length c2,.slice A3 d1.control.term.kids.length c3,.slice A4 d1.control.env.length c4,.slice A5 d1.stack.length c5,.slice A6 d1.heap.length c6]∧Below w.heap.size w w'∧m_impl_ValidNeed_L1 d0 d1 K1 g i32=some r) 0 (fun f w'=>f 2=.pointer (some ⟨w.heap.size,0,none⟩)∧f 3=.pointer (some ⟨w7.heap.size,0,none⟩)∧Blk w' w.heap.size 75 #[.slice A1 d0.defs.length c1]∧Blk w' w7.heap.size 84 #[.int .i64 d1.control.term.kind,.int .i64 d1.control.term.value,.slice A2 d1.control.term.data.length c2,.slice A3 d1.control.term.kids.length c3,.slice A4 d1.control.env.length c4,.slice A5 d1.stack.length c5,.slice A6 d1.heap.length c6]∧Below w.heap.size w w'∧m_impl_ValidNeed_A1 d0 d1  = some r) (d1.heap.length+1) ⟨0,rfl,rfl,rfl,rfl,rfl,(by omega),B8,B12,T,hm⟩ ?_ ?_
    ·rintro f w27 ⟨s2_1x,s3_1x,B8,B12,T,hm⟩
     unfold m_impl_ValidNeed_A1 at hm
     refine blk_hit (then_n ?_)
     refine wp_seq<|wp_rb rfl<|RQ.y rfl (Y.fieldAddr (off:=5) s3_1x (by kernel_rfl))<|RQ.y rfl (Y.load (v:=.slice A5 d1.stack.length c5) rfl (by kernel_rfl) (beC (blkCell B12 (i:=5) rfl)))<|RQ.y rfl (Y.makeFunc (vals:=#[.pointer (some ⟨w7.heap.size,0,none⟩),.pointer (some ⟨w.heap.size,0,none⟩)]) (am2 s3_1x s2_1x)) ?_
     obtain ⟨y28,e29,hm⟩:=bnd hm
     refine RQ.call rfl (am2 rfl rfl) (by kernel_rfl) (v:=.bool y28) (bel (K:=fun _=>True) fun w' hb'=>(c_m_slices_ContainsFunc_impl_Frame_impl_Frame d1.stack (fun x0=>m_impl_ValidNeed_1 x0 d1 d0) _ e29 _ _ _ w' (slArg frameRd_ok h5 r5 (Tt T hb')) (by kernel_rfl) (fun x0 b hx w1 hb1 y0 hy0=>Calls.arr (by simp) (c_m_impl_ValidNeed_1 x0 d1 d0 _ hx _ _ _ w1 hy0 (ptBox (R:=needRd) (blkT B12 (Tt hb' hb1)) ⟨_,_,_,_,_,_,_,_,_,_,_,_,_,_,_,rfl,⟨SlAt.now intRd_ok h2 (Nat.le_refl _) (Tt (Tt T hb') hb1),r2⟩,⟨SlAt.now coreRd_ok h3 (Nat.le_refl _) (Tt (Tt T hb') hb1),r3⟩,⟨SlAt.now intRd_ok h4 (Nat.le_refl _) (Tt (Tt T hb') hb1),r4⟩,⟨SlAt.now frameRd_ok h5 (Nat.le_refl _) (Tt (Tt T hb') hb1),r5⟩,⟨SlAt.now thunkRd_ok h6 (Nat.le_refl _) (Tt (Tt T hb') hb1),r6⟩⟩) (ptBox (R:=bookRd) (blkT B8 (Tt hb' hb1)) ⟨_,_,_,rfl,⟨SlAt.now coreRd_ok h1 (Nat.le_refl _) (Tt (Tt T hb') hb1),r1⟩⟩)))))<|RQ.y rfl (Y.not (b':=(!y28)) rfl rfl)<|RQ.y rfl (Y.assign (v:=.bool (!y28)) rfl)<|RQ.nil ?_
     intro w30 hb31
     have szw30:=hb31.size
     have T:=Tt T hb31
     refine then_n<|wp_ret ?_
     obtain rfl:=sj hm
     exact (ret1 rfl rfl rfl ⟨rfl,T⟩)
    rintro g f w33 ⟨i32,s2_1,s3_1,s30_1,s31_1,s32_1,nn32_1,B8,B12,T,hm⟩
    rcases g with _|g
    ·simp only [m_impl_ValidNeed_L1] at hm; cases hm
    obtain ⟨rec1,hrec1,hm⟩ :∃z,z=m_impl_ValidNeed_L1 d0 d1 K1 g∧m_impl_ValidNeed_B1 d0 d1 z K1 i32=some r:=⟨_,rfl,hm⟩
    unfold m_impl_ValidNeed_B1 at hm
    refine wp_seq<|wp_rs rfl<|RQ.y rfl (Y.binI (v:=.bool (decide (i32 < (d1.heap.length:Int)))) s32_1 s31_1 rfl)<|RQ.nil<|then_n<|wp_seq ?_
    rcases bcases (decide (i32 < (d1.heap.length:Int))) with c34|c34
    ·replace hm:=cF c34 hm
     have pc34:=of_decide_eq_false c34
     refine cond_f rfl (vb rfl c34)<|wp_exit ?_
     exact (then_x (then_x (hit_x ⟨_,rfl,⟨s2_1,s3_1,B8,B12,T,(by rw [hK1] at hm; exact hm)⟩⟩)))
    replace hm:=cT c34 hm
    have pc34:=of_decide_eq_true c34
    refine cond_t rfl (vb rfl c34)<|wp_skip<|then_n<|wp_seq<|wp_block<|wp_seq<|wp_rl rfl ?_
    obtain ⟨x35,hx38,hm⟩:=bnd hm
    obtain ⟨k36,hk39,hl40,hx38⟩:=getI_some hx38
    obtain ⟨b42,o43,rfl,hbb42⟩:=h6.addr (by omega)
    obtain ⟨cs37,hRcs37,hc41⟩:=h6.el hx38
    have hScs37:=hRcs37
    obtain ⟨A44,n44,c44,A45,n45,c45,A46,n46,c46,rfl,⟨h44,r44⟩,⟨h45,r45⟩,⟨h46,r46⟩⟩:=hRcs37
    have e44:=h44.len; subst e44
    have q44:=len_le r44
    have e45:=h45.len; subst e45
    have q45:=len_le r45
    have e46:=h46.len; subst e46
    have q46:=len_le r46
    refine RL.y rfl (Y.indexAddr (m:=k36) (sz:=6) s30_1 s32_1 hk39 hl40 (by kernel_rfl))<|RL.y rfl (Y.loadN (cs:=[.bool x35.done,.int .i64 x35.closure.term.kind,.int .i64 x35.closure.term.value,.slice A44 x35.closure.term.data.length c44,.slice A45 x35.closure.term.kids.length c45,.slice A46 x35.closure.env.length c46]) rfl (by kernel_rfl) (cells6 (eqC (cellT T (hc41 0 _ rfl))) (eqC (cellT T (hc41 1 _ rfl))) (eqC (cellT T (hc41 2 _ rfl))) (eqC (cellT T (hc41 3 _ rfl))) (eqC (cellT T (hc41 4 _ rfl))) (eqC (cellT T (hc41 5 _ rfl))))) ?_
    refine RL.alloc (z:=.agg #[.bool false,.int .i64 0,.int .i64 0,.slice none 0 0,.slice none 0 0,.slice none 0 0]) rfl (by kernel_rfl) (fun w47 B48 hb49 szw47=>?_)
    replace B48:Blk w47 w33.heap.size 141 #[.bool false,.int .i64 0,.int .i64 0,.slice none 0 0,.slice none 0 0,.slice none 0 0]:=B48
    have GB48:w.heap.size≤w33.heap.size:=T.size
    have Eob50_ob10:=Nat.ne_of_lt B8.lt
    have Eob50_ob14:=Nat.ne_of_lt B12.lt
    have B8:=blkT B8 hb49
    have B12:=blkT B12 hb49
    have T:=Tt T hb49
    refine RL.store (v:=.agg #[.bool x35.done,.int .i64 x35.closure.term.kind,.int .i64 x35.closure.term.value,.slice A44 x35.closure.term.data.length c44,.slice A45 x35.closure.term.kids.length c45,.slice A46 x35.closure.env.length c46]) (cs':=#[.bool x35.done,.int .i64 x35.closure.term.kind,.int .i64 x35.closure.term.value,.slice A44 x35.closure.term.data.length c44,.slice A45 x35.closure.term.kids.length c45,.slice A46 x35.closure.env.length c46]) rfl rfl rfl B48 (by kernel_rfl) (by rfl) (by rfl) (by rfl) (fun w51 B52 ho53=>?_)
    have szw51:=ho53.size
    have B8:=B8.only_ ho53 (by intro hin; simp at hin; exact Eob50_ob10 hin)
    have B12:=B12.only_ ho53 (by intro hin; simp at hin; exact Eob50_ob14 hin)
    have T:=T.trans (ho53.below (by first|(simp; done)|(simp; omega)))
    refine RL.nil<|then_n<|wp_seq<|wp_rb rfl<|RQ.y rfl (Y.loadN (cs:=[.slice A1 d0.defs.length c1]) s2_1 (by kernel_rfl) (cells1 (beC (blkCell B8 (i:=0) rfl))))<|RQ.y rfl (Y.fieldAddr (off:=1) rfl (by kernel_rfl))<|RQ.y rfl (Y.loadN (cs:=[.int .i64 x35.closure.term.kind,.int .i64 x35.closure.term.value,.slice A44 x35.closure.term.data.length c44,.slice A45 x35.closure.term.kids.length c45,.slice A46 x35.closure.env.length c46]) rfl (by kernel_rfl) (cells5 (beC (blkCell B52 (i:=1) rfl)) (beC (blkCell B52 (i:=2) rfl)) (beC (blkCell B52 (i:=3) rfl)) (beC (blkCell B52 (i:=4) rfl)) (beC (blkCell B52 (i:=5) rfl)))) ?_
    obtain ⟨y54,e55,hm⟩:=bnd hm
    refine RQ.call rfl (am3 s3_1 rfl rfl) (by kernel_rfl) (v:=.bool y54) (bel (K:=fun _=>True) fun w' hb'=>(c_m_impl_Need_validClosure d1 d0 (⟨(⟨x35.closure.term.kind,x35.closure.term.value,x35.closure.term.data,x35.closure.term.kids⟩:DCore),x35.closure.env⟩:DClosure) _ e55 _ _ _ w' (ptBox (R:=needRd) (blkT B12 hb') ⟨_,_,_,_,_,_,_,_,_,_,_,_,_,_,_,rfl,⟨SlAt.now intRd_ok h2 (Nat.le_refl _) (Tt T hb'),r2⟩,⟨SlAt.now coreRd_ok h3 (Nat.le_refl _) (Tt T hb'),r3⟩,⟨SlAt.now intRd_ok h4 (Nat.le_refl _) (Tt T hb'),r4⟩,⟨SlAt.now frameRd_ok h5 (Nat.le_refl _) (Tt T hb'),r5⟩,⟨SlAt.now thunkRd_ok h6 (Nat.le_refl _) (Tt T hb'),r6⟩⟩) (stArg (R:=bookRd) ⟨_,_,_,rfl,⟨SlAt.now coreRd_ok h1 (Nat.le_refl _) (Tt T hb'),r1⟩⟩) (stArg (R:=closureRd) ⟨_,_,_,_,_,_,_,_,_,rfl,⟨SlAt.now intRd_ok h44 (Nat.le_refl _) (Tt T hb'),r44⟩,⟨SlAt.now coreRd_ok h45 (Nat.le_refl _) (Tt T hb'),r45⟩,⟨SlAt.now intRd_ok h46 (Nat.le_refl _) (Tt T hb'),r46⟩⟩)))<|RQ.y rfl (Y.not (b':=(!y54)) rfl rfl)<|RQ.y rfl (Y.move (v:=.bool (!y54)) rfl) ?_
    rcases bcases y54 with c56|c56
    ·replace hm:=cF c56 hm
     iterate 3 refine RQ.skip (wantN (dj:=41) rfl (vbn rfl c56 rfl) rfl) ?_
     iterate 4 refine RQ.skip rfl ?_
     refine RQ.skip (wantN (dj:=41) rfl (vbn rfl c56 rfl) rfl)<|RQ.y rfl (Y.pick (b:=true) (v:=.bool true) (vbn rfl c56 rfl) rfl)<|RQ.nil ?_
     intro w57 hb58
     have szw57:=hb58.size
     have B8:=blkT B8 hb58
     have B12:=blkT B12 hb58
     have T:=Tt T hb58
     refine then_n<|cond_t rfl rfl<|wp_seq<|wp_rs rfl<|RQ.y rfl (Y.assign (v:=.bool false) rfl)<|RQ.nil<|then_n<|wp_ret ?_
     obtain rfl:=sj hm
     exact (blk_r (then_r (then_r (hit_r (blk_r (then_r (ret1 rfl rfl rfl ⟨rfl,T⟩)))))))
    replace hm:=cT c56 hm
    refine RQ.y (wantT (dj:=41) rfl (vbn rfl c56 rfl)) (Y.fieldAddr (off:=0) rfl (by kernel_rfl))<|RQ.y (wantT (dj:=41) rfl (vbn rfl c56 rfl)) (Y.load (v:=.bool x35.done) rfl (by kernel_rfl) (beC (blkCell B52 (i:=0) rfl)))<|RQ.y (wantT (dj:=41) rfl (vbn rfl c56 rfl)) (Y.move (v:=.bool x35.done) rfl) ?_
    rcases bcases x35.done with c59|c59
    ·replace hm:=cF c59 hm
     iterate 4 refine RQ.skip (wantN (dj:=44) rfl (vb rfl c59) rfl) ?_
     refine RQ.y (wantT (dj:=41) rfl (vbn rfl c56 rfl)) (Y.pick (b:=false) (v:=.bool false) (vb rfl c59) rfl)<|RQ.y rfl (Y.pick (b:=false) (v:=.bool false) (vbn rfl c56 rfl) rfl)<|RQ.nil ?_
     intro w60 hb61
     have szw60:=hb61.size
     have B8:=blkT B8 hb61
     have B12:=blkT B12 hb61
     have T:=Tt T hb61
     refine then_n<|cond_f rfl rfl<|wp_skip ?_
     refine blk_n (then_n ?_)
     refine wp_rs rfl<|RQ.y rfl (Y.binI s32_1 rfl (binI_add (m:=i32) (by omega)))<|RQ.y rfl (Y.move (v:=.int .i64 (i32+1)) rfl)<|RQ.nil ?_
     exact (then_n ⟨g,_,Nat.lt_succ_self _,rfl,⟨(i32+1),s2_1,s3_1,s30_1,s31_1,rfl,(by omega),B8,B12,T,(by rw [← hrec1]; exact hm)⟩⟩)
    replace hm:=cT c59 hm
    refine RQ.y (wantT (dj:=44) rfl (vb rfl c59)) (Y.fieldAddr (off:=1) rfl (by kernel_rfl))<|RQ.y (wantT (dj:=44) rfl (vb rfl c59)) (Y.loadN (cs:=[.int .i64 x35.closure.term.kind,.int .i64 x35.closure.term.value,.slice A44 x35.closure.term.data.length c44,.slice A45 x35.closure.term.kids.length c45,.slice A46 x35.closure.env.length c46]) rfl (by kernel_rfl) (cells5 (beC (blkCell B52 (i:=1) rfl)) (beC (blkCell B52 (i:=2) rfl)) (beC (blkCell B52 (i:=3) rfl)) (beC (blkCell B52 (i:=4) rfl)) (beC (blkCell B52 (i:=5) rfl)))) ?_
    obtain ⟨y62,e63,hm⟩:=bnd hm
    refine RQ.call (wantT (dj:=44) rfl (vb rfl c59)) (am1 rfl) (by kernel_rfl) (v:=.bool y62) (bel (K:=fun _=>True) fun w' hb'=>(c_m_impl_Closure_isValue (⟨(⟨x35.closure.term.kind,x35.closure.term.value,x35.closure.term.data,x35.closure.term.kids⟩:DCore),x35.closure.env⟩:DClosure) _ e63 _ w' (stArg (R:=closureRd) ⟨_,_,_,_,_,_,_,_,_,rfl,⟨SlAt.now intRd_ok h44 (Nat.le_refl _) (Tt T hb'),r44⟩,⟨SlAt.now coreRd_ok h45 (Nat.le_refl _) (Tt T hb'),r45⟩,⟨SlAt.now intRd_ok h46 (Nat.le_refl _) (Tt T hb'),r46⟩⟩)))<|RQ.y (wantT (dj:=44) rfl (vb rfl c59)) (Y.not (b':=(!y62)) rfl rfl)<|RQ.y (wantT (dj:=41) rfl (vbn rfl c56 rfl)) (Y.pick (b:=true) (v:=.bool (!y62)) (vb rfl c59) rfl)<|RQ.y rfl (Y.pick (b:=false) (v:=.bool (!y62)) (vbn rfl c56 rfl) rfl)<|RQ.nil ?_
    intro w64 hb65
    have szw64:=hb65.size
    have B8:=blkT B8 hb65
    have B12:=blkT B12 hb65
    have T:=Tt T hb65
    refine then_n ?_
    rcases bcases y62 with c66|c66
    ·replace hm:=cF c66 hm
     refine cond_t rfl (vbn rfl c66 rfl)<|wp_seq<|wp_rs rfl<|RQ.y rfl (Y.assign (v:=.bool false) rfl)<|RQ.nil<|then_n<|wp_ret ?_
     obtain rfl:=sj hm
     exact (blk_r (then_r (then_r (hit_r (blk_r (then_r (ret1 rfl rfl rfl ⟨rfl,T⟩)))))))
    replace hm:=cT c66 hm
    refine cond_f rfl (vbn rfl c66 rfl)<|wp_skip ?_
    refine blk_n (then_n ?_)
    refine wp_rs rfl<|RQ.y rfl (Y.binI s32_1 rfl (binI_add (m:=i32) (by omega)))<|RQ.y rfl (Y.move (v:=.int .i64 (i32+1)) rfl)<|RQ.nil ?_
    exact (then_n ⟨g,_,Nat.lt_succ_self _,rfl,⟨(i32+1),s2_1,s3_1,s30_1,s31_1,rfl,(by omega),B8,B12,T,(by rw [← hrec1]; exact hm)⟩⟩)
   replace hm:=cT c21 hm
   have pc21:=of_decide_eq_true c21
   iterate 5 refine RQ.skip (wantN (dj:=22) rfl (vb rfl c21) rfl) ?_
   refine RQ.y rfl (Y.pick (b:=true) (v:=.bool true) (vb rfl c21) rfl)<|RQ.nil ?_
   intro w68 hb69
   have szw68:=hb69.size
   have B8:=blkT B8 hb69
   have B12:=blkT B12 hb69
   have T:=Tt T hb69
   refine then_n<|cond_t rfl rfl<|wp_seq<|wp_rs rfl<|RQ.y rfl (Y.assign (v:=.bool false) rfl)<|RQ.nil<|then_n<|wp_ret ?_
   obtain rfl:=sj hm
   exact (then_r (ret1 rfl rfl rfl ⟨rfl,T⟩))
  replace hm:=cT c20 hm
  have pc20:=of_decide_eq_true c20
  iterate 4 refine RQ.skip (wantN (dj:=16) rfl (vb rfl c20) rfl) ?_
  refine RQ.y rfl (Y.pick (b:=true) (v:=.bool true) (vb rfl c20) rfl)<|RQ.y rfl (Y.move (v:=.bool true) rfl) ?_
  iterate 5 refine RQ.skip (wantN (dj:=22) rfl rfl rfl) ?_
  refine RQ.y rfl (Y.pick (b:=true) (v:=.bool true) rfl rfl)<|RQ.nil ?_
  intro w70 hb71
  have szw70:=hb71.size
  have B8:=blkT B8 hb71
  have B12:=blkT B12 hb71
  have T:=Tt T hb71
  refine then_n<|cond_t rfl rfl<|wp_seq<|wp_rs rfl<|RQ.y rfl (Y.assign (v:=.bool false) rfl)<|RQ.nil<|then_n<|wp_ret ?_
  obtain rfl:=sj hm
  exact (then_r (ret1 rfl rfl rfl ⟨rfl,T⟩))
end
section
open Go.RowKit
theorem loopA {α ρ:Type} {L:Nat→Int→Option ρ} {d:List α} {p:α→Bool} {no K:Option ρ} (h :∀g (k:Nat) (hk:k < d.length),L (g+1) (k:Int)=bif p d[k] then L g ((k:Int)+1) else no) (he :∀g,L (g+1) (d.length:Int)=K):L (d.length+1) 0=bif d.all p then K else no:=by
  have key :∀(m k g:Nat),k+m=d.length→m < g→L g (k:Int)=bif (d.drop k).all p then K else no:=by
    intro m
    induction m with
    |zero=>
      intro k g hk hg
      obtain ⟨g,rfl⟩ :∃g',g=g'+1:=⟨g - 1,by omega⟩
      rw [show k=d.length by omega,he,List.drop_length]; rfl
    |succ m ih=>
      intro k g hk hg
      obtain ⟨g,rfl⟩ :∃g',g=g'+1:=⟨g - 1,by omega⟩
      have hl:k < d.length:=by omega
      rw [h g k hl,List.drop_eq_getElem_cons hl,List.all_cons]
      cases hp:p d[k] with
      |false=>rfl
      |true=>rw [cond_true,Bool.true_and,show ((k:Int)+1)=((k+1:Nat):Int) by omega]; exact ih (k+1) g (by omega) (by omega)
  have:=key d.length 0 (d.length+1) (by omega) (by omega)
  simpa using this
def idxs (d:List Int):Bool:=d.all fun k=>inR k 0 23
/-- The own form of a node. -/
def coForm (x:DCore):Bool:=
  (if x.kind=1 then inR x.value 0 255 && (decide (x.data.length=0) && decide (x.kids.length=0))
  else if x.kind=2 then inR x.value (-2147483648) 2147483647 && (decide (x.data.length=0) && decide (x.kids.length=0))
  else if x.kind=3 then inR x.value 1 6 && (decide (x.data.length=0) && decide (x.kids.length=2))
  else if x.kind=4 ∨ x.kind=6 then decide (x.value=0) && (decide (x.data.length=0) && decide (x.kids.length=1))
  else if x.kind=5 ∨ x.kind=7 then decide (x.value=0) && (decide (x.data.length=0) && decide (x.kids.length=2))
  else if x.kind=8 then inR x.value 0 3 && (decide (x.data.length=0) && decide (x.kids.length≤3))
  else if x.kind=9 then decide (x.value=0) && ((decide (1≤x.data.length) && decide (x.data.length≤4)) && decide (x.kids.length=1))
  else if x.kind=10 then decide (x.value=0) && (decide (x.data.length=2) && decide (x.kids.length=1))
  else if x.kind=11 then inR x.value 0 23 && (decide (x.data.length=0) && decide (x.kids.length=0))
  else false) && idxs x.data
mutual
def coOk:DCore→Bool
  |⟨k,v,d,ks⟩=>coForm ⟨k,v,d,ks⟩ && coOkL ks
def coOkL:List DCore→Bool
  |[]=>true
  |x :: xs=>coOk x && coOkL xs
end
mutual
def coDepth:DCore→Nat
  |⟨_,_,_,ks⟩=>coDepthL ks+1
def coDepthL:List DCore→Nat
  |[]=>0
  |x :: xs=>if coDepth x > coDepthL xs then coDepth x else coDepthL xs
end
mutual
def coSize:DCore→Nat
  |⟨_,_,_,ks⟩=>1+coSizeL ks
def coSizeL:List DCore→Nat
  |[]=>0
  |x :: xs=>coSize x+coSizeL xs
end
theorem coOk_eq (x:DCore):coOk x=(coForm x && coOkL x.kids):=by
  obtain ⟨a,b,c,d⟩:=x
  rw [coOk]
theorem coOkL_eq :∀xs:List DCore,coOkL xs=xs.all coOk
  |[]=>by rw [coOkL]; rfl
  |x :: xs=>by rw [coOkL,coOkL_eq xs,List.all_cons]
theorem coDepth_eq (x:DCore):coDepth x=coDepthL x.kids+1:=by
  obtain ⟨a,b,c,d⟩:=x
  rw [coDepth]
theorem coDepthL_le :∀(xs:List DCore) (m:Nat),coDepthL xs≤m↔∀x∈xs,coDepth x≤m
  |[],m=>by rw [coDepthL]; simp
  |x :: xs,m=>by
    rw [coDepthL]
    have ih:=coDepthL_le xs m
    simp only [List.mem_cons,forall_eq_or_imp]
    rw [← ih]
    split <;> omega
theorem coSize_eq (x:DCore):coSize x=1+coSizeL x.kids:=by
  obtain ⟨a,b,c,d⟩:=x
  rw [coSize]
theorem coSizeL_eq :∀xs:List DCore,coSizeL xs=(xs.map coSize).sum
  |[]=>by rw [coSizeL]; rfl
  |x :: xs=>by rw [coSizeL,coSizeL_eq xs,List.map_cons,List.sum_cons]
mutual
theorem coDepth_le :∀x:DCore,coDepth x≤coSize x
  |⟨k,v,d,ks⟩=>by
    have:=coDepthL_le2 ks
    rw [coDepth,coSize]
    omega
theorem coDepthL_le2 :∀xs:List DCore,coDepthL xs≤coSizeL xs
  |[]=>by rw [coDepthL]; omega
  |x :: xs=>by
    have h1:=coDepth_le x
    have h2:=coDepthL_le2 xs
    rw [coDepthL,coSizeL]
    split <;> omega
end
theorem sum_le_memC {xs:List DCore} {k:Nat} (hk:k < xs.length):((xs.take k).map coSize).sum+coSize xs[k]≤(xs.map coSize).sum:=by
  have h:xs=xs.take k ++ xs[k] :: xs.drop (k+1):=by rw [← List.drop_eq_getElem_cons hk,List.take_append_drop]
  have e:=congrArg (fun l=>(l.map coSize).sum) h
  simp only [List.map_append,List.sum_append,List.map_cons,List.sum_cons] at e
  omega
theorem shapeC {L:Nat→Int→Int→Int→Option (Int × Int × Bool)} {ks:List DCore} {self:DCore→Option (Int × Int × Bool)} {K:Int→Int→Option (Int × Int × Bool)}
    (h :∀g a b i,L (g+1) a b i=bif decide (i < (ks.length:Int)) then (getI ks i).bind fun x=>(self x).bind fun y=>bif y.2.2 then (ck (y.1+1)).bind fun s=>(ck (b+y.2.1)).bind fun s2=>L g (if s > a then s else a) s2 (i+1) else some (0,0,false) else K a b)
    (hs :∀x∈ks,∃r,self x=some r∧r.2.2=coOk x∧(coOk x=true→r.1=coDepth x∧r.2.1=coSize x)) (hb:(ks.map coSize).sum≤4294967296) :
    L (ks.length+1) 1 1 0=bif ks.all coOk then K ((coDepthL ks+1:Nat):Int) (1+((ks.map coSize).sum:Int)) else some (0,0,false):=by
  have hsplit :∀k,k≤ks.length→True:=fun _ _=>trivial
  have key :∀(m k g:Nat),k+m=ks.length→m < g→∀dep:Nat,(∀M,dep≤M↔1≤M∧∀x∈ks.take k,coDepth x+1≤M)→L g (dep:Int) (1+(((ks.take k).map coSize).sum:Int)) (k:Int)=bif (ks.drop k).all coOk then K ((coDepthL ks+1:Nat):Int) (1+((ks.map coSize).sum:Int)) else some (0,0,false):=by
    intro m
    induction m with
    |zero=>
      intro k g hk hg dep hdep
      obtain ⟨g,rfl⟩ :∃g',g=g'+1:=⟨g - 1,by omega⟩
      obtain rfl:k=ks.length:=by omega
      rw [h,dge,cond_false,List.take_length,List.drop_length]
      have e:dep=coDepthL ks+1:=by
        rw [List.take_length] at hdep
        have h1:=(hdep dep).1 (Nat.le_refl _)
        have h2:=(hdep (coDepthL ks+1)).2 ⟨by omega,fun x hx=>by have:=(coDepthL_le ks (coDepthL ks)).1 (Nat.le_refl _) x hx; omega⟩
        have h3:=(coDepthL_le ks (dep - 1)).2 (fun x hx=>by have:=h1.2 x hx; omega)
        omega
      rw [e]; rfl
    |succ m ih=>
      intro k g hk hg dep hdep
      obtain ⟨g,rfl⟩ :∃g',g=g'+1:=⟨g - 1,by omega⟩
      have hl:k < ks.length:=by omega
      have hm:=List.getElem_mem hl
      have hle:=sum_le_memC hl
      obtain ⟨r,hr,hr1,hr2⟩:=hs _ hm
      rw [h,dlt hl,cond_true,getI_lt hl,Option.bind_some,hr,Option.bind_some,hr1,List.drop_eq_getElem_cons hl,List.all_cons]
      cases hx:coOk ks[k] with
      |false=>rfl
      |true=>
        obtain ⟨e1,e2⟩:=hr2 hx
        have hdl:=coDepth_le ks[k]
        rw [cond_true,Bool.true_and,e1,e2,ck_ok (by omega),Option.bind_some,ck_ok (by omega),Option.bind_some]
        have e3:(1+(((ks.take k).map coSize).sum:Int)+(coSize ks[k] : Int))=1+(((ks.take (k+1)).map coSize).sum:Int):=by
          rw [take_snoc hl,List.map_append,List.sum_append]
          simp
          omega
        have e4:(if (coDepth ks[k] : Int)+1 > (dep:Int) then (coDepth ks[k] : Int)+1 else (dep:Int))=((if coDepth ks[k] + 1 > dep then coDepth ks[k] + 1 else dep:Nat):Int):=by split <;> split <;> omega
        rw [e3,e4,show ((k:Int)+1)=((k+1:Nat):Int) by omega]
        refine ih (k+1) g (by omega) (by omega) _ (fun M=>?_)
        have hd:=hdep M
        rw [take_snoc hl]
        simp only [List.mem_append,List.mem_singleton]
        constructor
        · intro hM
          have hdM:dep≤M:=by split at hM <;> omega
          refine ⟨(hd.1 hdM).1,fun x hx=>?_⟩
          rcases hx with hx|hx
          · exact (hd.1 hdM).2 x hx
          · subst hx; split at hM <;> omega
        · rintro ⟨hM,hall⟩
          have h1:=hd.2 ⟨hM,fun x hx=>hall x (.inl hx)⟩
          have h2:=hall _ (.inr rfl)
          split <;> omega
  have:=key ks.length 0 (ks.length+1) (by omega) (by omega) 1 (fun M=>by simp)
  simpa using this
theorem extC {L:Nat→Int→Int→Int→Option (Int × Int)} {ks:List DCore} {self:DCore→Option (Int × Int)} {K:Int→Int→Option (Int × Int)}
    (h :∀g a b i,L (g+1) a b i=bif decide (i < (ks.length:Int)) then (getI ks i).bind fun x=>(self x).bind fun y=>(ck (y.1+1)).bind fun s=>(ck (b+y.2)).bind fun s2=>L g (if s > a then s else a) s2 (i+1) else K a b)
    (hs :∀x∈ks,self x=some ((coDepth x:Int),(coSize x:Int))) (hb:(ks.map coSize).sum≤4294967296) :
    L (ks.length+1) 1 1 0=K ((coDepthL ks+1:Nat):Int) (1+((ks.map coSize).sum:Int)):=by
  have hsplit :∀k,k≤ks.length→True:=fun _ _=>trivial
  have key :∀(m k g:Nat),k+m=ks.length→m < g→∀dep:Nat,(∀M,dep≤M↔1≤M∧∀x∈ks.take k,coDepth x+1≤M)→L g (dep:Int) (1+(((ks.take k).map coSize).sum:Int)) (k:Int)=K ((coDepthL ks+1:Nat):Int) (1+((ks.map coSize).sum:Int)):=by
    intro m
    induction m with
    |zero=>
      intro k g hk hg dep hdep
      obtain ⟨g,rfl⟩ :∃g',g=g'+1:=⟨g - 1,by omega⟩
      obtain rfl:k=ks.length:=by omega
      rw [h,dge,cond_false,List.take_length]
      have e:dep=coDepthL ks+1:=by
        rw [List.take_length] at hdep
        have h1:=(hdep dep).1 (Nat.le_refl _)
        have h2:=(hdep (coDepthL ks+1)).2 ⟨by omega,fun x hx=>by have:=(coDepthL_le ks (coDepthL ks)).1 (Nat.le_refl _) x hx; omega⟩
        have h3:=(coDepthL_le ks (dep - 1)).2 (fun x hx=>by have:=h1.2 x hx; omega)
        omega
      rw [e]
    |succ m ih=>
      intro k g hk hg dep hdep
      obtain ⟨g,rfl⟩ :∃g',g=g'+1:=⟨g - 1,by omega⟩
      have hl:k < ks.length:=by omega
      have hm:=List.getElem_mem hl
      have hle:=sum_le_memC hl
      have hr:=hs _ hm
      rw [h,dlt hl,cond_true,getI_lt hl,Option.bind_some,hr,Option.bind_some]
      have hdl:=coDepth_le ks[k]
      rw [ck_ok (by omega),Option.bind_some,ck_ok (by omega),Option.bind_some]
      have e3:(1+(((ks.take k).map coSize).sum:Int)+(coSize ks[k] : Int))=1+(((ks.take (k+1)).map coSize).sum:Int):=by
        rw [take_snoc hl,List.map_append,List.sum_append]
        simp
        omega
      have e4:(if (coDepth ks[k] : Int)+1 > (dep:Int) then (coDepth ks[k] : Int)+1 else (dep:Int))=((if coDepth ks[k] + 1 > dep then coDepth ks[k] + 1 else dep:Nat):Int):=by split <;> split <;> omega
      rw [e3,e4,show ((k:Int)+1)=((k+1:Nat):Int) by omega]
      refine ih (k+1) g (by omega) (by omega) _ (fun M=>?_)
      have hd:=hdep M
      rw [take_snoc hl]
      simp only [List.mem_append,List.mem_singleton]
      constructor
      · intro hM
        have hdM:dep≤M:=by split at hM <;> omega
        refine ⟨(hd.1 hdM).1,fun x hx=>?_⟩
        rcases hx with hx|hx
        · exact (hd.1 hdM).2 x hx
        · subst hx; split at hM <;> omega
      · rintro ⟨hM,hall⟩
        have h1:=hd.2 ⟨hM,fun x hx=>hall x (.inl hx)⟩
        have h2:=hall _ (.inr rfl)
        split <;> omega
  have:=key ks.length 0 (ks.length+1) (by omega) (by omega) 1 (fun M=>by simp)
  simpa using this
end
section
open Go.RowKit
theorem lenEq (n m:Nat):((n:Int)==(m:Int))=decide (n=m):=by rw [Bool.eq_iff_iff]; simp; try omega
theorem lnI0 (n:Nat):((n:Int)==0)=decide (n=0):=lenEq n 0
theorem lnI1 (n:Nat):((n:Int)==1)=decide (n=1):=lenEq n 1
theorem lnI2 (n:Nat):((n:Int)==2)=decide (n=2):=lenEq n 2
theorem valEq (v m:Int):(v==m)=decide (v=m):=by rw [Bool.eq_iff_iff]; simp
theorem inR00 (n:Nat):inR (n:Int) 0 0=decide (n=0):=by unfold inR; rw [Bool.eq_iff_iff]; simp; try omega
theorem inR11 (n:Nat):inR (n:Int) 1 1=decide (n=1):=by unfold inR; rw [Bool.eq_iff_iff]; simp; try omega
theorem inR22 (n:Nat):inR (n:Int) 2 2=decide (n=2):=by unfold inR; rw [Bool.eq_iff_iff]; simp; try omega
theorem inR03 (n:Nat):inR (n:Int) 0 3=decide (n≤3):=by unfold inR; rw [Bool.eq_iff_iff]; simp; try omega
theorem inR14 (n:Nat):inR (n:Int) 1 4=(decide (1≤n) && decide (n≤4)):=by unfold inR; rw [Bool.eq_iff_iff]; simp; try omega
theorem inRno (n:Nat):inR (n:Int) 0 (-1)=false:=by unfold inR; simp; try omega
theorem idxs_eq (d:List Int):idxs d = !(d.any fun k=>!defIx k):=by
  rw [List.not_any_eq_all_not]; unfold idxs
  congr 1; funext k; simp [inR,defIx]
theorem idxs_nil {d:List Int} (h:d.length=0):idxs d=true:=by rw [List.eq_nil_of_length_eq_zero h]; rfl
theorem p_iNode (x:DCore):m_impl_validCoreNode x=some (coForm x):=by
  have hc:=p_contains_int x.data (fun x0=>m_impl_validCoreNode_1 x0) (fun k=>!defIx k) (fun y _=>by simp [m_impl_validCoreNode_1,p_isDef])
  have hv:decide (x.value ≥ 0)=decide (0≤x.value):=rfl
  have g1:decide ((x.data.length:Int) ≥ 1)=decide (1≤x.data.length):=decide_eq_decide.2 (by omega)
  have g4:decide ((x.data.length:Int)≤4)=decide (x.data.length≤4):=decide_eq_decide.2 (by omega)
  have g3:decide ((x.kids.length:Int)≤3)=decide (x.kids.length≤3):=decide_eq_decide.2 (by omega)
  have v4:decide (x.value < 4)=decide (x.value≤3):=decide_eq_decide.2 (by omega)
  have hi:idxs x.data = !(x.data.any fun k=>!defIx k):=idxs_eq _
  unfold m_impl_validCoreNode coForm
  rw [hc,p_isInt,p_isOper,p_isDef]
  simp -implicitDefEqProofs only [Option.bind_some,lnI0,lnI1,lnI2,g1,g4,g3,v4,hv,valEq x.kind,valEq x.value]
  rw [← hi]
  by_cases k1:x.kind=1
  · rw [k1]
    simp -implicitDefEqProofs only [decide_true,if_true,reduceIte,reduceCtorEq,Int.reduceEq,decide_false,cond_true,cond_false,or_false,or_true,false_or,true_or]
    unfold inR
    cases decide (0≤x.value) <;> cases decide (x.value≤255) <;> cases decide (x.data.length=0) <;> cases decide (x.kids.length=0) <;> cases idxs x.data <;> rfl
  by_cases k2:x.kind=2
  · rw [k2]
    simp -implicitDefEqProofs only [decide_true,if_true,reduceIte,reduceCtorEq,Int.reduceEq,decide_false,cond_true,cond_false,or_false,or_true,false_or,true_or]
    unfold inR int32B
    cases decide (-2147483648≤x.value) <;> cases decide (x.value≤2147483647) <;> cases decide (x.data.length=0) <;> cases decide (x.kids.length=0) <;> cases idxs x.data <;> rfl
  by_cases k3:x.kind=3
  · rw [k3]
    simp -implicitDefEqProofs only [decide_true,if_true,reduceIte,reduceCtorEq,Int.reduceEq,decide_false,cond_true,cond_false,or_false,or_true,false_or,true_or]
    unfold inR operB
    cases decide (1≤x.value) <;> cases decide (x.value≤6) <;> cases decide (x.data.length=0) <;> cases decide (x.kids.length=2) <;> cases idxs x.data <;> rfl
  by_cases k4:x.kind=4
  · rw [k4]
    simp -implicitDefEqProofs only [decide_true,if_true,reduceIte,reduceCtorEq,Int.reduceEq,decide_false,cond_true,cond_false,or_false,or_true,false_or,true_or]
    cases decide (x.value=0) <;> cases decide (x.data.length=0) <;> cases decide (x.kids.length=1) <;> cases idxs x.data <;> rfl
  by_cases k6:x.kind=6
  · rw [k6]
    simp -implicitDefEqProofs only [decide_true,if_true,reduceIte,reduceCtorEq,Int.reduceEq,decide_false,cond_true,cond_false,or_false,or_true,false_or,true_or]
    cases decide (x.value=0) <;> cases decide (x.data.length=0) <;> cases decide (x.kids.length=1) <;> cases idxs x.data <;> rfl
  by_cases k5:x.kind=5
  · rw [k5]
    simp -implicitDefEqProofs only [decide_true,if_true,reduceIte,reduceCtorEq,Int.reduceEq,decide_false,cond_true,cond_false,or_false,or_true,false_or,true_or]
    cases decide (x.value=0) <;> cases decide (x.data.length=0) <;> cases decide (x.kids.length=2) <;> cases idxs x.data <;> rfl
  by_cases k7:x.kind=7
  · rw [k7]
    simp -implicitDefEqProofs only [decide_true,if_true,reduceIte,reduceCtorEq,Int.reduceEq,decide_false,cond_true,cond_false,or_false,or_true,false_or,true_or]
    cases decide (x.value=0) <;> cases decide (x.data.length=0) <;> cases decide (x.kids.length=2) <;> cases idxs x.data <;> rfl
  by_cases k8:x.kind=8
  · rw [k8]
    simp -implicitDefEqProofs only [decide_true,if_true,reduceIte,reduceCtorEq,Int.reduceEq,decide_false,cond_true,cond_false,or_false,or_true,false_or,true_or]
    by_cases h0:x.data.length=0
    · rw [idxs_nil h0,decide_eq_true h0]
      unfold inR
      cases decide (0≤x.value) <;> cases decide (x.value≤3) <;> cases decide (x.kids.length≤3) <;> rfl
    · rw [decide_eq_false h0]
      cases inR x.value 0 3 <;> rfl
  by_cases k9:x.kind=9
  · rw [k9]
    simp -implicitDefEqProofs only [decide_true,if_true,reduceIte,reduceCtorEq,Int.reduceEq,decide_false,cond_true,cond_false,or_false,or_true,false_or,true_or]
    cases decide (x.value=0) <;> cases decide (1≤x.data.length) <;> cases decide (x.data.length≤4) <;> cases decide (x.kids.length=1) <;> cases idxs x.data <;> rfl
  by_cases k10:x.kind=10
  · rw [k10]
    simp -implicitDefEqProofs only [decide_true,if_true,reduceIte,reduceCtorEq,Int.reduceEq,decide_false,cond_true,cond_false,or_false,or_true,false_or,true_or]
    cases decide (x.value=0) <;> cases decide (x.data.length=2) <;> cases decide (x.kids.length=1) <;> cases idxs x.data <;> rfl
  by_cases k11:x.kind=11
  · rw [k11]
    simp -implicitDefEqProofs only [decide_true,if_true,reduceIte,reduceCtorEq,Int.reduceEq,decide_false,cond_true,cond_false,or_false,or_true,false_or,true_or]
    unfold inR defIx
    cases decide (0≤x.value) <;> cases decide (x.value≤23) <;> cases decide (x.data.length=0) <;> cases decide (x.kids.length=0) <;> cases idxs x.data <;> rfl
  simp [k1,k2,k3,k4,k6,k5,k7,k8,k9,k10,k11]
mutual
def szCore:DCore→Nat
  |⟨_,_,d,ks⟩=>d.length+(ks.length+szCoreL ks)
def szCoreL:List DCore→Nat
  |[]=>0
  |x :: xs=>szCore x+szCoreL xs
end
mutual
theorem coSize_le :∀x:DCore,coSize x≤1+szCore x
  |⟨k,v,d,ks⟩=>by
    have:=coSizeL_le ks
    rw [coSize,szCore]
    omega
theorem coSizeL_le :∀xs:List DCore,coSizeL xs≤xs.length+szCoreL xs
  |[]=>by rw [coSizeL]; omega
  |x :: xs=>by
    have h1:=coSize_le x
    have h2:=coSizeL_le xs
    rw [coSizeL,szCoreL,List.length_cons]
    omega
end
/-- A valid core term. -/
def validC (x:DCore):Bool:=coOk x && (decide (coDepth x≤80) && decide (coSize x≤400))
theorem p_iShapeC :∀(gas:Nat) (x:DCore),SizeOf.sizeOf x≤gas→coSize x≤4294967296→∃r,m_impl_coreShape gas x=some r∧r.2.2=coOk x∧(coOk x=true→r.1=coDepth x∧r.2.1=coSize x)
  |0,x,h,_=>by have:=x.pos; omega
  |gas+1,x,hg,hb=>by
    have ih:=p_iShapeC gas
    have e:m_impl_coreShape (gas+1) x=m_impl_coreShape_R (m_impl_coreShape gas) x:=rfl
    have hkb:(x.kids.map coSize).sum≤4294967296:=by rw [coSize_eq,coSizeL_eq] at hb; omega
    rw [e]
    unfold m_impl_coreShape_R
    rw [p_iNode,Option.bind_some,shapeC (L:=m_impl_coreShape_L1 x (m_impl_coreShape gas) m_impl_coreShape_A1) (fun g a b i=>rfl) (fun y hy=>ih y (by have:=DCore.kid_lt hy; omega) (by have:=sum_mem (f:=coSize) hy; omega)) hkb]
    rw [coOk_eq,coOkL_eq,coDepth_eq,coSize_eq,coSizeL_eq]
    cases hf:coForm x with
    |false=>exact ⟨_,rfl,rfl,fun h=>by cases h⟩
    |true=>
      rw [cond_true,Bool.true_and]
      cases hk:x.kids.all coOk with
      |false=>exact ⟨_,rfl,rfl,fun h=>by cases h⟩
      |true=>exact ⟨_,rfl,rfl,fun _=>⟨rfl,by simp⟩⟩
theorem p_iExtC :∀(gas:Nat) (x:DCore),SizeOf.sizeOf x≤gas→coSize x≤4294967296→m_impl_coreExtent gas x=some ((coDepth x:Int),(coSize x:Int))
  |0,x,h,_=>by have:=x.pos; omega
  |gas+1,x,hg,hb=>by
    have ih:=p_iExtC gas
    have e:m_impl_coreExtent (gas+1) x=m_impl_coreExtent_R (m_impl_coreExtent gas) x:=rfl
    have hkb:(x.kids.map coSize).sum≤4294967296:=by rw [coSize_eq,coSizeL_eq] at hb; omega
    rw [e]
    unfold m_impl_coreExtent_R
    rw [extC (L:=m_impl_coreExtent_L1 x (m_impl_coreExtent gas) m_impl_coreExtent_A1) (fun g a b i=>rfl) (fun y hy=>ih y (by have:=DCore.kid_lt hy; omega) (by have:=sum_mem (f:=coSize) hy; omega)) hkb]
    rw [coDepth_eq,coSize_eq,coSizeL_eq]
    unfold m_impl_coreExtent_A1
    simp
theorem p_iValidCore (x:DCore) (hb:coSize x≤4294967296):m_impl_ValidCore x=some (validC x):=by
  unfold m_impl_ValidCore m_impl_coreFits validC
  obtain ⟨r,e,h1,h2⟩:=p_iShapeC _ x (Nat.le_refl _) hb
  rw [e,Option.bind_some,h1,p_iExtC _ x (Nat.le_refl _) hb,Option.bind_some]
  cases ho:coOk x with
  |false=>rfl
  |true=>
    rw [cond_true,Bool.true_and]
    simp only
    rw [show decide ((coDepth x:Int)≤80)=decide (coDepth x≤80) from decide_eq_decide.2 (by omega),show decide ((coSize x:Int)≤400)=decide (coSize x≤400) from decide_eq_decide.2 (by omega)]
    cases decide (coDepth x≤80) <;> rfl
/-- What l06Nodes answers. -/
def nodesC (x:DCore) (d left:Int):Int:=if coOk x=true∧(coDepth x:Int)≤d∧(coSize x:Int)≤left then (coSize x:Int) else -1
theorem nodesL {L:Nat→Int→Int→Option Int} {ks:List DCore} {self:DCore→Int→Int→Option Int} {d left:Int}
    (h :∀g acc i,L (g+1) acc i=bif decide (i < (ks.length:Int)) then (getI ks i).bind fun x=>(ck (d - 1)).bind fun s=>(ck (left - acc)).bind fun s1=>(self x s s1).bind fun y=>bif decide (y < 0) then some (-1) else (ck (acc+y)).bind fun s2=>L g s2 (i+1) else some acc)
    (hd:-9223372036854775808≤d - 1∧d - 1≤9223372036854775807) (hl0:1≤left) (hl1:left≤4294967296) (hs :∀x∈ks,∀m:Int,-4294967296≤m→m≤4294967296→self x (d - 1) m=some (nodesC x (d - 1) m)) (hb:(ks.map coSize).sum≤4294967296) :
    L (ks.length+1) 1 0=some (if (∀x∈ks,coOk x=true∧(coDepth x:Int)≤d - 1)∧1+((ks.map coSize).sum:Int)≤left then 1+((ks.map coSize).sum:Int) else -1):=by
  have key :∀(m k g:Nat),k+m=ks.length→m < g→1+(((ks.take k).map coSize).sum:Int)≤left→L g (1+(((ks.take k).map coSize).sum:Int)) (k:Int)=some (if (∀x∈ks.drop k,coOk x=true∧(coDepth x:Int)≤d - 1)∧1+((ks.map coSize).sum:Int)≤left then 1+((ks.map coSize).sum:Int) else -1):=by
    intro m
    induction m with
    |zero=>
      intro k g hk hg hle0
      obtain ⟨g,rfl⟩ :∃g',g=g'+1:=⟨g - 1,by omega⟩
      obtain rfl:k=ks.length:=by omega
      rw [List.take_length] at hle0
      rw [h,dge,cond_false,List.take_length,List.drop_length,if_pos ⟨by simp,hle0⟩]
    |succ m ih=>
      intro k g hk hg hle0
      obtain ⟨g,rfl⟩ :∃g',g=g'+1:=⟨g - 1,by omega⟩
      have hl:k < ks.length:=by omega
      have hm:=List.getElem_mem hl
      have hle:=sum_le_memC hl
      rw [h,dlt hl,cond_true,getI_lt hl,Option.bind_some,ck_ok hd,Option.bind_some,ck_ok (by omega),Option.bind_some,hs _ hm _ (by omega) (by omega),Option.bind_some,List.drop_eq_getElem_cons hl]
      have e1:(1+(((ks.take k).map coSize).sum:Int)+(coSize ks[k] : Int))=1+(((ks.take (k+1)).map coSize).sum:Int):=by
        rw [take_snoc hl,List.map_append,List.sum_append]
        simp
        omega
      unfold nodesC
      by_cases hx:coOk ks[k] = true∧(coDepth ks[k] : Int)≤d - 1∧(coSize ks[k] : Int)≤left - (1+(((ks.take k).map coSize).sum:Int))
      · rw [if_pos hx,decide_eq_false (by omega),cond_false,ck_ok (by omega),Option.bind_some]
        rw [e1,show ((k:Int)+1)=((k+1:Nat):Int) by omega,ih (k+1) g (by omega) (by omega) (by omega)]
        congr 1
        apply iteC
        simp only [List.mem_cons,forall_eq_or_imp]
        exact ⟨fun h=>⟨⟨⟨hx.1,hx.2.1⟩,h.1⟩,h.2⟩,fun h=>⟨h.1.2,h.2⟩⟩
      · rw [if_neg hx,decide_eq_true (by omega),cond_true,if_neg (fun hall=>hx ⟨(hall.1 _ List.mem_cons_self).1,(hall.1 _ List.mem_cons_self).2,by omega⟩)]
  have:=key ks.length 0 (ks.length+1) (by omega) (by omega) (by simpa using hl0)
  simpa using this
theorem p_sNodesC :∀(gas:Nat) (x:DCore) (d left:Int),SizeOf.sizeOf x≤gas→-4294967296≤d→d≤4294967296→-4294967296≤left→left≤4294967296→coSize x≤4294967296→m_spec_l06Nodes gas x d left=some (nodesC x d left)
  |0,x,d,left,h,_,_,_,_,_=>by have:=x.pos; omega
  |gas+1,x,d,left,hg,h0,h1,hl0,hl1,hb=>by
    have ih:=p_sNodesC gas
    have e:m_spec_l06Nodes (gas+1) x d left=m_spec_l06Nodes_R (m_spec_l06Nodes gas) x d left:=rfl
    have hkb:(x.kids.map coSize).sum≤4294967296:=by rw [coSize_eq,coSizeL_eq] at hb; omega
    have hpos:=coSize_eq x
    have hdp:=coDepth_eq x
    have hsh :∃y,m_spec_l06Shape x.kind=some y∧(inR (x.kids.length:Int) y.1 y.2.1 && (inR (x.data.length:Int) y.2.2.1 y.2.2.2 && ((match m_spec_l06Value x with|some b=>b|none=>false) && idxs x.data)))=coForm x:=by
      unfold m_spec_l06Shape m_spec_l06Value coForm
      simp -implicitDefEqProofs only [valEq x.kind,valEq x.value]
      by_cases k1:x.kind=1
      · refine ⟨_,by rw [k1]; rfl,?_⟩
        rw [k1]
        simp -implicitDefEqProofs only [decide_true,if_true,reduceIte,Int.reduceEq,decide_false,cond_true,cond_false,or_false,or_true,false_or,true_or,inR00,inR11,inR22,inR03,inR14]
        cases inR x.value 0 255 <;> cases decide (x.data.length=0) <;> cases decide (x.kids.length=0) <;> cases idxs x.data <;> rfl
      by_cases k2:x.kind=2
      · refine ⟨_,by rw [k2]; rfl,?_⟩
        rw [k2]
        simp -implicitDefEqProofs only [decide_true,if_true,reduceIte,Int.reduceEq,decide_false,cond_true,cond_false,or_false,or_true,false_or,true_or,inR00,inR11,inR22,inR03,inR14]
        cases inR x.value (-2147483648) 2147483647 <;> cases decide (x.data.length=0) <;> cases decide (x.kids.length=0) <;> cases idxs x.data <;> rfl
      by_cases k11:x.kind=11
      · refine ⟨_,by rw [k11]; rfl,?_⟩
        rw [k11]
        simp -implicitDefEqProofs only [decide_true,if_true,reduceIte,Int.reduceEq,decide_false,cond_true,cond_false,or_false,or_true,false_or,true_or,inR00,inR11,inR22,inR03,inR14]
        cases inR x.value 0 23 <;> cases decide (x.data.length=0) <;> cases decide (x.kids.length=0) <;> cases idxs x.data <;> rfl
      by_cases k3:x.kind=3
      · refine ⟨_,by rw [k3]; rfl,?_⟩
        rw [k3]
        simp -implicitDefEqProofs only [decide_true,if_true,reduceIte,Int.reduceEq,decide_false,cond_true,cond_false,or_false,or_true,false_or,true_or,inR00,inR11,inR22,inR03,inR14]
        cases inR x.value 1 6 <;> cases decide (x.data.length=0) <;> cases decide (x.kids.length=2) <;> cases idxs x.data <;> rfl
      by_cases k5:x.kind=5
      · refine ⟨_,by rw [k5]; rfl,?_⟩
        rw [k5]
        simp -implicitDefEqProofs only [decide_true,if_true,reduceIte,Int.reduceEq,decide_false,cond_true,cond_false,or_false,or_true,false_or,true_or,inR00,inR11,inR22,inR03,inR14]
        cases decide (x.value=0) <;> cases decide (x.data.length=0) <;> cases decide (x.kids.length=2) <;> cases idxs x.data <;> rfl
      by_cases k7:x.kind=7
      · refine ⟨_,by rw [k7]; rfl,?_⟩
        rw [k7]
        simp -implicitDefEqProofs only [decide_true,if_true,reduceIte,Int.reduceEq,decide_false,cond_true,cond_false,or_false,or_true,false_or,true_or,inR00,inR11,inR22,inR03,inR14]
        cases decide (x.value=0) <;> cases decide (x.data.length=0) <;> cases decide (x.kids.length=2) <;> cases idxs x.data <;> rfl
      by_cases k4:x.kind=4
      · refine ⟨_,by rw [k4]; rfl,?_⟩
        rw [k4]
        simp -implicitDefEqProofs only [decide_true,if_true,reduceIte,Int.reduceEq,decide_false,cond_true,cond_false,or_false,or_true,false_or,true_or,inR00,inR11,inR22,inR03,inR14]
        cases decide (x.value=0) <;> cases decide (x.data.length=0) <;> cases decide (x.kids.length=1) <;> cases idxs x.data <;> rfl
      by_cases k6:x.kind=6
      · refine ⟨_,by rw [k6]; rfl,?_⟩
        rw [k6]
        simp -implicitDefEqProofs only [decide_true,if_true,reduceIte,Int.reduceEq,decide_false,cond_true,cond_false,or_false,or_true,false_or,true_or,inR00,inR11,inR22,inR03,inR14]
        cases decide (x.value=0) <;> cases decide (x.data.length=0) <;> cases decide (x.kids.length=1) <;> cases idxs x.data <;> rfl
      by_cases k8:x.kind=8
      · refine ⟨_,by rw [k8]; rfl,?_⟩
        rw [k8]
        simp -implicitDefEqProofs only [decide_true,if_true,reduceIte,Int.reduceEq,decide_false,cond_true,cond_false,or_false,or_true,false_or,true_or,inR00,inR11,inR22,inR03,inR14]
        cases inR x.value 0 3 <;> cases decide (x.data.length=0) <;> cases decide (x.kids.length≤3) <;> cases idxs x.data <;> rfl
      by_cases k9:x.kind=9
      · refine ⟨_,by rw [k9]; rfl,?_⟩
        rw [k9]
        simp -implicitDefEqProofs only [decide_true,if_true,reduceIte,Int.reduceEq,decide_false,cond_true,cond_false,or_false,or_true,false_or,true_or,inR00,inR11,inR22,inR03,inR14]
        cases decide (x.value=0) <;> cases decide (1≤x.data.length) <;> cases decide (x.data.length≤4) <;> cases decide (x.kids.length=1) <;> cases idxs x.data <;> rfl
      by_cases k10:x.kind=10
      · refine ⟨_,by rw [k10]; rfl,?_⟩
        rw [k10]
        simp -implicitDefEqProofs only [decide_true,if_true,reduceIte,Int.reduceEq,decide_false,cond_true,cond_false,or_false,or_true,false_or,true_or,inR00,inR11,inR22,inR03,inR14]
        cases decide (x.value=0) <;> cases decide (x.data.length=2) <;> cases decide (x.kids.length=1) <;> cases idxs x.data <;> rfl
      refine ⟨_,by simp only [k1,k2,k3,k4,k6,k5,k7,k8,k9,k10,k11,decide_false,cond_false]; rfl,?_⟩
      simp [inRno,k1,k2,k3,k4,k6,k5,k7,k8,k9,k10,k11]
    have hval :∃b,m_spec_l06Value x=some b:=by
      unfold m_spec_l06Value
      cases x.kind==1 <;> cases x.kind==2 <;> cases x.kind==3 <;> cases x.kind==8 <;> cases x.kind==11 <;> exact ⟨_,rfl⟩
    obtain ⟨y,hy,hform⟩:=hsh
    obtain ⟨bv,hbv⟩:=hval
    rw [hbv] at hform
    simp only at hform
    rw [e]
    unfold m_spec_l06Nodes_R
    rw [hy,Option.bind_some,hbv,Option.bind_some]
    have hbad:coForm x=false→nodesC x d left = -1:=fun hf=>by
      unfold nodesC
      rw [coOk_eq,hf,Bool.false_and,if_neg (by simp)]
    by_cases hd:d < 1
    · rw [decide_eq_true hd,cond_true]
      unfold nodesC
      rw [if_neg (by omega)]
    rw [decide_eq_false hd,cond_false]
    by_cases hl:left < 1
    · rw [decide_eq_true hl,cond_true]
      unfold nodesC
      rw [if_neg (by omega)]
    rw [decide_eq_false hl,cond_false]
    have hs :∀z∈x.kids,∀m:Int,-4294967296≤m→m≤4294967296→m_spec_l06Nodes gas z (d - 1) m=some (nodesC z (d - 1) m):=fun z hz m hm0 hm1=>
      ih z (d - 1) m (by have:=DCore.kid_lt hz; omega) (by omega) (by omega) hm0 hm1 (by have:=sum_mem (f:=coSize) hz; omega)
    have hkids:=nodesL (L:=m_spec_l06Nodes_L2 x d left (m_spec_l06Nodes gas) m_spec_l06Nodes_A2) (fun g acc i=>rfl) (by omega) (by omega) hl1 hs hkb
    have hdata:=loopA (L:=m_spec_l06Nodes_L1 x (m_spec_l06Nodes_A1 x d left (m_spec_l06Nodes gas))) (d:=x.data) (p:=fun k=>inR k 0 23) (no:=some (-1)) (K:=m_spec_l06Nodes_A1 x d left (m_spec_l06Nodes gas))
      (fun g k hk=>by simp -implicitDefEqProofs only [m_spec_l06Nodes_L1,m_spec_l06Nodes_B1,dlt hk,cond_true,getI_lt hk,Option.bind_some])
      (fun g=>by simp -implicitDefEqProofs only [m_spec_l06Nodes_L1,m_spec_l06Nodes_B1,dge,cond_false])
    rw [hdata]
    unfold m_spec_l06Nodes_A1
    rw [hkids]
    have hfin:coForm x=true→nodesC x d left=(if (∀z∈x.kids,coOk z=true∧(coDepth z:Int)≤d - 1)∧1+((x.kids.map coSize).sum:Int)≤left then 1+((x.kids.map coSize).sum:Int) else -1):=fun hf=>by
      unfold nodesC
      rw [coOk_eq,hf,Bool.true_and,coOkL_eq,coSize_eq,coSizeL_eq,coDepth_eq]
      have hc:(x.kids.all coOk=true∧((coDepthL x.kids+1:Nat):Int)≤d∧((1+(x.kids.map coSize).sum:Nat):Int)≤left)↔((∀z∈x.kids,coOk z=true∧(coDepth z:Int)≤d - 1)∧1+((x.kids.map coSize).sum:Int)≤left):=by
        rw [List.all_eq_true]
        have hdl:=coDepthL_le x.kids (d - 1).toNat
        constructor
        · rintro ⟨a,b,c⟩
          refine ⟨fun z hz=>⟨a z hz,?_⟩,by omega⟩
          have:=hdl.1 (by omega) z hz
          omega
        · rintro ⟨a,c⟩
          refine ⟨fun z hz=>(a z hz).1,?_,by omega⟩
          have:=hdl.2 (fun z hz=>by have:=(a z hz).2; omega)
          omega
      rw [iteC hc]
      split <;> simp
    revert hform
    have hix:(x.data.all fun k=>inR k 0 23)=idxs x.data:=rfl
    rw [hix]
    cases h1:inR (x.kids.length:Int) y.1 y.2.1 <;> cases h2:inR (x.data.length:Int) y.2.2.1 y.2.2.2 <;> cases bv <;> cases h4:idxs x.data <;> intro hform <;> first
      |(rw [hbad hform.symm]; rfl)
      |(rw [hfin hform.symm]; rfl)
theorem p_sOkC (x:DCore) (hb:coSize x≤4294967296):m_spec_l06Ok x=some (validC x):=by
  unfold m_spec_l06Ok
  rw [p_sNodesC _ x 80 400 (Nat.le_refl _) (by decide) (by decide) (by decide) (by decide) hb,Option.bind_some]
  unfold nodesC validC
  have hp:=coSize_eq x
  congr 1
  by_cases h:coOk x=true∧(coDepth x:Int)≤80∧(coSize x:Int)≤400
  · rw [if_pos h,h.1,decide_eq_true (show coDepth x≤80 by omega),decide_eq_true (show coSize x≤400 by omega),decide_eq_true (by omega)]; rfl
  · rw [if_neg h]
    symm
    rw [show decide ((-1:Int) > 0)=false by decide,← Bool.not_eq_true]
    intro hh
    simp at hh
    exact h ⟨hh.1,by omega,by omega⟩
end
section
open Go.RowKit
theorem not_any_not {α:Type} (d:List α) (p:α→Bool):(!(d.any fun x=>!p x))=d.all p:=by
  rw [List.not_any_eq_all_not]
  simp
end
section
open Go.RowKit
def bndC (k:Int) (i:Nat):Int:=if k=4 then 1 else if k=7∧i=1 then 1 else 0
def abL (f:DCore→Int→Bool) (k:Int):List DCore→Nat→Int→Bool
  |[],_,_=>false
  |y :: ys,i,d=>f y (d+bndC k i)||abL f k ys (i+1) d
/-- Whether a term has a free variable of d or more. -/
def coAb:Nat→DCore→Int→Bool
  |0,_,_=>false
  |g+1,x,d=>if x.kind=1 then decide (d≤x.value) else abL (coAb g) x.kind x.kids 0 d
theorem bndC_le (k:Int) (i:Nat):0≤bndC k i∧bndC k i≤1:=by unfold bndC; split <;> (try split) <;> omega
theorem loopAb {L:Nat→Int→Option Bool} {ks:List DCore} {f:DCore→Int→Bool} {kd d:Int} {hit:Bool} (h :∀g (k:Nat) (hk:k < ks.length),L (g+1) (k:Int)=bif f ks[k] (d+bndC kd k) then some hit else L g ((k:Int)+1)) (he :∀g,L (g+1) (ks.length:Int)=some (!hit)):L (ks.length+1) 0=some (if abL f kd ks 0 d=true then hit else !hit):=by
  have key :∀(m k g:Nat),k+m=ks.length→m < g→L g (k:Int)=some (if abL f kd (ks.drop k) k d=true then hit else !hit):=by
    intro m
    induction m with
    |zero=>
      intro k g hk hg
      obtain ⟨g,rfl⟩ :∃g',g=g'+1:=⟨g - 1,by omega⟩
      rw [show k=ks.length by omega,he,List.drop_length]; rfl
    |succ m ih=>
      intro k g hk hg
      obtain ⟨g,rfl⟩ :∃g',g=g'+1:=⟨g - 1,by omega⟩
      have hl:k < ks.length:=by omega
      rw [h g k hl,List.drop_eq_getElem_cons hl,abL]
      cases hp:f ks[k] (d+bndC kd k) with
      |true=>rfl
      |false=>rw [cond_false,Bool.false_or,show ((k:Int)+1)=((k+1:Nat):Int) by omega]; exact ih (k+1) g (by omega) (by omega)
  have:=key ks.length 0 (ks.length+1) (by omega) (by omega)
  simpa using this
theorem kidDepth {x y:DCore} {m:Nat} (h:coDepth x≤m+1) (hy:y∈x.kids):coDepth y≤m:=by
  have e:=coDepth_eq x
  exact (coDepthL_le x.kids m).1 (by omega) y hy
theorem p_sBinds (x:DCore) (k:Nat):m_spec_l06Binds x (k:Int)=some (bndC x.kind k):=by
  unfold m_spec_l06Binds bndC
  rw [valEq x.kind,valEq x.kind]
  by_cases h4:x.kind=4
  · rw [decide_eq_true h4,if_pos h4]; rfl
  · rw [decide_eq_false h4,cond_false,if_neg h4]
    by_cases h7:x.kind=7
    · rw [decide_eq_true h7,cond_true,lnI1]
      by_cases hk:k=1
      · rw [decide_eq_true hk,if_pos ⟨h7,hk⟩]; rfl
      · rw [decide_eq_false hk,if_neg (fun h=>hk h.2)]; rfl
    · rw [decide_eq_false h7,cond_false,if_neg (fun h=>h7 h.1)]
theorem p_sAbove :∀(gas:Nat) (x:DCore) (d:Int) (m:Nat),SizeOf.sizeOf x≤gas→coDepth x≤m→0≤d→d+m≤9223372036854775807→m_spec_l06Above gas x d=some (coAb gas x d)
  |0,x,d,m,h,_,_,_=>by have:=x.pos; omega
  |gas+1,x,d,m,hg,hm,h0,h1=>by
    have e:m_spec_l06Above (gas+1) x d=m_spec_l06Above_R (m_spec_l06Above gas) x d:=rfl
    have ec:coAb (gas+1) x d=if x.kind=1 then decide (d≤x.value) else abL (coAb gas) x.kind x.kids 0 d:=rfl
    have hp:=coDepth_eq x
    obtain ⟨m,rfl⟩ :∃m',m=m'+1:=⟨m - 1,by omega⟩
    rw [e,ec]
    unfold m_spec_l06Above_R
    rw [valEq x.kind]
    by_cases hk:x.kind=1
    · rw [decide_eq_true hk,cond_true,if_pos hk]
    · rw [decide_eq_false hk,cond_false,if_neg hk]
      rw [loopAb (L:=m_spec_l06Above_L1 x d (m_spec_l06Above gas) m_spec_l06Above_A1) (ks:=x.kids) (f:=coAb gas) (kd:=x.kind) (d:=d) (hit:=true)
        (fun g k hk=>by
          have hb:=bndC_le x.kind k
          have hy:=List.getElem_mem hk
          simp -implicitDefEqProofs only [m_spec_l06Above_L1,m_spec_l06Above_B1,dlt hk,cond_true,getI_lt hk,Option.bind_some,p_sBinds,ck_ok (show -9223372036854775808≤d+bndC x.kind k∧d+bndC x.kind k≤9223372036854775807 by omega),p_sAbove gas x.kids[k] (d+bndC x.kind k) m (by have:=DCore.kid_lt hy; omega) (kidDepth hm hy) (by omega) (by omega)])
        (fun g=>by simp -implicitDefEqProofs only [m_spec_l06Above_L1,m_spec_l06Above_B1,dge,cond_false,m_spec_l06Above_A1,Bool.not_true])]
      cases abL (coAb gas) x.kind x.kids 0 d <;> rfl
theorem p_iBinds (x:DCore) (k:Nat):m_impl_Core_binds x (k:Int)=some (bndC x.kind k):=by
  unfold m_impl_Core_binds bndC m_impl_truth
  rw [valEq x.kind,valEq x.kind]
  by_cases h4:x.kind=4
  · rw [decide_eq_true h4,if_pos h4]; rfl
  · rw [decide_eq_false h4,cond_false,if_neg h4]
    by_cases h7:x.kind=7
    · rw [decide_eq_true h7,cond_true,lnI1]
      by_cases hk:k=1
      · rw [decide_eq_true hk,if_pos ⟨h7,hk⟩]; rfl
      · rw [decide_eq_false hk,if_neg (fun h=>hk h.2)]; rfl
    · rw [decide_eq_false h7,cond_false,if_neg (fun h=>h7 h.1)]; rfl
theorem varKids {x:DCore} (h:coOk x=true) (hk:x.kind=1):x.kids=[]:=by
  rw [coOk_eq] at h
  have hf:coForm x=true:=by revert h; cases coForm x <;> simp
  unfold coForm at hf
  rw [if_pos hk] at hf
  simp at hf
  exact hf.1.2.2
theorem okKids {x y:DCore} (h:coOk x=true) (hy:y∈x.kids):coOk y=true:=by
  rw [coOk_eq,coOkL_eq,Bool.and_eq_true] at h
  exact List.all_eq_true.1 h.2 y hy
theorem p_iClosedB :∀(gas:Nat) (x:DCore) (d:Int) (m:Nat),SizeOf.sizeOf x≤gas→coOk x=true→coDepth x≤m→0≤d→d+m≤9223372036854775807→m_impl_closedBelow gas x d=some (!coAb gas x d)
  |0,x,d,m,h,_,_,_,_=>by have:=x.pos; omega
  |gas+1,x,d,m,hg,ho,hm,h0,h1=>by
    have e:m_impl_closedBelow (gas+1) x d=m_impl_closedBelow_R (m_impl_closedBelow gas) x d:=rfl
    have ec:coAb (gas+1) x d=if x.kind=1 then decide (d≤x.value) else abL (coAb gas) x.kind x.kids 0 d:=rfl
    have hp:=coDepth_eq x
    obtain ⟨m,rfl⟩ :∃m',m=m'+1:=⟨m - 1,by omega⟩
    rw [e,ec]
    unfold m_impl_closedBelow_R
    rw [valEq x.kind]
    by_cases hk:x.kind=1
    · rw [decide_eq_true hk,cond_true,if_pos hk,varKids ho hk]
      by_cases hv:d≤x.value
      · rw [show decide (x.value ≥ d)=decide (d≤x.value) from rfl,decide_eq_true hv]; rfl
      · rw [show decide (x.value ≥ d)=decide (d≤x.value) from rfl,decide_eq_false hv,cond_false]
        have hl:x.kids.length=0:=by rw [varKids ho hk]; rfl
        show m_impl_closedBelow_L2 x d (m_impl_closedBelow gas) m_impl_closedBelow_A2 1 0=_
        simp -implicitDefEqProofs only [m_impl_closedBelow_L2,m_impl_closedBelow_B2,hl]
        rfl
    · rw [decide_eq_false hk,cond_false,if_neg hk]
      rw [loopAb (L:=m_impl_closedBelow_L1 x d (m_impl_closedBelow gas) m_impl_closedBelow_A1) (ks:=x.kids) (f:=coAb gas) (kd:=x.kind) (d:=d) (hit:=false)
        (fun g k hk=>by
          have hb:=bndC_le x.kind k
          have hy:=List.getElem_mem hk
          simp -implicitDefEqProofs only [m_impl_closedBelow_L1,m_impl_closedBelow_B1,dlt hk,cond_true,getI_lt hk,Option.bind_some,p_iBinds,ck_ok (show -9223372036854775808≤d+bndC x.kind k∧d+bndC x.kind k≤9223372036854775807 by omega),p_iClosedB gas x.kids[k] (d+bndC x.kind k) m (by have:=DCore.kid_lt hy; omega) (okKids ho hy) (kidDepth hm hy) (by omega) (by omega)]
          cases coAb gas x.kids[k] (d+bndC x.kind k) <;> rfl)
        (fun g=>by simp -implicitDefEqProofs only [m_impl_closedBelow_L1,m_impl_closedBelow_B1,dge,cond_false,m_impl_closedBelow_A1,Bool.not_false])]
      cases abL (coAb gas) x.kind x.kids 0 d <;> rfl
theorem p_contC {d:List DCore} {f:DCore→Option Bool} {p:DCore→Bool} (h :∀x∈d,f x=some (p x)):m_slices_ContainsFunc_impl_Core_impl_Core d f=some (d.any p):=by
  unfold m_slices_ContainsFunc_impl_Core_impl_Core m_slices_IndexFunc_impl_Core_impl_Core
  rw [idxK (L:=m_slices_IndexFunc_impl_Core_impl_Core_L1 d f m_slices_IndexFunc_impl_Core_impl_Core_A1) (d:=d) (p:=p)
    (fun g k hk=>by simp -implicitDefEqProofs only [m_slices_IndexFunc_impl_Core_impl_Core_L1,m_slices_IndexFunc_impl_Core_impl_Core_B1,dlt hk,cond_true,getI_lt hk,Option.bind_some,h _ (List.getElem_mem hk)])
    (fun g=>by simp -implicitDefEqProofs only [m_slices_IndexFunc_impl_Core_impl_Core_L1,m_slices_IndexFunc_impl_Core_impl_Core_B1,dge,cond_false,m_slices_IndexFunc_impl_Core_impl_Core_A1]) _ (Nat.lt_succ_self _)]
  rw [Option.bind_some,idxD_ge]
theorem p_contF {d:List DFrame} {f:DFrame→Option Bool} {p:DFrame→Bool} (h :∀x∈d,f x=some (p x)):m_slices_ContainsFunc_impl_Frame_impl_Frame d f=some (d.any p):=by
  unfold m_slices_ContainsFunc_impl_Frame_impl_Frame m_slices_IndexFunc_impl_Frame_impl_Frame
  rw [idxK (L:=m_slices_IndexFunc_impl_Frame_impl_Frame_L1 d f m_slices_IndexFunc_impl_Frame_impl_Frame_A1) (d:=d) (p:=p)
    (fun g k hk=>by simp -implicitDefEqProofs only [m_slices_IndexFunc_impl_Frame_impl_Frame_L1,m_slices_IndexFunc_impl_Frame_impl_Frame_B1,dlt hk,cond_true,getI_lt hk,Option.bind_some,h _ (List.getElem_mem hk)])
    (fun g=>by simp -implicitDefEqProofs only [m_slices_IndexFunc_impl_Frame_impl_Frame_L1,m_slices_IndexFunc_impl_Frame_impl_Frame_B1,dge,cond_false,m_slices_IndexFunc_impl_Frame_impl_Frame_A1]) _ (Nat.lt_succ_self _)]
  rw [Option.bind_some,idxD_ge]
/-- Whether a node meets q. -/
def anyC:Nat→(DCore→Bool)→DCore→Bool
  |0,_,_=>false
  |g+1,q,x=>q x||x.kids.any (anyC g q)
def erB (c:DCore):Bool:=decide (c.kind=6)||decide (c.kind=7)
def refB (n:Int) (c:DCore):Bool:=(decide (c.kind=11) && decide (n≤c.value))||c.data.any fun k=>decide (n≤k)
theorem p_any :∀(gas:Nat) (x:DCore) (f:DCore→Option Bool) (q:DCore→Bool),(∀y,f y=some (q y))→SizeOf.sizeOf x≤gas→m_impl_anyCore gas x f=some (anyC gas q x)
  |0,x,f,q,_,h=>by have:=x.pos; omega
  |gas+1,x,f,q,hf,hg=>by
    have e:m_impl_anyCore (gas+1) x f=(f x).bind fun y11=>bif y11 then some true else (m_slices_ContainsFunc_impl_Core_impl_Core x.kids (fun x0=>m_impl_anyCore gas x0 f)).bind fun y14=>some y14:=rfl
    have ec:anyC (gas+1) q x=(q x||x.kids.any (anyC gas q)):=rfl
    rw [e,ec,hf,Option.bind_some,p_contC (p:=anyC gas q) (fun y hy=>p_any gas y f q hf (by have:=DCore.kid_lt hy; omega)),Option.bind_some]
    cases q x <;> rfl
theorem p_sErased :∀(gas:Nat) (x:DCore),SizeOf.sizeOf x≤gas→m_spec_l06Erased gas x=some (!anyC gas erB x)
  |0,x,h=>by have:=x.pos; omega
  |gas+1,x,hg=>by
    have e:m_spec_l06Erased (gas+1) x=m_spec_l06Erased_R (m_spec_l06Erased gas) x:=rfl
    have ec:anyC (gas+1) erB x=(erB x||x.kids.any (anyC gas erB)):=rfl
    rw [e,ec]
    unfold m_spec_l06Erased_R erB
    rw [valEq x.kind,valEq x.kind,loopA (L:=m_spec_l06Erased_L1 x (m_spec_l06Erased gas) m_spec_l06Erased_A1) (d:=x.kids) (p:=fun y=>!anyC gas erB y) (no:=some false) (K:=some true)
      (fun g k hk=>by
        have hy:=List.getElem_mem hk
        simp -implicitDefEqProofs only [m_spec_l06Erased_L1,m_spec_l06Erased_B1,dlt hk,cond_true,getI_lt hk,Option.bind_some,p_sErased gas x.kids[k] (by have:=DCore.kid_lt hy; omega)])
      (fun g=>by simp -implicitDefEqProofs only [m_spec_l06Erased_L1,m_spec_l06Erased_B1,dge,cond_false,m_spec_l06Erased_A1])]
    rw [← List.not_any_eq_all_not]
    have ex:(anyC gas fun c=>decide (c.kind=6)||decide (c.kind=7))=anyC gas erB:=rfl
    rw [ex]
    cases decide (x.kind=6) <;> cases decide (x.kind=7) <;> cases x.kids.any (anyC gas erB) <;> rfl
theorem p_sRefs (n:Int) :∀(gas:Nat) (x:DCore),SizeOf.sizeOf x≤gas→m_spec_l06Refs gas x n=some (!anyC gas (refB n) x)
  |0,x,h=>by have:=x.pos; omega
  |gas+1,x,hg=>by
    have e:m_spec_l06Refs (gas+1) x n=m_spec_l06Refs_R (m_spec_l06Refs gas) x n:=rfl
    have ec:anyC (gas+1) (refB n) x=(refB n x||x.kids.any (anyC gas (refB n))):=rfl
    have K2:=loopA (L:=m_spec_l06Refs_L2 x n (m_spec_l06Refs gas) m_spec_l06Refs_A2) (d:=x.kids) (p:=fun y=>!anyC gas (refB n) y) (no:=some false) (K:=some true)
      (fun g k hk=>by
        have hy:=List.getElem_mem hk
        simp -implicitDefEqProofs only [m_spec_l06Refs_L2,m_spec_l06Refs_B2,dlt hk,cond_true,getI_lt hk,Option.bind_some,p_sRefs n gas x.kids[k] (by have:=DCore.kid_lt hy; omega)])
      (fun g=>by simp -implicitDefEqProofs only [m_spec_l06Refs_L2,m_spec_l06Refs_B2,dge,cond_false,m_spec_l06Refs_A2])
    have K4:=loopA (L:=m_spec_l06Refs_L4 x n (m_spec_l06Refs gas) m_spec_l06Refs_A4) (d:=x.kids) (p:=fun y=>!anyC gas (refB n) y) (no:=some false) (K:=some true)
      (fun g k hk=>by
        have hy:=List.getElem_mem hk
        simp -implicitDefEqProofs only [m_spec_l06Refs_L4,m_spec_l06Refs_B4,dlt hk,cond_true,getI_lt hk,Option.bind_some,p_sRefs n gas x.kids[k] (by have:=DCore.kid_lt hy; omega)])
      (fun g=>by simp -implicitDefEqProofs only [m_spec_l06Refs_L4,m_spec_l06Refs_B4,dge,cond_false,m_spec_l06Refs_A4])
    have hn :∀a:Int,(bif decide (n≤a) then some false else some true)=(bif !decide (n≤a) then some true else some false):=fun a=>by cases decide (n≤a) <;> rfl
    have K1:=loopA (L:=m_spec_l06Refs_L1 x n (m_spec_l06Refs_A1 x n (m_spec_l06Refs gas))) (d:=x.data) (p:=fun a=>!decide (n≤a)) (no:=some false) (K:=m_spec_l06Refs_A1 x n (m_spec_l06Refs gas))
      (fun g k hk=>by
        simp -implicitDefEqProofs only [m_spec_l06Refs_L1,m_spec_l06Refs_B1,dlt hk,cond_true,getI_lt hk,Option.bind_some,ge_iff_le]
        cases decide (n≤x.data[k]) <;> rfl)
      (fun g=>by simp -implicitDefEqProofs only [m_spec_l06Refs_L1,m_spec_l06Refs_B1,dge,cond_false])
    have K3:=loopA (L:=m_spec_l06Refs_L3 x n (m_spec_l06Refs_A3 x n (m_spec_l06Refs gas))) (d:=x.data) (p:=fun a=>!decide (n≤a)) (no:=some false) (K:=m_spec_l06Refs_A3 x n (m_spec_l06Refs gas))
      (fun g k hk=>by
        simp -implicitDefEqProofs only [m_spec_l06Refs_L3,m_spec_l06Refs_B3,dlt hk,cond_true,getI_lt hk,Option.bind_some,ge_iff_le]
        cases decide (n≤x.data[k]) <;> rfl)
      (fun g=>by simp -implicitDefEqProofs only [m_spec_l06Refs_L3,m_spec_l06Refs_B3,dge,cond_false])
    rw [e,ec]
    unfold m_spec_l06Refs_R
    rw [K1,K3]
    unfold m_spec_l06Refs_A1 m_spec_l06Refs_A3
    rw [K2,K4,← List.not_any_eq_all_not,← List.not_any_eq_all_not,valEq x.kind]
    have er:refB n x=((decide (x.kind=11) && decide (n≤x.value))||x.data.any fun k=>decide (n≤k)):=rfl
    rw [er]
    have eg:decide (x.value ≥ n)=decide (n≤x.value):=rfl
    rw [eg]
    cases decide (x.kind=11) <;> cases decide (n≤x.value) <;> cases (x.data.any fun k=>decide (n≤k)) <;> cases x.kids.any (anyC gas (refB n)) <;> rfl
theorem p_iNames (x:DCore) (n:Int):m_impl_namesOnly x n=some (!anyC (SizeOf.sizeOf x) (refB n) x):=by
  unfold m_impl_namesOnly
  rw [p_any _ x _ (refB n) (fun y=>?_) (Nat.le_refl _),Option.bind_some]
  unfold m_impl_namesOnly_1 refB
  have hc:=p_contains_int y.data (fun x0=>m_impl_namesOnly_1_1 x0 n) (fun k=>decide (n≤k)) (fun z _=>rfl)
  rw [hc,valEq y.kind]
  have eg:decide (y.value ≥ n)=decide (n≤y.value):=rfl
  rw [eg]
  cases decide (y.kind=11) <;> cases decide (n≤y.value) <;> rfl
theorem p_iErased (x:DCore) (hb:coSize x≤4294967296):m_impl_IsErased x=some (validC x && !anyC (SizeOf.sizeOf x) erB x):=by
  unfold m_impl_IsErased
  rw [p_iValidCore x hb,Option.bind_some,p_any _ x _ erB (fun y=>by unfold m_impl_IsErased_1 erB; rw [valEq y.kind,valEq y.kind]; cases decide (y.kind=6) <;> rfl) (Nat.le_refl _),Option.bind_some]
  cases validC x <;> rfl
theorem validC_depth {x:DCore} (h:validC x=true):coOk x=true∧coDepth x≤80:=by
  unfold validC at h
  simp at h
  exact ⟨h.1,h.2.1⟩
noncomputable def closC (x:DCore):Bool:=validC x && !coAb (SizeOf.sizeOf x) x 0
theorem p_sClosed (x:DCore) (hb:coSize x≤4294967296):m_spec_l06Closed x=some (closC x):=by
  unfold m_spec_l06Closed closC
  rw [p_sOkC x hb,Option.bind_some]
  cases hv:validC x with
  |false=>rfl
  |true=>rw [cond_true,p_sAbove _ x 0 80 (Nat.le_refl _) (validC_depth hv).2 (by decide) (by decide),Option.bind_some]; rfl
theorem p_iClosed (x:DCore) (hb:coSize x≤4294967296):m_impl_IsClosed x=some (closC x):=by
  unfold m_impl_IsClosed closC
  rw [p_iValidCore x hb,Option.bind_some]
  cases hv:validC x with
  |false=>rfl
  |true=>rw [cond_true,p_iClosedB _ x 0 80 (Nat.le_refl _) (validC_depth hv).1 (validC_depth hv).2 (by decide) (by decide),Option.bind_some]; rfl
/-- A valid book, and an erased one. -/
noncomputable def bookOk (b:DBook):Bool:=inR (b.defs.length:Int) 1 24 && b.defs.all fun x=>closC x && !anyC (SizeOf.sizeOf x) (refB (b.defs.length:Int)) x
noncomputable def bookD (b:DBook):Bool:=bookOk b && b.defs.all fun x=>!anyC (SizeOf.sizeOf x) erB x
theorem p_sBook (b:DBook) (hb :∀x∈b.defs,coSize x≤4294967296):m_spec_l09Book b=some (bookD b):=by
  have h1:m_spec_l06Book b=some (bookOk b):=by
    unfold m_spec_l06Book bookOk
    rw [loopA (L:=m_spec_l06Book_L1 b m_spec_l06Book_A1) (d:=b.defs) (p:=fun x=>closC x && !anyC (SizeOf.sizeOf x) (refB (b.defs.length:Int)) x) (no:=some false) (K:=some true)
      (fun g k hk=>by
        have hy:=List.getElem_mem hk
        simp -implicitDefEqProofs only [m_spec_l06Book_L1,m_spec_l06Book_B1,dlt hk,cond_true,getI_lt hk,Option.bind_some,p_sClosed _ (hb _ hy),p_sRefs (b.defs.length:Int) _ b.defs[k] (Nat.le_refl _)]
        cases closC b.defs[k] <;> cases anyC (SizeOf.sizeOf b.defs[k]) (refB (b.defs.length:Int)) b.defs[k] <;> rfl)
      (fun g=>by simp -implicitDefEqProofs only [m_spec_l06Book_L1,m_spec_l06Book_B1,dge,cond_false,m_spec_l06Book_A1])]
    cases inR (b.defs.length:Int) 1 24 <;> cases (b.defs.all fun x=>closC x && !anyC (SizeOf.sizeOf x) (refB (b.defs.length:Int)) x) <;> rfl
  unfold m_spec_l09Book bookD
  rw [h1,Option.bind_some,loopA (L:=m_spec_l09Book_L1 b m_spec_l09Book_A1) (d:=b.defs) (p:=fun x=>!anyC (SizeOf.sizeOf x) erB x) (no:=some false) (K:=some true)
      (fun g k hk=>by simp -implicitDefEqProofs only [m_spec_l09Book_L1,m_spec_l09Book_B1,dlt hk,cond_true,getI_lt hk,Option.bind_some,p_sErased _ b.defs[k] (Nat.le_refl _)])
      (fun g=>by simp -implicitDefEqProofs only [m_spec_l09Book_L1,m_spec_l09Book_B1,dge,cond_false,m_spec_l09Book_A1])]
  cases bookOk b <;> cases (b.defs.all fun x=>!anyC (SizeOf.sizeOf x) erB x) <;> rfl
theorem p_iBook (b:DBook) (hb :∀x∈b.defs,coSize x≤4294967296):m_impl_isErasedBook b=some (bookD b):=by
  have h1:m_impl_ValidBook b=some (bookOk b):=by
    unfold m_impl_ValidBook bookOk
    rw [p_contC (p:=fun x=>!(closC x && !anyC (SizeOf.sizeOf x) (refB (b.defs.length:Int)) x)) (fun x hx=>by
      unfold m_impl_ValidBook_1
      rw [p_iClosed x (hb x hx),p_iNames,Option.bind_some,Option.bind_some]
      cases closC x <;> rfl),Option.bind_some,not_any_not]
    have i1:decide ((b.defs.length:Int) < 1) = !decide (1≤(b.defs.length:Int)):=by rw [Bool.eq_iff_iff]; simp
    have i2:decide ((b.defs.length:Int) > 24) = !decide ((b.defs.length:Int)≤24):=by rw [Bool.eq_iff_iff]; simp
    rw [i1,i2]
    unfold inR
    cases decide (1≤(b.defs.length:Int)) <;> cases decide ((b.defs.length:Int)≤24) <;> rfl
  unfold m_impl_isErasedBook bookD
  rw [h1,Option.bind_some,p_contC (p:=fun x=>!(validC x && !anyC (SizeOf.sizeOf x) erB x)) (fun x hx=>by
      unfold m_impl_isErasedBook_1
      rw [p_iErased x (hb x hx),Option.bind_some]),Option.bind_some,not_any_not]
  cases ho:bookOk b with
  |false=>rfl
  |true=>
    rw [cond_true,Bool.true_and]
    congr 1
    rw [Bool.eq_iff_iff,List.all_eq_true,List.all_eq_true]
    unfold bookOk at ho
    rw [Bool.and_eq_true,List.all_eq_true] at ho
    have hv :∀x∈b.defs,validC x=true:=fun x hx=>by
      have:=ho.2 x hx
      unfold closC at this
      simp at this
      exact this.1.1
    constructor
    · intro h x hx
      have:=h x hx
      rw [hv x hx,Bool.true_and] at this
      exact this
    · intro h x hx
      rw [hv x hx,Bool.true_and]
      exact h x hx
theorem etaC (x:DCore):(⟨x.kind,x.value,x.data,x.kids⟩:DCore)=x:=by cases x; rfl
/-- A valid closure beside a book of n definitions and a heap. -/
noncomputable def closD (n heap:Int) (c:DClosure):Bool:=
  ((validC c.term && !anyC (SizeOf.sizeOf c.term) erB c.term) && (!anyC (SizeOf.sizeOf c.term) (refB n) c.term && !coAb (SizeOf.sizeOf c.term) c.term (c.env.length:Int))) && (decide (c.env.length≤256) && c.env.all fun a=>inR a 0 (heap - 1))
theorem p_sClosD (b:DBook) (c:DClosure) (heap:Int) (hb:coSize c.term≤4294967296) (he:c.env.length≤1048576) (h0:0≤heap) (h1:heap≤1048576):m_spec_l09Closure b c heap=some (closD (b.defs.length:Int) heap c):=by
  unfold m_spec_l09Closure closD
  rw [p_sOkC _ hb,Option.bind_some]
  cases hv:validC c.term with
  |false=>rfl
  |true=>
    rw [p_sErased _ _ (Nat.le_refl _),p_sRefs _ _ _ (Nat.le_refl _),p_sAbove _ _ (c.env.length:Int) 80 (Nat.le_refl _) (validC_depth hv).2 (by omega) (by omega),Option.bind_some,Option.bind_some,Option.bind_some]
    rw [loopA (L:=m_spec_l09Closure_L1 c heap m_spec_l09Closure_A1) (d:=c.env) (p:=fun a=>inR a 0 (heap - 1)) (no:=some false) (K:=some true)
      (fun g k hk=>by simp -implicitDefEqProofs only [m_spec_l09Closure_L1,m_spec_l09Closure_B1,dlt hk,cond_true,getI_lt hk,Option.bind_some,ck_ok (show -9223372036854775808≤heap - 1∧heap - 1≤9223372036854775807 by omega)])
      (fun g=>by simp -implicitDefEqProofs only [m_spec_l09Closure_L1,m_spec_l09Closure_B1,dge,cond_false,m_spec_l09Closure_A1])]
    have i2:decide ((c.env.length:Int) > 256) = !decide (c.env.length≤256):=by rw [Bool.eq_iff_iff]; simp; omega
    rw [i2]
    cases anyC (SizeOf.sizeOf c.term) erB c.term <;> cases anyC (SizeOf.sizeOf c.term) (refB (b.defs.length:Int)) c.term <;> cases coAb (SizeOf.sizeOf c.term) c.term (c.env.length:Int) <;> cases decide (c.env.length≤256) <;> cases (c.env.all fun a=>inR a 0 (heap - 1)) <;> rfl
theorem p_iAddr (m:DNeed) (a:Int):m_impl_Need_isAddress m a=some (inR a 0 ((m.heap.length:Int) - 1)):=by
  unfold m_impl_Need_isAddress inR
  have e1:decide (a ≥ 0)=decide (0≤a):=rfl
  have e2:decide (a < (m.heap.length:Int))=decide (a≤(m.heap.length:Int) - 1):=decide_eq_decide.2 (by omega)
  rw [e1,e2]
  cases decide (0≤a) <;> rfl
theorem p_iClosD (m:DNeed) (b:DBook) (c:DClosure) (hb:coSize c.term≤4294967296) (he:c.env.length≤1048576):m_impl_Need_validClosure m b c=some (closD (b.defs.length:Int) (m.heap.length:Int) c):=by
  unfold m_impl_Need_validClosure closD
  rw [etaC,p_iErased _ hb,Option.bind_some]
  cases hv:validC c.term with
  |false=>rfl
  |true=>
    have hc:=p_contains_int c.env (fun x0=>m_impl_Need_validClosure_1 x0 m) (fun a=>!inR a 0 ((m.heap.length:Int) - 1)) (fun z _=>by unfold m_impl_Need_validClosure_1; rw [p_iAddr,Option.bind_some])
    rw [p_iNames,p_iClosedB _ _ (c.env.length:Int) 80 (Nat.le_refl _) (validC_depth hv).1 (validC_depth hv).2 (by omega) (by omega),hc,Option.bind_some,Option.bind_some,Option.bind_some,not_any_not]
    have i2:decide ((c.env.length:Int) > 256) = !decide (c.env.length≤256):=by rw [Bool.eq_iff_iff]; simp; omega
    rw [i2]
    cases anyC (SizeOf.sizeOf c.term) erB c.term <;> cases anyC (SizeOf.sizeOf c.term) (refB (b.defs.length:Int)) c.term <;> cases coAb (SizeOf.sizeOf c.term) c.term (c.env.length:Int) <;> cases decide (c.env.length≤256) <;> cases (c.env.all fun a=>inR a 0 ((m.heap.length:Int) - 1)) <;> rfl
end
section
open Go.RowKit Go.ChangeShapes
/-- An own slice of numbers, wherever it begins in its block. -/
def OwQ (w:World) (lo:Nat) (v:Value) (xs:List Int):Prop:=
  (v=.slice none 0 0∧xs=[]) ∨∃g off cap,v=.slice (some ⟨g,off,none⟩) xs.length cap∧lo≤g∧g < w.heap.size∧xs.length≤cap∧cap≤maxLen∧(∀j,j < cap→(w.cell? ⟨g,off+j,none⟩).isSome=true∧w.frozen? ⟨g,off+j,none⟩=false)∧∀j u,(xs.flatMap encI)[j]? = some u→w.cell? ⟨g,off+j,none⟩=some u
section
variable {w w' : World} {lo : Nat} {v v' : Value} {xs : List Int} {c : Nat} {A : Option Addr}
theorem OwQ.nil:OwQ w lo (.slice none 0 0) []:=.inl ⟨rfl,rfl⟩
theorem flI (xs:List Int):(xs.flatMap encI).length=xs.length:=by induction xs with|nil=>rfl|cons x xs ih=>simp [encI,ih]
theorem flIget (xs:List Int) (j:Nat):(xs.flatMap encI)[j]? = xs[j]?.map (Value.int .i64):=by
  induction xs generalizing j with
  |nil=>simp
  |cons x xs ih=>cases j with
    |zero=>simp [encI]
    |succ j=>simp [encI,ih]
theorem OwQ.same (h:OwQ w lo v xs) (hs:w.heap.size≤w'.heap.size) (hb :∀b,v.ownBlock=some b→w'.heap[b]? = w.heap[b]?):OwQ w' lo v xs:=by
  rcases h with h|⟨g,off,cap,rfl,h1,h2,h3,h4,h5,h6⟩
  · exact .inl h
  · have hg:=hb g rfl
    refine .inr ⟨g,off,cap,rfl,h1,Nat.lt_of_lt_of_le h2 hs,h3,h4,fun j hj=>?_,fun j u hj=>?_⟩
    · rw [World.cell?_of_block (a:=⟨g,off+j,none⟩) hg,World.frozen?_of_block (a:=⟨g,off+j,none⟩) hg]; exact h5 j hj
    · rw [World.cell?_of_block (a:=⟨g,off+j,none⟩) hg]; exact h6 j u hj
theorem OwQ.lt (h:OwQ w lo v xs) :∀b,v.ownBlock=some b→lo≤b∧b < w.heap.size:=by
  rcases h with ⟨rfl,_⟩|⟨g,off,cap,rfl,h1,h2,_⟩
  · intro b hb; cases hb
  · intro b hb; cases hb; exact ⟨h1,h2⟩
theorem OwQ.form (h:OwQ w lo v xs) :∃A c,v=.slice A xs.length c:=by
  rcases h with ⟨rfl,rfl⟩|⟨g,off,cap,rfl,_⟩
  · exact ⟨none,0,rfl⟩
  · exact ⟨_,_,rfl⟩
theorem OwQ.head {x:Int} (h:OwQ w lo v (x :: xs)) :∃g off cap,v=.slice (some ⟨g,off,none⟩) (xs.length+1) cap∧xs.length+1≤cap∧w.cell? ⟨g,off,none⟩=some (.int .i64 x)∧∀Av,(if cap=1 then (some ⟨g,off,none⟩:Option Addr) else (some ⟨g,off,none⟩:Option Addr).map (·.add (1 * 1)))=Av→(Value.slice Av (xs.length+1 - 1) (cap - 1)).ownBlock=some g∧OwQ w lo (.slice Av (xs.length+1 - 1) (cap - 1)) xs:=by
  rcases h with ⟨_,h⟩|⟨g,off,cap,rfl,h1,h2,h3,h4,h5,h6⟩
  · cases h
  · refine ⟨g,off,cap,rfl,by simpa using h3,by simpa using h6 0 (.int .i64 x) (by simp [encI]),?_⟩
    intro Av e
    simp only [List.length_cons] at h3
    by_cases hc:cap=1
    · rw [if_pos hc] at e
      subst e
      have hx:xs=[]:=List.eq_nil_of_length_eq_zero (by omega)
      subst hx
      subst hc
      exact ⟨rfl,.inr ⟨g,off,0,rfl,h1,h2,Nat.le_refl _,Nat.zero_le _,fun j hj=>absurd hj (Nat.not_lt_zero _),fun j u hj=>by simp at hj⟩⟩
    · rw [if_neg hc] at e
      subst e
      refine ⟨rfl,.inr ⟨g,off+1,cap - 1,rfl,h1,h2,by omega,by omega,fun j hj=>?_,fun j u hj=>?_⟩⟩
      · have:=h5 (j+1) (by omega)
        rwa [show off+(j+1)=off+1+j by omega] at this
      · have:=h6 (j+1) u (by rw [flIget] at hj ⊢; simpa using hj)
        rwa [show off+(j+1)=off+1+j by omega] at this
theorem OwQ.of {k:Nat} (h:w.ownsRow lo 2 1 v k (xs.flatMap encI)):OwQ w lo v xs:=by
  have hl:=h.1
  rw [flI] at hl
  rcases h.2 with ⟨rfl,rfl⟩|⟨g,cap,cur,rfl,h1,h2,h3,h4,h5,h6⟩
  · exact .inl ⟨rfl,List.eq_nil_of_length_eq_zero (by omega)⟩
  · have hk:k=xs.length:=by omega
    subst hk
    have hcell :∀j,w.cell? ⟨g,0+j,none⟩=cur[j]?:=fun j=>by rw [Nat.zero_add]; simp [World.cell?,h2]
    refine .inr ⟨g,0,cap,rfl,h1,(Array.getElem?_eq_some_iff.1 h2).1,h3,h4,fun j hj=>⟨?_,?_⟩,fun j u hj=>?_⟩
    · rw [hcell,Array.getElem?_eq_getElem (by omega)]; rfl
    · simp [World.frozen?,h2]
    · rw [hcell,← Array.getElem?_toList]
      have hj':=hj
      rw [← h6] at hj'
      rw [List.getElem?_take] at hj'
      split at hj'
      · exact hj'
      · cases hj'
end
section
variable {P : Program} {ops : Array Oper} {f : Nat → Value} {rest : List Oper} {Q : (Nat → Value) → World → Prop} {w : World} {d : Option Tmp} {ty : TypeId} {pos : String} {af : Array Edge} {g : Option (Nat × Bool)} {x y : Operand} {t : TypeId} {z : Value} {bb : Nat}
theorem RL.appendQ {v:Value} {k:Nat} {xs:List Int} {a:Int} {lo:Nat} (A:AppT P t 2 z 1 bb) (hg:wantF f ops ⟨d,.call ⟨.builtin .append,#[x,y],#[t,t]⟩,ty,pos,af,g⟩=true)
    (hx:ev f x=v) (hy:ev f y=.slice (some ⟨k,0,none⟩) 1 1) (hc:w.cell? ⟨k,0,none⟩=some (.int .i64 a)) (hv:OwQ w lo v xs) (hlo:lo≤w.heap.size) (hk:xs.length+1≤4294967296)
    (h :∀v' w1,OwQ w1 lo v' (xs ++ [a])→w.grownBy w1 v.ownBlock→Below lo w w1→(∀b,v'.ownBlock=some b→v.ownBlock=some b ∨ w.heap.size≤b)→RL P ops Q rest (upo f d v') w1):RL P ops Q (⟨d,.call ⟨.builtin .append,#[x,y],#[t,t]⟩,ty,pos,af,g⟩ :: rest) f w:=by
  have hrun :∀v' w1,(Builtin.append_ #[t,t] ty #[v,.slice (some ⟨k,0,none⟩) 1 1]).run P w=.ok v' w1→(execOp (ev f) ⟨d,.call ⟨.builtin .append,#[x,y],#[t,t]⟩,ty,pos,af,g⟩).run P w=.ok (.value v') w1:=fun v' w1 h0=>by
    simp [execOp,resolve,invoke,builtin,hx,hy,h0]
  obtain ⟨i0,hi,hz0,hz1,hz2⟩:=info_parts A.info
  have hnews :∀j u,([a].flatMap encI)[j]? = some u→w.cell? ((⟨k,0,none⟩:Addr).add j)=some u:=fun j u hj=>by
    rcases j with _|j
    · simp [encI] at hj; subst hj; exact hc
    · simp [encI] at hj
  have hl:([a].flatMap encI).length=1 * 1:=rfl
  have h1c :∀u∈[a].flatMap encI,u.oneCell'=true:=fun u hu=>by simp [encI] at hu; subst hu; rfl
  have fin :∀v' w1,(Builtin.append_ #[t,t] ty #[v,.slice (some ⟨k,0,none⟩) 1 1]).run P w=.ok v' w1→OwQ w1 lo v' (xs ++ [a])→w.grownBy w1 v.ownBlock→(∀b,v'.ownBlock=some b→v.ownBlock=some b ∨ w.heap.size≤b)→RL P ops Q (⟨d,.call ⟨.builtin .append,#[x,y],#[t,t]⟩,ty,pos,af,g⟩ :: rest) f w:=fun v' w1 h0 h1 h2 h3=>by
    refine .inl ⟨hg,?_⟩
    rw [hrun v' w1 h0]
    exact h v' w1 h1 h2 ((Below.refl lo w).grown h2 hlo (fun b hb=>(hv.lt b hb).1)) h3
  have hmx:xs.length+1≤maxLen:=by unfold maxLen; omega
  have hby:(xs.length+1) * bb≤140737488355328:=Nat.le_trans (Nat.mul_le_mul hk A.bb) (by decide)
  have hv0:=hv
  rcases hv with ⟨rfl,rfl⟩|⟨b,off,cap,rfl,hb1,hb2,hb3,hb4,hb5,hb6⟩
  · obtain ⟨v',w1,h0,hr,h3,h4⟩:=append_own2 A (by decide) (World.ownsRow_nil w lo 2 1) hlo ⟨k,0,none⟩ 1 1 ([a].flatMap encI) hl hnews h1c (by omega) ty
    exact fin v' w1 h0 (OwQ.of (by simpa using hr)) h3 h4
  · by_cases hroom:xs.length+1≤cap
    · have hsz:i0.size=1:=hz1
      have hspare :∀j,j < ([a].flatMap encI).length→(w.cell? ⟨b,off+xs.length * i0.size+j,none⟩).isSome=true∧w.frozen? ⟨b,off+xs.length * i0.size+j,none⟩=false:=fun j hj=>by
        rw [hsz,Nat.mul_one,Nat.add_assoc]
        exact hb5 _ (by simp [encI] at hj; omega)
      have h0:=run_append_room_cells (P:=P) (w:=w) t ty 2 i0 A.und hi b off xs.length cap ⟨k,0,none⟩ 1 1 ([a].flatMap encI) (by rw [hsz]; rfl) hnews h1c hroom (fun j hj=>(hspare j hj).1) (fun j hj=>(hspare j hj).2)
      have hkb:=World.keptBut_setCells b (may:=fun p=>∃j,p=.cell b j) ([a].flatMap encI) (off+xs.length * i0.size) w (fun j _=>⟨_,rfl⟩)
      have hbl :∀m,m < w.heap.size→m ≠ b→(w.setCells b (off+xs.length * i0.size) ([a].flatMap encI)).heap[m]? = w.heap[m]?:=fun m hm hne=>(World.keptBut_setCells b (may:=fun p=>p.block=b) ([a].flatMap encI) (off+xs.length * i0.size) w (fun _ _=>rfl)).block hm (fun _ hp e=>hne (e.symm.trans hp))
      have hin:=World.cell?_setCells_in b ([a].flatMap encI) (off+xs.length * i0.size) w (fun j hj=>(hspare j hj).1)
      have hsz2:(w.setCells b (off+xs.length * i0.size) ([a].flatMap encI)).heap.size=w.heap.size:=by simp [World.setCells,encI]
      refine fin _ _ h0 ?_ ⟨hkb.1,?_,hkb.2.1,Nat.le_of_eq hsz2.symm,fun m hm hne=>hbl m hm (fun e=>hne (by rw [e]; rfl))⟩ (fun m hm=>.inl hm)
      · refine .inr ⟨b,off,cap,by simp,hb1,by rw [hsz2]; exact hb2,by simpa using hroom,hb4,fun j hj=>⟨?_,?_⟩,fun j u hj=>?_⟩
        · by_cases hjj:j=xs.length
          · have:=hin 0 (by simp [encI])
            rw [hsz,Nat.mul_one,Nat.add_zero] at this
            rw [hsz,Nat.mul_one,hjj,this]; rfl
          · rw [World.cell?_setCells_out b _ _ w ⟨b,off+j,none⟩ (fun _ _=>by rw [hsz]; simp [encI]; omega)]
            exact (hb5 j hj).1
        · rw [World.frozen?_setCells]; exact (hb5 j hj).2
        · rw [flIget] at hj
          by_cases hjj:j=xs.length
          · subst hjj
            have:=hin 0 (by simp [encI])
            rw [hsz,Nat.mul_one,Nat.add_zero] at this
            simp at hj
            subst hj
            rw [hsz,Nat.mul_one,this]; rfl
          · have hlt:j < xs.length:=by
              have:=lt_of_some (show (xs ++ [a])[j]? = some _ from (Option.map_eq_some_iff.1 hj).choose_spec.1)
              simp at this; omega
            rw [World.cell?_setCells_out b _ _ w ⟨b,off+j,none⟩ (fun _ _=>by rw [hsz]; simp [encI]; omega)]
            exact hb6 j u (by rw [flIget]; rw [List.getElem?_append_left hlt] at hj; exact hj)
      · simp [World.setCells,encI]
    · have holds :∀j u,(xs.flatMap encI)[j]? = some u→w.cell? ((⟨b,off,none⟩:Addr).add j)=some u:=fun j u hj=>by rw [Addr.add_eq]; exact hb6 j u hj
      obtain ⟨v',w1,h0,hr,hgr⟩:=run_append_arg_grows (P:=P) (w:=w) t ty 2 i0 z 1 bb A.und hi hz0 hz1 hz2 A.zs (by decide) ⟨b,off,none⟩ xs.length cap (xs.flatMap encI) (by rw [flI]; omega) holds ⟨k,0,none⟩ 1 1 ([a].flatMap encI) hl hnews (by omega) hmx hby
      have hq:OwQ w1 w.heap.size v' (xs ++ [a]):=OwQ.of (k:=xs.length+1) (by rw [List.flatMap_append]; exact hr)
      refine fin v' w1 h0 ?_ ⟨hgr.os,hgr.tape,hgr.output,hgr.size,fun m hm _=>hgr.block m hm (by simp)⟩ (fun m hm=>.inr (hq.lt m hm).1)
      rcases hq with hq|⟨g2,o2,c2,e,hq1,r⟩
      · exact .inl hq
      · exact .inr ⟨g2,o2,c2,e,Nat.le_trans hlo hq1,r⟩
end
end
section
open Go.RowKit
set_option maxRecDepth 100000
/-- The blocks that mark writes to. -/
def Sx (go gq:Nat) (vo vq:Value) (b:Nat):Prop:=b=go ∨ b=gq ∨ vo.ownBlock=some b ∨ vq.ownBlock=some b
/-- All blocks but some stay. -/
structure Fq (S:Nat→Prop) (w w':World):Prop where
  size:w.heap.size≤w'.heap.size
  block :∀b,b < w.heap.size→¬ S b→w'.heap[b]? = w.heap[b]?
/-- The captured variables: the cell go holds the marks vo, the cell gq the queue vq; all of the call's own. -/
structure MkS (w w':World) (go gq:Nat) (vo vq:Value) (l:List Bool) (q:List Int):Prop where
  bo:Blk w' go 122 #[vo]
  bq:Blk w' gq 60 #[vq]
  ho:OwF 4 encB 1 w' w.heap.size vo l
  hq:OwQ w' w.heap.size vq q
  lgo:w.heap.size≤go
  lgq:w.heap.size≤gq
  ne:go ≠ gq
  o1:vo.ownBlock ≠ some go
  o2:vo.ownBlock ≠ some gq
  q1:vq.ownBlock ≠ some go
  q2:vq.ownBlock ≠ some gq
  dj :∀b,vq.ownBlock=some b→vo.ownBlock ≠ some b
  T:Below w.heap.size w w'
section
variable {w w1 w2 w3 : World} {go gq : Nat} {vo vq v' : Value} {l l' : List Bool} {q q' : List Int} {S : Nat → Prop} {b : Nat}
theorem Fq.refl:Fq S w w:=⟨Nat.le_refl _,fun _ _ _=>rfl⟩
theorem Fq.below (F:Fq S w w1) (hb:Below w1.heap.size w1 w2):Fq S w w2:=⟨Nat.le_trans F.size hb.size,fun k hk hn=>(hb.block k (Nat.lt_of_lt_of_le hk F.size)).trans (F.block k hk hn)⟩
theorem Fq.only (F:Fq S w w1) (ho:Only [b] w1 w2) (h:S b ∨ w.heap.size≤b):Fq S w w2:=⟨Nat.le_trans F.size (Nat.le_of_eq ho.size.symm),fun k hk hn=>(ho.block k (by
  intro hin; simp at hin; subst hin
  rcases h with h|h
  · exact hn h
  · omega)).trans (F.block k hk hn)⟩
theorem Fq.grown (F:Fq S w w1) (hg:w1.grownBy w2 vq.ownBlock) (h :∀k,vq.ownBlock=some k→S k ∨ w.heap.size≤k):Fq S w w2:=⟨Nat.le_trans F.size hg.size,fun k hk hn=>(hg.block k (Nat.lt_of_lt_of_le hk F.size) (fun e=>by
  rcases h k e.symm with h|h
  · exact hn h
  · omega)).trans (F.block k hk hn)⟩
theorem MkS.below (M:MkS w w1 go gq vo vq l q) (hb:Below w1.heap.size w1 w2):MkS w w2 go gq vo vq l q:=
  ⟨blkT M.bo hb,blkT M.bq hb,OwF.below M.ho hb,M.hq.same hb.size (fun k hk=>hb.block k (M.hq.lt k hk).2),M.lgo,M.lgq,M.ne,M.o1,M.o2,M.q1,M.q2,M.dj,Tt M.T hb⟩
theorem MkS.storeO (M:MkS w w1 go gq vo vq l q) (hv:vo.ownBlock=some b) (ho:Only [b] w1 w2) (G:OwF 4 encB 1 w2 w.heap.size vo l'):MkS w w2 go gq vo vq l' q:=
  have hne :∀k,k ≠ b→w2.heap[k]? = w1.heap[k]?:=fun k hk=>ho.block k (by simpa using hk)
  ⟨(hne go (fun e => M.o1 (by rw [hv, e]))).trans M.bo, (hne gq (fun e => M.o2 (by rw [hv, e]))).trans M.bq, G, M.hq.same (Nat.le_of_eq ho.size.symm) (fun k hk => hne k (fun e => M.dj k hk (by rw [hv, e]))), M.lgo, M.lgq, M.ne, M.o1, M.o2, M.q1, M.q2, M.dj,
   M.T.trans (ho.below (by intro k hk; simp at hk; subst hk; exact (M.ho.lt k hv).1))⟩
theorem MkS.storeQ (M:MkS w w1 go gq vo vq l q) (ho:Only [gq] w1 w2) (B:Blk w2 gq 60 #[v']) (G:OwQ w1 w.heap.size v' q') (hv :∀k,v'.ownBlock=some k→vq.ownBlock=some k):MkS w w2 go gq vo v' l q':=
  have hne :∀k,k ≠ gq→w2.heap[k]? = w1.heap[k]?:=fun k hk=>ho.block k (by simpa using hk)
  ⟨(hne go M.ne).trans M.bo, B, OwF.only M.ho ho M.o2, G.same (Nat.le_of_eq ho.size.symm) (fun k hk => hne k (fun e => M.q2 (by rw [hv k hk, e]))), M.lgo, M.lgq, M.ne, M.o1, M.o2, fun e => M.q1 (hv _ e), fun e => M.q2 (hv _ e), fun k hk => M.dj k (hv k hk),
   M.T.trans (ho.below (by intro k hk; simp at hk; subst hk; exact M.lgq))⟩
theorem MkS.push (M:MkS w w1 go gq vo vq l q) (hg:w1.grownBy w2 vq.ownBlock) (hbl:Below w.heap.size w1 w2) (G:OwQ w2 w.heap.size v' q') (hn :∀k,v'.ownBlock=some k→vq.ownBlock=some k ∨ w1.heap.size≤k) (ho:Only [gq] w2 w3) (B:Blk w3 gq 60 #[v']):MkS w w3 go gq vo v' l q':=
  have hne :∀k,k ≠ gq→w3.heap[k]? = w2.heap[k]?:=fun k hk=>ho.block k (by simpa using hk)
  have hgo:vo.ownBlock=none ∨ vo.ownBlock ≠ vq.ownBlock:=by
    cases hv:vo.ownBlock with
    |none=>exact .inl rfl
    |some k=>exact .inr (fun e=>M.dj k e.symm hv)
  ⟨(hne go M.ne).trans (Blk.kept M.bo hg M.q1),B,OwF.only (OwF.kept M.ho hg hgo) ho M.o2,G.same (Nat.le_of_eq ho.size.symm) (fun k hk=>hne k (fun e=>by
      rcases hn k hk with h|h
      · exact M.q2 (by rw [h,e])
      · have:=M.bq.lt; omega)),M.lgo,M.lgq,M.ne,M.o1,M.o2,
   fun e => by
      rcases hn _ e with h|h
      · exact M.q1 h
      · have:=M.bo.lt; omega,
   fun e => by
      rcases hn _ e with h|h
      · exact M.q2 h
      · have:=M.bq.lt; omega,
   fun k hk => by
      rcases hn k hk with h|h
      · exact M.dj k h
      · intro e; have:=(M.ho.lt k e).2; omega,
   (M.T.trans hbl).trans (ho.below (by intro k hk; simp at hk; subst hk; exact M.lgq))⟩
end
/-- What mark does: for each address not yet marked, it marks it and puts it into the queue. -/
def mkM:List Int→List Bool→List Int→Option (List Bool × List Int)
  |[],l,q=>some (l,q)
  |a :: xs,l,q=>(getI l a).bind fun b=>bif b then mkM xs l q else (mustP (q.length+1≤4294967296)).bind fun _=>mkM xs (setI l a true) (q ++ [a])
theorem c_mark (d0:List Int) (l:List Bool) (q:List Int) (r:List Bool × List Int) (hm:mkM d0 l q=some r) (w ws:World) (go gq:Nat) (vo vq:Value) (Aa0:Option Addr) (ca0:Nat) (M:MkS w ws go gq vo vq l q)
    (ha0:SlAt intRd 1 ws ws.heap.size Aa0 d0.length d0) (ra0:d0.length≤ca0∧ca0≤maxLen) (hA:0 < d0.length→∀b o,Aa0=some ⟨b,o,none⟩→¬ Sx go gq vo vq b) :
    Calls Tryz.prog 124 #[.slice Aa0 d0.length ca0,.pointer (some ⟨go,0,none⟩),.pointer (some ⟨gq,0,none⟩)] ws fun e w'=>e=.returned (.tuple #[])∧∃vq',MkS w w' go gq vo vq' r.1 r.2∧Fq (Sx go gq vo vq) ws w'∧∀b,vq'.ownBlock=some b→vq.ownBlock=some b ∨ ws.heap.size≤b:=by
  have qa0:=len_le ra0
  obtain ⟨Ap,cp,hvo⟩:=OwF.form M.ho
  subst hvo
  refine enter 25 Tryz.func124 rfl rfl rfl ?_
  intro f hf
  have s0:f 0=.slice Aa0 d0.length ca0:=hf 0 _ rfl
  have s1:f 1=.pointer (some ⟨go,0,none⟩):=hf 1 _ rfl
  have s2:f 2=.pointer (some ⟨gq,0,none⟩):=hf 2 _ rfl
  refine wp_seq ?_
  refine wp_rs rfl ?_
  refine RQ.y rfl (Y.move (v:=.slice Aa0 d0.length ca0) s0) ?_
  refine RQ.y rfl (Y.len (by kernel_rfl) rfl) ?_
  refine RQ.y rfl (Y.move (v:=.int .i64 0) rfl) ?_
  refine RQ.nil ?_
  refine then_n ?_
  refine wp_block ?_
  refine wp_loopX (fun g f w'=>∃(k:Nat) (l1:List Bool) (q1:List Int) (vq1:Value),f 1=.pointer (some ⟨go,0,none⟩)∧f 2=.pointer (some ⟨gq,0,none⟩)∧f 6=.slice Aa0 d0.length ca0∧f 7=.int .i64 (d0.length:Int)∧f 8=.int .i64 (k:Int)∧d0.length+1≤g+k∧k≤d0.length∧MkS w w' go gq (.slice Ap l.length cp) vq1 l1 q1∧Fq (Sx go gq (.slice Ap l.length cp) vq) ws w'∧(∀b,vq1.ownBlock=some b→vq.ownBlock=some b ∨ ws.heap.size≤b)∧mkM (d0.drop k) l1 q1=some r) 0
    (fun f w'=>∃vq1,MkS w w' go gq (.slice Ap l.length cp) vq1 r.1 r.2∧Fq (Sx go gq (.slice Ap l.length cp) vq) ws w'∧∀b,vq1.ownBlock=some b→vq.ownBlock=some b ∨ ws.heap.size≤b) (d0.length+1) ⟨0,l,q,vq,s1,s2,rfl,rfl,rfl,by omega,by omega,M,Fq.refl,fun b h=>.inl h,by simpa using hm⟩ ?_ ?_
  · rintro f w14 ⟨vq1,h1,h2,h3⟩
    exact (blk_hit (end0 rfl ⟨rfl,vq1,h1,h2,h3⟩))
  · rintro g f w3 ⟨k,l1,q1,vq1,s1,s2,s6,s7,s8,hg,hk,M,F,hv,hm⟩
    rcases g with _|g
    · omega
    refine wp_seq ?_
    refine wp_rs rfl ?_
    refine RQ.y rfl (Y.binI (v:=.bool (decide ((k:Int) < (d0.length:Int)))) s8 s7 rfl) ?_
    refine RQ.nil ?_
    refine then_n ?_
    refine wp_seq ?_
    rcases bcases (decide ((k:Int) < (d0.length:Int))) with c4|c4
    · have pc4:=of_decide_eq_false c4
      refine cond_f rfl (vb rfl c4) ?_
      refine wp_exit ?_
      have hd:d0.drop k=[]:=List.drop_eq_nil_of_le (by omega)
      rw [hd] at hm
      unfold mkM at hm
      obtain rfl:=sj hm
      exact (then_x (then_x (hit_x ⟨_,rfl,⟨vq1,M,F,hv⟩⟩)))
    · have pc4:=of_decide_eq_true c4
      have hkl:k < d0.length:=by omega
      refine cond_t rfl (vb rfl c4) ?_
      refine wp_skip ?_
      refine then_n ?_
      refine wp_seq ?_
      refine wp_block ?_
      refine wp_seq ?_
      refine wp_rs rfl ?_
      obtain ⟨b12,o13,rfl,hbb12⟩:=ha0.addr (by omega)
      have hx:d0[k]? = some d0[k]:=List.getElem?_eq_getElem hkl
      obtain ⟨cs,hR,hc⟩:=ha0.el hx
      obtain rfl:=hR
      have hcell:w3.cell? ⟨b12,o13+k * 1+0,none⟩=some (.int .i64 d0[k]):=(World.cell?_of_block (a:=⟨b12,o13+k * 1+0,none⟩) (F.block b12 hbb12 (hA (by omega) b12 o13 rfl))).trans (hc 0 _ rfl)
      have hdr:d0.drop k=d0[k] :: d0.drop (k+1):=List.drop_eq_getElem_cons hkl
      rw [hdr] at hm
      generalize hxe:d0[k] = x at hm hcell
      refine RQ.y rfl (Y.indexAddr (m:=k) (sz:=1) s6 s8 rfl hkl (by kernel_rfl)) ?_
      refine RQ.y rfl (Y.load (v:=.int .i64 x) rfl (by kernel_rfl) (eqC hcell)) ?_
      refine RQ.y rfl (Y.assign (v:=.int .i64 x) rfl) ?_
      refine RQ.nil ?_
      refine then_n ?_
      refine wp_seq ?_
      refine wp_rs rfl ?_
      unfold mkM at hm
      obtain ⟨x37,hx39,hm⟩:=bnd hm
      obtain ⟨k38,hk40,hl41,hx39⟩:=getI_some hx39
      have hlen:=OwF.lenEq M.ho
      obtain ⟨b42,hAp⟩:=OwF.addr0 M.ho (by omega)
      subst hAp
      refine RQ.y rfl (Y.load (v:=.slice (some ⟨b42,0,none⟩) l.length cp) s1 (by kernel_rfl) (eqC (blkCell M.bo (i:=0) rfl))) ?_
      refine RQ.y rfl (Y.move (v:=.int .i64 x) rfl) ?_
      refine RQ.y rfl (Y.indexAddr (m:=k38) (sz:=1) rfl rfl hk40 (by omega) (by kernel_rfl)) ?_
      refine RQ.y rfl (Y.load (v:=.bool x37) rfl (by kernel_rfl) (eqC (OwF.cell fB M.ho hx39 (j:=0) rfl))) ?_
      refine RQ.y rfl (Y.not (b':=(!x37)) rfl rfl) ?_
      refine RQ.nil ?_
      refine then_n ?_
      rcases bcases x37 with c43|c43
      · replace hm:=cF c43 hm
        obtain ⟨_,m66,hm⟩:=bnd hm
        have hk67:=mustP_some m66
        refine cond_t rfl (vbn rfl c43 rfl) ?_
        refine wp_seq ?_
        refine wp_rl rfl ?_
        refine RL.y rfl (Y.load (v:=.slice (some ⟨b42,0,none⟩) l.length cp) s1 (by kernel_rfl) (eqC (blkCell M.bo (i:=0) rfl))) ?_
        refine RL.y rfl (Y.move (v:=.int .i64 x) rfl) ?_
        refine RL.y rfl (Y.indexAddr (m:=k38) (sz:=1) rfl rfl hk40 (by omega) (by kernel_rfl)) ?_
        refine RL.storeF (k:=k38) (a:=true) fB rfl rfl rfl M.ho hl41 rfl (by kernel_rfl) (fun w49 G50 ho51=>?_)
        have F:=F.only ho51 (.inl (.inr (.inr (.inl rfl))))
        have M:=M.storeO rfl ho51 G50
        refine RL.nil ?_
        refine then_n ?_
        refine wp_rl rfl ?_
        refine RL.y rfl (Y.load (v:=vq1) s2 (by kernel_rfl) (eqC (blkCell M.bq (i:=0) rfl))) ?_
        refine RL.y rfl (Y.move (v:=.int .i64 x) rfl) ?_
        refine RL.bslice (e:=2) (cells:=#[.int .i64 x]) rfl (pm1 rfl) (by kernel_rfl) (fun w5 B5 hb5 szw5=>?_)
        have F:=F.below hb5
        have F5:=F.size
        have M:=M.below hb5
        refine RL.appendQ app_int64 rfl rfl rfl (blkCell B5 (i:=0) rfl) M.hq M.T.size hk67 (fun v6 w6 G6 hgr6 hbl6 hnb6=>?_)
        have F:=F.grown hgr6 (fun b hb=>by
          rcases hv b hb with h|h
          · exact .inl (.inr (.inr (.inr h)))
          · exact .inr h)
        have Bq6:=Blk.kept M.bq hgr6 M.q2
        obtain ⟨A6,c6,hv6⟩:=G6.form
        subst hv6
        refine RL.store (v:=.slice A6 (q1 ++ [x]).length c6) (cs':=#[.slice A6 (q1 ++ [x]).length c6]) rfl s2 rfl Bq6 (by kernel_rfl) (by rfl) (by rfl) (by rfl) (fun w7 B7 ho7=>?_)
        have hv7 :∀b,(Value.slice A6 (q1 ++ [x]).length c6).ownBlock=some b→vq.ownBlock=some b ∨ ws.heap.size≤b:=fun b hb=>by
          rcases hnb6 b hb with h|h
          · exact hv b h
          · exact .inr (by omega)
        have M:=M.push hgr6 hbl6 G6 hnb6 ho7 B7
        have F:=F.only ho7 (.inl (.inr (.inl rfl)))
        refine RL.nil ?_
        refine blk_n (then_n ?_)
        refine wp_rs rfl ?_
        refine RQ.y rfl (Y.binI s8 rfl (binI_add (m:=k) (by omega))) ?_
        refine RQ.y rfl (Y.move (v:=.int .i64 ((k:Int)+1)) rfl) ?_
        refine RQ.nil ?_
        exact (then_n ⟨g,_,Nat.lt_succ_self _,rfl,⟨k+1,_,_,_,s1,s2,s6,s7,rfl,by omega,by omega,M,F,hv7,by rw [setI_eq hk40] at hm; exact hm⟩⟩)
      · replace hm:=cT c43 hm
        refine cond_f rfl (vbn rfl c43 rfl) ?_
        refine wp_skip ?_
        refine blk_n (then_n ?_)
        refine wp_rs rfl ?_
        refine RQ.y rfl (Y.binI s8 rfl (binI_add (m:=k) (by omega))) ?_
        refine RQ.y rfl (Y.move (v:=.int .i64 ((k:Int)+1)) rfl) ?_
        refine RQ.nil ?_
        exact (then_n ⟨g,_,Nat.lt_succ_self _,rfl,⟨k+1,l1,q1,vq1,s1,s2,s6,s7,rfl,by omega,by omega,M,F,hv,hm⟩⟩)
end
end Go.Proofs.YtpbobilkejblgaaGreat
