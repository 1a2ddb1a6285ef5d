/- Lemmas of the proof of LiveThunks, part 3. No condition. -/
import Derived.Test.YtpbobilkejblgaaGreatZLiveThunks2
namespace Go.Proofs.YtpbobilkejblgaaGreat
set_option linter.unusedVariables false
set_option linter.unusedSimpArgs false
section
open Go.RowKit
set_option maxRecDepth 100000
noncomputable def m_spec_l06Shape (d0:Int):Option (Int × Int × Int × Int):=
  (bif (d0==1) then some (0,0,0,0) else (bif (d0==2) then some (0,0,0,0) else (bif (d0==11) then some (0,0,0,0) else (bif (d0==3) then some (2,2,0,0) else (bif (d0==5) then some (2,2,0,0) else (bif (d0==7) then some (2,2,0,0) else (bif (d0==4) then some (1,1,0,0) else (bif (d0==6) then some (1,1,0,0) else (bif (d0==8) then some (0,3,0,0) else (bif (d0==9) then some (1,1,1,4) else (bif (d0==10) then some (1,1,2,2) else some (0,(-1),0,0))))))))))))
set_option maxHeartbeats 2000000 in
theorem c_m_spec_l06Shape (d0:Int) (r:Int × Int × Int × Int) (hm:m_spec_l06Shape d0=some r)  (w:World)  :
    Calls Tryz.prog 248 #[.int .i64 d0] w fun e w'=>e=.returned (.tuple #[.int .i64 r.1,.int .i64 r.2.1,.int .i64 r.2.2.1,.int .i64 r.2.2.2])∧Below w.heap.size w w':=by
  have T:=Below.refl w.heap.size w
  unfold m_spec_l06Shape at hm
  refine enter 24 Tryz.func248 rfl rfl rfl ?_
  intro f hf
  have s0:f 0=.int .i64 d0:=hf 0 _ rfl
  refine wp_seq<|wp_rs rfl ?_
  iterate 4 refine RQ.y rfl (Y.assign (v:=.int .i64 0) rfl) ?_
  refine RQ.nil<|then_n<|wp_seq<|wp_seq<|wp_rs rfl<|RQ.y rfl (Y.move (v:=.int .i64 d0) s0)<|RQ.nil<|then_n<|wp_block<|wp_seq<|wp_seq<|wp_rs rfl<|RQ.y rfl (Y.binI (v:=.bool (d0==1)) rfl rfl rfl)<|RQ.y rfl (Y.assign (v:=.bool (d0==1)) rfl)<|RQ.nil<|then_n ?_
  rcases bcases (d0==1) with c1|c1
  ·replace hm:=cF c1 hm
   refine cond_f rfl (vb rfl c1)<|wp_seq<|wp_rs rfl<|RQ.y rfl (Y.binI (v:=.bool (d0==2)) rfl rfl rfl)<|RQ.y rfl (Y.assign (v:=.bool (d0==2)) rfl)<|RQ.nil<|then_n ?_
   rcases bcases (d0==2) with c2|c2
   ·replace hm:=cF c2 hm
    refine cond_f rfl (vb rfl c2)<|wp_rs rfl<|RQ.y rfl (Y.binI (v:=.bool (d0==11)) rfl rfl rfl)<|RQ.y rfl (Y.assign (v:=.bool (d0==11)) rfl)<|RQ.nil<|then_n ?_
    rcases bcases (d0==11) with c3|c3
    ·replace hm:=cF c3 hm
     refine cond_f rfl (vb rfl c3)<|wp_seq<|wp_seq<|wp_rs rfl<|RQ.y rfl (Y.binI (v:=.bool (d0==3)) rfl rfl rfl)<|RQ.y rfl (Y.assign (v:=.bool (d0==3)) rfl)<|RQ.nil<|then_n ?_
     rcases bcases (d0==3) with c4|c4
     ·replace hm:=cF c4 hm
      refine cond_f rfl (vb rfl c4)<|wp_seq<|wp_rs rfl<|RQ.y rfl (Y.binI (v:=.bool (d0==5)) rfl rfl rfl)<|RQ.y rfl (Y.assign (v:=.bool (d0==5)) rfl)<|RQ.nil<|then_n ?_
      rcases bcases (d0==5) with c5|c5
      ·replace hm:=cF c5 hm
       refine cond_f rfl (vb rfl c5)<|wp_rs rfl<|RQ.y rfl (Y.binI (v:=.bool (d0==7)) rfl rfl rfl)<|RQ.y rfl (Y.assign (v:=.bool (d0==7)) rfl)<|RQ.nil<|then_n ?_
       rcases bcases (d0==7) with c6|c6
       ·replace hm:=cF c6 hm
        refine cond_f rfl (vb rfl c6)<|wp_seq<|wp_seq<|wp_rs rfl<|RQ.y rfl (Y.binI (v:=.bool (d0==4)) rfl rfl rfl)<|RQ.y rfl (Y.assign (v:=.bool (d0==4)) rfl)<|RQ.nil<|then_n ?_
        rcases bcases (d0==4) with c7|c7
        ·replace hm:=cF c7 hm
         refine cond_f rfl (vb rfl c7)<|wp_rs rfl<|RQ.y rfl (Y.binI (v:=.bool (d0==6)) rfl rfl rfl)<|RQ.y rfl (Y.assign (v:=.bool (d0==6)) rfl)<|RQ.nil<|then_n ?_
         rcases bcases (d0==6) with c8|c8
         ·replace hm:=cF c8 hm
          refine cond_f rfl (vb rfl c8)<|wp_seq<|wp_rs rfl<|RQ.y rfl (Y.binI (v:=.bool (d0==8)) rfl rfl rfl)<|RQ.y rfl (Y.assign (v:=.bool (d0==8)) rfl)<|RQ.nil<|then_n ?_
          rcases bcases (d0==8) with c9|c9
          ·replace hm:=cF c9 hm
           refine cond_f rfl (vb rfl c9)<|wp_seq<|wp_rs rfl<|RQ.y rfl (Y.binI (v:=.bool (d0==9)) rfl rfl rfl)<|RQ.y rfl (Y.assign (v:=.bool (d0==9)) rfl)<|RQ.nil<|then_n ?_
           rcases bcases (d0==9) with c10|c10
           ·replace hm:=cF c10 hm
            refine cond_f rfl (vb rfl c10)<|wp_seq<|wp_rs rfl<|RQ.y rfl (Y.binI (v:=.bool (d0==10)) rfl rfl rfl)<|RQ.y rfl (Y.assign (v:=.bool (d0==10)) rfl)<|RQ.nil<|then_n ?_
            rcases bcases (d0==10) with c11|c11
            ·replace hm:=cF c11 hm
             refine cond_f rfl (vb rfl c11)<|wp_skip ?_
             refine blk_n (then_n ?_)
             refine wp_seq<|wp_rs rfl<|RQ.y rfl (Y.assign (v:=.int .i64 0) rfl)<|RQ.y rfl (Y.assign (v:=.int .i64 (-1)) rfl)<|RQ.y rfl (Y.assign (v:=.int .i64 0) rfl)<|RQ.y rfl (Y.assign (v:=.int .i64 0) rfl)<|RQ.nil<|then_n<|wp_ret ?_
             obtain rfl:=sj hm
             exact (ret4 rfl rfl rfl rfl rfl rfl ⟨rfl,T⟩)
            replace hm:=cT c11 hm
            refine cond_t rfl (vb rfl c11)<|wp_seq<|wp_rs rfl<|RQ.y rfl (Y.assign (v:=.int .i64 1) rfl)<|RQ.y rfl (Y.assign (v:=.int .i64 1) rfl)<|RQ.y rfl (Y.assign (v:=.int .i64 2) rfl)<|RQ.y rfl (Y.assign (v:=.int .i64 2) rfl)<|RQ.nil<|then_n<|wp_ret ?_
            obtain rfl:=sj hm
            exact (blk_r (then_r (ret4 rfl rfl rfl rfl rfl rfl ⟨rfl,T⟩)))
           replace hm:=cT c10 hm
           refine cond_t rfl (vb rfl c10)<|wp_seq<|wp_rs rfl ?_
           iterate 3 refine RQ.y rfl (Y.assign (v:=.int .i64 1) rfl) ?_
           refine RQ.y rfl (Y.assign (v:=.int .i64 4) rfl)<|RQ.nil<|then_n<|wp_ret ?_
           obtain rfl:=sj hm
           exact (blk_r (then_r (ret4 rfl rfl rfl rfl rfl rfl ⟨rfl,T⟩)))
          replace hm:=cT c9 hm
          refine cond_t rfl (vb rfl c9)<|wp_seq<|wp_rs rfl<|RQ.y rfl (Y.assign (v:=.int .i64 0) rfl)<|RQ.y rfl (Y.assign (v:=.int .i64 3) rfl)<|RQ.y rfl (Y.assign (v:=.int .i64 0) rfl)<|RQ.y rfl (Y.assign (v:=.int .i64 0) rfl)<|RQ.nil<|then_n<|wp_ret ?_
          obtain rfl:=sj hm
          exact (blk_r (then_r (ret4 rfl rfl rfl rfl rfl rfl ⟨rfl,T⟩)))
         replace hm:=cT c8 hm
         refine cond_t rfl (vb rfl c8)<|wp_seq<|wp_rs rfl<|RQ.y rfl (Y.assign (v:=.int .i64 1) rfl)<|RQ.y rfl (Y.assign (v:=.int .i64 1) rfl)<|RQ.y rfl (Y.assign (v:=.int .i64 0) rfl)<|RQ.y rfl (Y.assign (v:=.int .i64 0) rfl)<|RQ.nil<|then_n<|wp_ret ?_
         obtain rfl:=sj hm
         exact (blk_r (then_r (ret4 rfl rfl rfl rfl rfl rfl ⟨rfl,T⟩)))
        replace hm:=cT c7 hm
        refine cond_t rfl (vb rfl c7)<|wp_skip<|then_n<|cond_t rfl (vb rfl c7)<|wp_seq<|wp_rs rfl<|RQ.y rfl (Y.assign (v:=.int .i64 1) rfl)<|RQ.y rfl (Y.assign (v:=.int .i64 1) rfl)<|RQ.y rfl (Y.assign (v:=.int .i64 0) rfl)<|RQ.y rfl (Y.assign (v:=.int .i64 0) rfl)<|RQ.nil<|then_n<|wp_ret ?_
        obtain rfl:=sj hm
        exact (blk_r (then_r (ret4 rfl rfl rfl rfl rfl rfl ⟨rfl,T⟩)))
       replace hm:=cT c6 hm
       refine cond_t rfl (vb rfl c6)<|wp_seq<|wp_rs rfl<|RQ.y rfl (Y.assign (v:=.int .i64 2) rfl)<|RQ.y rfl (Y.assign (v:=.int .i64 2) rfl)<|RQ.y rfl (Y.assign (v:=.int .i64 0) rfl)<|RQ.y rfl (Y.assign (v:=.int .i64 0) rfl)<|RQ.nil<|then_n<|wp_ret ?_
       obtain rfl:=sj hm
       exact (blk_r (then_r (ret4 rfl rfl rfl rfl rfl rfl ⟨rfl,T⟩)))
      replace hm:=cT c5 hm
      refine cond_t rfl (vb rfl c5)<|wp_skip<|then_n<|cond_t rfl (vb rfl c5)<|wp_seq<|wp_rs rfl<|RQ.y rfl (Y.assign (v:=.int .i64 2) rfl)<|RQ.y rfl (Y.assign (v:=.int .i64 2) rfl)<|RQ.y rfl (Y.assign (v:=.int .i64 0) rfl)<|RQ.y rfl (Y.assign (v:=.int .i64 0) rfl)<|RQ.nil<|then_n<|wp_ret ?_
      obtain rfl:=sj hm
      exact (blk_r (then_r (ret4 rfl rfl rfl rfl rfl rfl ⟨rfl,T⟩)))
     replace hm:=cT c4 hm
     refine cond_t rfl (vb rfl c4)<|wp_skip<|then_n<|cond_t rfl (vb rfl c4)<|wp_seq<|wp_rs rfl<|RQ.y rfl (Y.assign (v:=.int .i64 2) rfl)<|RQ.y rfl (Y.assign (v:=.int .i64 2) rfl)<|RQ.y rfl (Y.assign (v:=.int .i64 0) rfl)<|RQ.y rfl (Y.assign (v:=.int .i64 0) rfl)<|RQ.nil<|then_n<|wp_ret ?_
     obtain rfl:=sj hm
     exact (blk_r (then_r (ret4 rfl rfl rfl rfl rfl rfl ⟨rfl,T⟩)))
    replace hm:=cT c3 hm
    refine cond_t rfl (vb rfl c3)<|wp_seq<|wp_rs rfl ?_
    iterate 4 refine RQ.y rfl (Y.assign (v:=.int .i64 0) rfl) ?_
    refine RQ.nil<|then_n<|wp_ret ?_
    obtain rfl:=sj hm
    exact (blk_r (then_r (ret4 rfl rfl rfl rfl rfl rfl ⟨rfl,T⟩)))
   replace hm:=cT c2 hm
   refine cond_t rfl (vb rfl c2)<|wp_skip<|then_n<|cond_t rfl (vb rfl c2)<|wp_seq<|wp_rs rfl ?_
   iterate 4 refine RQ.y rfl (Y.assign (v:=.int .i64 0) rfl) ?_
   refine RQ.nil<|then_n<|wp_ret ?_
   obtain rfl:=sj hm
   exact (blk_r (then_r (ret4 rfl rfl rfl rfl rfl rfl ⟨rfl,T⟩)))
  replace hm:=cT c1 hm
  refine cond_t rfl (vb rfl c1)<|wp_skip<|then_n<|cond_t rfl (vb rfl c1)<|wp_seq<|wp_rs rfl ?_
  iterate 4 refine RQ.y rfl (Y.assign (v:=.int .i64 0) rfl) ?_
  refine RQ.nil<|then_n<|wp_ret ?_
  obtain rfl:=sj hm
  exact (blk_r (then_r (ret4 rfl rfl rfl rfl rfl rfl ⟨rfl,T⟩)))
noncomputable def m_spec_l06Value (d0:DCore):Option Bool:=
  (bif (d0.kind==1) then some (inR d0.value 0 255) else (bif (d0.kind==2) then some (inR d0.value (-2147483648) 2147483647) else (bif (d0.kind==3) then some (inR d0.value 1 6) else (bif (d0.kind==8) then some (inR d0.value 0 3) else (bif (d0.kind==11) then some (inR d0.value 0 23) else some (d0.value==0))))))
set_option maxHeartbeats 2000000 in
theorem c_m_spec_l06Value (d0:DCore) (r:Bool) (hm:m_spec_l06Value d0=some r) (v0:Value) (w:World) (hv0:Pt coreRd w v0 d0) :
    Calls Tryz.prog 249 #[v0] w fun e w'=>e=.returned (.bool r)∧Below w.heap.size w w':=by
  obtain ⟨ba0,oa0,csa0,rfl,hba0,hRa0,hca0⟩:=hv0
  have hSa0:=hRa0
  obtain ⟨A1,n1,c1,A2,n2,c2,rfl,⟨h1,r1⟩,⟨h2,r2⟩⟩:=(coreRd_out hRa0)
  have e1:=h1.len; subst e1
  have q1:=len_le r1
  have e2:=h2.len; subst e2
  have q2:=len_le r2
  have T:=Below.refl w.heap.size w
  unfold m_spec_l06Value at hm
  refine enter 47 Tryz.func249 rfl rfl rfl ?_
  intro f hf
  have s0:f 0=.pointer (some ⟨ba0,oa0,none⟩):=hf 0 _ rfl
  refine wp_seq<|wp_rs rfl<|RQ.y rfl (Y.assign (v:=.bool false) rfl)<|RQ.nil<|then_n<|wp_seq<|wp_seq<|wp_rs rfl<|RQ.y rfl (Y.move (v:=.pointer (some ⟨ba0,oa0,none⟩)) s0)<|RQ.y rfl (Y.nilCheck rfl)<|RQ.y rfl (Y.fieldAddr (off:=0) rfl (by kernel_rfl))<|RQ.y rfl (Y.load (v:=.int .i64 d0.kind) rfl (by kernel_rfl) (eqC (cellT T (hca0 0 _ rfl))))<|RQ.nil<|then_n<|wp_block<|wp_seq<|wp_rs rfl<|RQ.y rfl (Y.binI (v:=.bool (d0.kind==1)) rfl rfl rfl)<|RQ.y rfl (Y.assign (v:=.bool (d0.kind==1)) rfl)<|RQ.nil<|then_n ?_
  rcases bcases (d0.kind==1) with c3|c3
  ·replace hm:=cF c3 hm
   refine cond_f rfl (vb rfl c3)<|wp_seq<|wp_rs rfl<|RQ.y rfl (Y.binI (v:=.bool (d0.kind==2)) rfl rfl rfl)<|RQ.y rfl (Y.assign (v:=.bool (d0.kind==2)) rfl)<|RQ.nil<|then_n ?_
   rcases bcases (d0.kind==2) with c4|c4
   ·replace hm:=cF c4 hm
    refine cond_f rfl (vb rfl c4)<|wp_seq<|wp_rs rfl<|RQ.y rfl (Y.binI (v:=.bool (d0.kind==3)) rfl rfl rfl)<|RQ.y rfl (Y.assign (v:=.bool (d0.kind==3)) rfl)<|RQ.nil<|then_n ?_
    rcases bcases (d0.kind==3) with c5|c5
    ·replace hm:=cF c5 hm
     refine cond_f rfl (vb rfl c5)<|wp_seq<|wp_rs rfl<|RQ.y rfl (Y.binI (v:=.bool (d0.kind==8)) rfl rfl rfl)<|RQ.y rfl (Y.assign (v:=.bool (d0.kind==8)) rfl)<|RQ.nil<|then_n ?_
     rcases bcases (d0.kind==8) with c6|c6
     ·replace hm:=cF c6 hm
      refine cond_f rfl (vb rfl c6)<|wp_seq<|wp_rs rfl<|RQ.y rfl (Y.binI (v:=.bool (d0.kind==11)) rfl rfl rfl)<|RQ.y rfl (Y.assign (v:=.bool (d0.kind==11)) rfl)<|RQ.nil<|then_n ?_
      rcases bcases (d0.kind==11) with c7|c7
      ·replace hm:=cF c7 hm
       refine cond_f rfl (vb rfl c7)<|wp_skip ?_
       refine blk_n (then_n ?_)
       refine wp_seq<|wp_rs rfl<|RQ.y rfl (Y.move (v:=.pointer (some ⟨ba0,oa0,none⟩)) s0)<|RQ.y rfl (Y.nilCheck rfl)<|RQ.y rfl (Y.fieldAddr (off:=1) rfl (by kernel_rfl))<|RQ.y rfl (Y.load (v:=.int .i64 d0.value) rfl (by kernel_rfl) (eqC (cellT T (hca0 1 _ rfl))))<|RQ.y rfl (Y.binI (v:=.bool (d0.value==0)) rfl rfl rfl)<|RQ.y rfl (Y.assign (v:=.bool (d0.value==0)) rfl)<|RQ.nil<|then_n<|wp_ret ?_
       obtain rfl:=sj hm
       exact (ret1 rfl rfl rfl ⟨rfl,T⟩)
      replace hm:=cT c7 hm
      refine cond_t rfl (vb rfl c7)<|wp_seq<|wp_rb rfl<|RQ.y rfl (Y.move (v:=.pointer (some ⟨ba0,oa0,none⟩)) s0)<|RQ.y rfl (Y.nilCheck rfl)<|RQ.y rfl (Y.fieldAddr (off:=1) rfl (by kernel_rfl))<|RQ.y rfl (Y.load (v:=.int .i64 d0.value) rfl (by kernel_rfl) (beC (cellT T (hca0 1 _ rfl))))<|RQ.call rfl (am3 rfl rfl rfl) (by kernel_rfl) (v:=.bool (inR d0.value 0 23)) (bel (K:=fun _=>True) fun w' hb'=>(callB (spec_l00In d0.value 0 23 w')))<|RQ.y rfl (Y.assign (v:=.bool (inR d0.value 0 23)) rfl)<|RQ.nil ?_
      intro w8 hb9
      have szw8:=hb9.size
      have T:=Tt T hb9
      refine then_n<|wp_ret ?_
      obtain rfl:=sj hm
      exact (blk_r (then_r (ret1 rfl rfl rfl ⟨rfl,T⟩)))
     replace hm:=cT c6 hm
     refine cond_t rfl (vb rfl c6)<|wp_seq<|wp_rb rfl<|RQ.y rfl (Y.move (v:=.pointer (some ⟨ba0,oa0,none⟩)) s0)<|RQ.y rfl (Y.nilCheck rfl)<|RQ.y rfl (Y.fieldAddr (off:=1) rfl (by kernel_rfl))<|RQ.y rfl (Y.load (v:=.int .i64 d0.value) rfl (by kernel_rfl) (beC (cellT T (hca0 1 _ rfl))))<|RQ.call rfl (am3 rfl rfl rfl) (by kernel_rfl) (v:=.bool (inR d0.value 0 3)) (bel (K:=fun _=>True) fun w' hb'=>(callB (spec_l00In d0.value 0 3 w')))<|RQ.y rfl (Y.assign (v:=.bool (inR d0.value 0 3)) rfl)<|RQ.nil ?_
     intro w10 hb11
     have szw10:=hb11.size
     have T:=Tt T hb11
     refine then_n<|wp_ret ?_
     obtain rfl:=sj hm
     exact (blk_r (then_r (ret1 rfl rfl rfl ⟨rfl,T⟩)))
    replace hm:=cT c5 hm
    refine cond_t rfl (vb rfl c5)<|wp_seq<|wp_rb rfl<|RQ.y rfl (Y.move (v:=.pointer (some ⟨ba0,oa0,none⟩)) s0)<|RQ.y rfl (Y.nilCheck rfl)<|RQ.y rfl (Y.fieldAddr (off:=1) rfl (by kernel_rfl))<|RQ.y rfl (Y.load (v:=.int .i64 d0.value) rfl (by kernel_rfl) (beC (cellT T (hca0 1 _ rfl))))<|RQ.call rfl (am3 rfl rfl rfl) (by kernel_rfl) (v:=.bool (inR d0.value 1 6)) (bel (K:=fun _=>True) fun w' hb'=>(callB (spec_l00In d0.value 1 6 w')))<|RQ.y rfl (Y.assign (v:=.bool (inR d0.value 1 6)) rfl)<|RQ.nil ?_
    intro w12 hb13
    have szw12:=hb13.size
    have T:=Tt T hb13
    refine then_n<|wp_ret ?_
    obtain rfl:=sj hm
    exact (blk_r (then_r (ret1 rfl rfl rfl ⟨rfl,T⟩)))
   replace hm:=cT c4 hm
   refine cond_t rfl (vb rfl c4)<|wp_seq<|wp_rb rfl<|RQ.y rfl (Y.move (v:=.pointer (some ⟨ba0,oa0,none⟩)) s0)<|RQ.y rfl (Y.nilCheck rfl)<|RQ.y rfl (Y.fieldAddr (off:=1) rfl (by kernel_rfl))<|RQ.y rfl (Y.load (v:=.int .i64 d0.value) rfl (by kernel_rfl) (beC (cellT T (hca0 1 _ rfl))))<|RQ.call rfl (am3 rfl rfl rfl) (by kernel_rfl) (v:=.bool (inR d0.value (-2147483648) 2147483647)) (bel (K:=fun _=>True) fun w' hb'=>(callB (spec_l00In d0.value (-2147483648) 2147483647 w')))<|RQ.y rfl (Y.assign (v:=.bool (inR d0.value (-2147483648) 2147483647)) rfl)<|RQ.nil ?_
   intro w14 hb15
   have szw14:=hb15.size
   have T:=Tt T hb15
   refine then_n<|wp_ret ?_
   obtain rfl:=sj hm
   exact (blk_r (then_r (ret1 rfl rfl rfl ⟨rfl,T⟩)))
  replace hm:=cT c3 hm
  refine cond_t rfl (vb rfl c3)<|wp_seq<|wp_rb rfl<|RQ.y rfl (Y.move (v:=.pointer (some ⟨ba0,oa0,none⟩)) s0)<|RQ.y rfl (Y.nilCheck rfl)<|RQ.y rfl (Y.fieldAddr (off:=1) rfl (by kernel_rfl))<|RQ.y rfl (Y.load (v:=.int .i64 d0.value) rfl (by kernel_rfl) (beC (cellT T (hca0 1 _ rfl))))<|RQ.call rfl (am3 rfl rfl rfl) (by kernel_rfl) (v:=.bool (inR d0.value 0 255)) (bel (K:=fun _=>True) fun w' hb'=>(callB (spec_l00In d0.value 0 255 w')))<|RQ.y rfl (Y.assign (v:=.bool (inR d0.value 0 255)) rfl)<|RQ.nil ?_
  intro w16 hb17
  have szw16:=hb17.size
  have T:=Tt T hb17
  refine then_n<|wp_ret ?_
  obtain rfl:=sj hm
  exact (blk_r (then_r (ret1 rfl rfl rfl ⟨rfl,T⟩)))
noncomputable def m_spec_l06Nodes_A2 (i21:Int):Option Int:=
  some i21
noncomputable def m_spec_l06Nodes_B2 (d0:DCore) (d1:Int) (d2:Int) (self:DCore→Int→Int→Option Int) (rec2:Int→Int→Option Int) (K2:Int→Option Int) (i23:Int) (i24:Int):Option Int:=
  (bif (decide (i24 < (d0.kids.length:Int))) then ((getI d0.kids i24).bind fun x27=>((ck (d1 - 1)).bind fun s38=>((ck (d2 - i23)).bind fun s39=>((self x27 s38 s39).bind fun y40=>(bif (decide (y40 < 0)) then some (-1) else ((ck (i23+y40)).bind fun s45=>(rec2 s45 (i24+1)))))))) else (K2 i23))
noncomputable def m_spec_l06Nodes_L2 (d0:DCore) (d1:Int) (d2:Int) (self:DCore→Int→Int→Option Int) (K2:Int→Option Int):Nat→Int→Int→Option Int
  |0,_,_=>none
  |g+1,i23,i24=>m_spec_l06Nodes_B2 d0 d1 d2 self (m_spec_l06Nodes_L2 d0 d1 d2 self K2 g) K2 i23 i24
noncomputable def m_spec_l06Nodes_A1 (d0:DCore) (d1:Int) (d2:Int) (self:DCore→Int→Int→Option Int):Option Int:=
  (m_spec_l06Nodes_L2 d0 d1 d2 self m_spec_l06Nodes_A2 (d0.kids.length+1) 1 0)
noncomputable def m_spec_l06Nodes_B1 (d0:DCore) (rec1:Int→Option Int) (K1:Option Int) (i47:Int):Option Int:=
  (bif (decide (i47 < (d0.data.length:Int))) then ((getI d0.data i47).bind fun x50=>(bif (inR x50 0 23) then (rec1 (i47+1)) else some (-1))) else (K1))
noncomputable def m_spec_l06Nodes_L1 (d0:DCore) (K1:Option Int):Nat→Int→Option Int
  |0,_=>none
  |g+1,i47=>m_spec_l06Nodes_B1 d0 (m_spec_l06Nodes_L1 d0 K1 g) K1 i47
noncomputable def m_spec_l06Nodes_R (self:DCore→Int→Int→Option Int) (d0:DCore) (d1:Int) (d2:Int):Option Int:=
  ((m_spec_l06Shape d0.kind).bind fun y3=>(bif (decide (d1 < 1)) then some (-1) else (bif (decide (d2 < 1)) then some (-1) else (bif (inR (d0.kids.length:Int) y3.1 y3.2.1) then (bif (inR (d0.data.length:Int) y3.2.2.1 y3.2.2.2) then ((m_spec_l06Value d0).bind fun y15=>(bif y15 then (m_spec_l06Nodes_L1 d0 (m_spec_l06Nodes_A1 d0 d1 d2 self) (d0.data.length+1) 0) else some (-1))) else some (-1)) else some (-1)))))
noncomputable def m_spec_l06Nodes:Nat→DCore→Int→Int→Option Int
  |0,_,_,_=>none
  |gas+1,d0,d1,d2=>m_spec_l06Nodes_R (m_spec_l06Nodes gas) d0 d1 d2
set_option maxHeartbeats 2000000 in
theorem c_m_spec_l06Nodes :∀(gas:Nat) (d0:DCore) (d1:Int) (d2:Int) (r:Int) (hm:m_spec_l06Nodes gas d0 d1 d2=some r) (v0:Value) (w:World) (hv0:Pt coreRd w v0 d0),
    Calls Tryz.prog 217 #[v0,.int .i64 d1,.int .i64 d2] w fun e w'=>e=.returned (.int .i64 r)∧Below w.heap.size w w':=by
  intro gas
  induction gas with
  |zero=>
   intro d0 d1 d2 r hm v0 w hv0
   cases hm
  |succ gas ih=>
   intro d0 d1 d2 r hm v0 w hv0
   obtain ⟨ba0,oa0,csa0,rfl,hba0,hRa0,hca0⟩:=hv0
   have hSa0:=hRa0
   obtain ⟨A1,n1,c1,A2,n2,c2,rfl,⟨h1,r1⟩,⟨h2,r2⟩⟩:=(coreRd_out hRa0)
   have e1:=h1.len; subst e1
   have q1:=len_le r1
   have e2:=h2.len; subst e2
   have q2:=len_le r2
   have T:=Below.refl w.heap.size w
   obtain ⟨self,hself,hm⟩ :∃s,s=m_spec_l06Nodes gas∧m_spec_l06Nodes_R s d0 d1 d2=some r:=⟨_,rfl,hm⟩
   unfold m_spec_l06Nodes_R at hm
   refine enter 103 Tryz.func217 rfl rfl rfl ?_
   intro f hf
   have s0:f 0=.pointer (some ⟨ba0,oa0,none⟩):=hf 0 _ rfl
   have s1:f 1=.int .i64 d1:=hf 1 _ rfl
   have s2:f 2=.int .i64 d2:=hf 2 _ rfl
   refine wp_seq<|wp_rs rfl<|RQ.y rfl (Y.assign (v:=.int .i64 0) rfl)<|RQ.nil<|then_n<|wp_seq<|wp_rb rfl<|RQ.y rfl (Y.move (v:=.pointer (some ⟨ba0,oa0,none⟩)) s0)<|RQ.y rfl (Y.nilCheck rfl)<|RQ.y rfl (Y.fieldAddr (off:=0) rfl (by kernel_rfl))<|RQ.y rfl (Y.load (v:=.int .i64 d0.kind) rfl (by kernel_rfl) (beC (cellT T (hca0 0 _ rfl)))) ?_
   obtain ⟨y3,e4,hm⟩:=bnd hm
   refine RQ.call rfl (am1 rfl) (by kernel_rfl) (v:=.tuple #[.int .i64 y3.1,.int .i64 y3.2.1,.int .i64 y3.2.2.1,.int .i64 y3.2.2.2]) (bel (K:=fun _=>True) fun w' hb'=>(c_m_spec_l06Shape d0.kind _ e4  w' ))<|RQ.y rfl (Y.move (v:=.tuple #[.int .i64 y3.1,.int .i64 y3.2.1,.int .i64 y3.2.2.1,.int .i64 y3.2.2.2]) rfl)<|RQ.y rfl (Y.extract (i:=0) rfl rfl)<|RQ.y rfl (Y.extract (i:=1) rfl rfl)<|RQ.y rfl (Y.extract (i:=2) rfl rfl)<|RQ.y rfl (Y.extract (i:=3) rfl rfl)<|RQ.y rfl (Y.assign (v:=.int .i64 y3.1) rfl)<|RQ.y rfl (Y.assign (v:=.int .i64 y3.2.1) rfl)<|RQ.y rfl (Y.assign (v:=.int .i64 y3.2.2.1) rfl)<|RQ.y rfl (Y.assign (v:=.int .i64 y3.2.2.2) rfl)<|RQ.nil ?_
   intro w5 hb6
   have szw5:=hb6.size
   have T:=Tt T hb6
   refine then_n<|wp_seq<|wp_seq<|wp_rb rfl<|RQ.y rfl (Y.move (v:=.int .i64 d1) s1)<|RQ.y rfl (Y.binI (v:=.bool (decide (d1 < 1))) rfl rfl rfl)<|RQ.y rfl (Y.move (v:=.bool (decide (d1 < 1))) rfl) ?_
   rcases bcases (decide (d1 < 1)) with c7|c7
   ·replace hm:=cF c7 hm
    have pc7:=of_decide_eq_false c7
    refine RQ.y (wantT (dj:=27) rfl (vb rfl c7)) (Y.move (v:=.int .i64 d2) s2)<|RQ.y (wantT (dj:=27) rfl (vb rfl c7)) (Y.binI (v:=.bool (decide (d2 < 1))) rfl rfl rfl)<|RQ.y rfl (Y.pick (b:=false) (v:=.bool (decide (d2 < 1))) (vb rfl c7) rfl)<|RQ.y rfl (Y.move (v:=.bool (decide (d2 < 1))) rfl) ?_
    rcases bcases (decide (d2 < 1)) with c8|c8
    ·replace hm:=cF c8 hm
     have pc8:=of_decide_eq_false c8
     refine RQ.y (wantT (dj:=31) rfl (vb rfl c8)) (Y.move (v:=.pointer (some ⟨ba0,oa0,none⟩)) s0)<|RQ.y (wantT (dj:=31) rfl (vb rfl c8)) (Y.nilCheck rfl)<|RQ.y (wantT (dj:=31) rfl (vb rfl c8)) (Y.fieldAddr (off:=3) rfl (by kernel_rfl))<|RQ.y (wantT (dj:=31) rfl (vb rfl c8)) (Y.load (v:=.slice A2 d0.kids.length c2) rfl (by kernel_rfl) (beC (cellT T (hca0 3 _ rfl))))<|RQ.y (wantT (dj:=31) rfl (vb rfl c8)) (Y.len (by kernel_rfl) rfl)<|RQ.y (wantT (dj:=31) rfl (vb rfl c8)) (Y.move (v:=.int .i64 y3.1) rfl)<|RQ.y (wantT (dj:=31) rfl (vb rfl c8)) (Y.move (v:=.int .i64 y3.2.1) rfl)<|RQ.call (wantT (dj:=31) rfl (vb rfl c8)) (am3 rfl rfl rfl) (by kernel_rfl) (v:=.bool (inR (d0.kids.length:Int) y3.1 y3.2.1)) (bel (K:=fun _=>True) fun w' hb'=>(callB (spec_l00In (d0.kids.length:Int) y3.1 y3.2.1 w')))<|RQ.y (wantT (dj:=31) rfl (vb rfl c8)) (Y.not (b':=(!(inR (d0.kids.length:Int) y3.1 y3.2.1))) rfl rfl)<|RQ.y rfl (Y.pick (b:=false) (v:=.bool (!(inR (d0.kids.length:Int) y3.1 y3.2.1))) (vb rfl c8) rfl)<|RQ.y rfl (Y.move (v:=.bool (!(inR (d0.kids.length:Int) y3.1 y3.2.1))) rfl) ?_
     rcases bcases (inR (d0.kids.length:Int) y3.1 y3.2.1) with c9|c9
     ·replace hm:=cF c9 hm
      iterate 9 refine RQ.skip (wantN (dj:=42) rfl (vbn rfl c9 rfl) rfl) ?_
      refine RQ.y rfl (Y.pick (b:=true) (v:=.bool true) (vbn rfl c9 rfl) rfl)<|RQ.y rfl (Y.move (v:=.bool true) rfl) ?_
      iterate 3 refine RQ.skip (wantN (dj:=53) rfl rfl rfl) ?_
      refine RQ.y rfl (Y.pick (b:=true) (v:=.bool true) rfl rfl)<|RQ.nil ?_
      intro w10 hb11
      have szw10:=hb11.size
      have T:=Tt T hb11
      refine then_n<|cond_t rfl rfl<|wp_seq<|wp_rs rfl<|RQ.y rfl (Y.assign (v:=.int .i64 (-1)) rfl)<|RQ.nil<|then_n<|wp_ret ?_
      obtain rfl:=sj hm
      exact (then_r (ret1 rfl rfl rfl ⟨rfl,T⟩))
     replace hm:=cT c9 hm
     refine RQ.y (wantT (dj:=42) rfl (vbn rfl c9 rfl)) (Y.move (v:=.pointer (some ⟨ba0,oa0,none⟩)) s0)<|RQ.y (wantT (dj:=42) rfl (vbn rfl c9 rfl)) (Y.nilCheck rfl)<|RQ.y (wantT (dj:=42) rfl (vbn rfl c9 rfl)) (Y.fieldAddr (off:=2) rfl (by kernel_rfl))<|RQ.y (wantT (dj:=42) rfl (vbn rfl c9 rfl)) (Y.load (v:=.slice A1 d0.data.length c1) rfl (by kernel_rfl) (beC (cellT T (hca0 2 _ rfl))))<|RQ.y (wantT (dj:=42) rfl (vbn rfl c9 rfl)) (Y.len (by kernel_rfl) rfl)<|RQ.y (wantT (dj:=42) rfl (vbn rfl c9 rfl)) (Y.move (v:=.int .i64 y3.2.2.1) rfl)<|RQ.y (wantT (dj:=42) rfl (vbn rfl c9 rfl)) (Y.move (v:=.int .i64 y3.2.2.2) rfl)<|RQ.call (wantT (dj:=42) rfl (vbn rfl c9 rfl)) (am3 rfl rfl rfl) (by kernel_rfl) (v:=.bool (inR (d0.data.length:Int) y3.2.2.1 y3.2.2.2)) (bel (K:=fun _=>True) fun w' hb'=>(callB (spec_l00In (d0.data.length:Int) y3.2.2.1 y3.2.2.2 w')))<|RQ.y (wantT (dj:=42) rfl (vbn rfl c9 rfl)) (Y.not (b':=(!(inR (d0.data.length:Int) y3.2.2.1 y3.2.2.2))) rfl rfl)<|RQ.y rfl (Y.pick (b:=false) (v:=.bool (!(inR (d0.data.length:Int) y3.2.2.1 y3.2.2.2))) (vbn rfl c9 rfl) rfl)<|RQ.y rfl (Y.move (v:=.bool (!(inR (d0.data.length:Int) y3.2.2.1 y3.2.2.2))) rfl) ?_
     rcases bcases (inR (d0.data.length:Int) y3.2.2.1 y3.2.2.2) with c12|c12
     ·replace hm:=cF c12 hm
      iterate 3 refine RQ.skip (wantN (dj:=53) rfl (vbn rfl c12 rfl) rfl) ?_
      refine RQ.y rfl (Y.pick (b:=true) (v:=.bool true) (vbn rfl c12 rfl) rfl)<|RQ.nil ?_
      intro w13 hb14
      have szw13:=hb14.size
      have T:=Tt T hb14
      refine then_n<|cond_t rfl rfl<|wp_seq<|wp_rs rfl<|RQ.y rfl (Y.assign (v:=.int .i64 (-1)) rfl)<|RQ.nil<|then_n<|wp_ret ?_
      obtain rfl:=sj hm
      exact (then_r (ret1 rfl rfl rfl ⟨rfl,T⟩))
     replace hm:=cT c12 hm
     refine RQ.y (wantT (dj:=53) rfl (vbn rfl c12 rfl)) (Y.move (v:=.pointer (some ⟨ba0,oa0,none⟩)) s0) ?_
     obtain ⟨y15,e16,hm⟩:=bnd hm
     refine RQ.call (wantT (dj:=53) rfl (vbn rfl c12 rfl)) (am1 rfl) (by kernel_rfl) (v:=.bool y15) (bel (K:=fun _=>True) fun w' hb'=>(c_m_spec_l06Value d0 _ e16 _ w' (ptArg coreRd_ok hba0 hSa0 hca0 (Tt T hb'))))<|RQ.y (wantT (dj:=53) rfl (vbn rfl c12 rfl)) (Y.not (b':=(!y15)) rfl rfl)<|RQ.y rfl (Y.pick (b:=false) (v:=.bool (!y15)) (vbn rfl c12 rfl) rfl)<|RQ.nil ?_
     intro w17 hb18
     have szw17:=hb18.size
     have T:=Tt T hb18
     refine then_n ?_
     rcases bcases y15 with c19|c19
     ·replace hm:=cF c19 hm
      refine cond_t rfl (vbn rfl c19 rfl)<|wp_seq<|wp_rs rfl<|RQ.y rfl (Y.assign (v:=.int .i64 (-1)) rfl)<|RQ.nil<|then_n<|wp_ret ?_
      obtain rfl:=sj hm
      exact (then_r (ret1 rfl rfl rfl ⟨rfl,T⟩))
     replace hm:=cT c19 hm
     refine cond_f rfl (vbn rfl c19 rfl)<|wp_skip<|then_n<|wp_seq<|wp_seq<|wp_rs rfl<|RQ.y rfl (Y.assign (v:=.int .i64 0) rfl)<|RQ.nil<|then_n<|wp_block ?_
     obtain ⟨K1,hK1,hm⟩ :∃K,K=(m_spec_l06Nodes_A1 d0 d1 d2 self)∧m_spec_l06Nodes_L1 d0 K (d0.data.length+1) 0=some r:=⟨_,rfl,hm⟩
     refine wp_loopX (fun g f w'=>∃(i47:Int),f 0=.pointer (some ⟨ba0,oa0,none⟩)∧f 1=.int .i64 d1∧f 2=.int .i64 d2∧f 11=.int .i64 i47∧0≤i47∧Below w.heap.size w w'∧m_spec_l06Nodes_L1 d0 K1 g i47=some r) 0 (fun f w'=>f 0=.pointer (some ⟨ba0,oa0,none⟩)∧f 1=.int .i64 d1∧f 2=.int .i64 d2∧Below w.heap.size w w'∧m_spec_l06Nodes_A1 d0 d1 d2 self  = some r) (d0.data.length+1) ⟨0,s0,s1,s2,rfl,(by omega),T,hm⟩ ?_ ?_
     ·rintro f w20 ⟨s0_1x,s1_1x,s2_1x,T,hm⟩
      unfold m_spec_l06Nodes_A1 at hm
      refine blk_hit (then_n ?_)
      refine wp_seq<|wp_rs rfl<|RQ.y rfl (Y.assign (v:=.int .i64 1) rfl)<|RQ.nil<|then_n<|wp_seq<|wp_seq<|wp_rs rfl<|RQ.y rfl (Y.assign (v:=.int .i64 0) rfl)<|RQ.nil<|then_n<|wp_block ?_
      obtain ⟨K2,hK2,hm⟩ :∃K,K=m_spec_l06Nodes_A2∧m_spec_l06Nodes_L2 d0 d1 d2 self K (d0.kids.length+1) 1 0=some r:=⟨_,rfl,hm⟩
      refine wp_loopX (fun g f w'=>∃(i23:Int) (i24:Int),f 0=.pointer (some ⟨ba0,oa0,none⟩)∧f 1=.int .i64 d1∧f 2=.int .i64 d2∧f 12=.int .i64 i23∧f 13=.int .i64 i24∧0≤i24∧Below w.heap.size w w'∧m_spec_l06Nodes_L2 d0 d1 d2 self K2 g i23 i24=some r) 2 (fun f w'=>∃(i21:Int),f 12=.int .i64 i21∧Below w.heap.size w w'∧m_spec_l06Nodes_A2 i21=some r) (d0.kids.length+1) ⟨1,0,s0_1x,s1_1x,s2_1x,rfl,rfl,(by omega),T,hm⟩ ?_ ?_
      ·rintro f w22 ⟨i21,s12_2x,T,hm⟩
       unfold m_spec_l06Nodes_A2 at hm
       refine blk_hit (then_n ?_)
       refine wp_seq<|wp_rs rfl<|RQ.y rfl (Y.move (v:=.int .i64 i21) s12_2x)<|RQ.y rfl (Y.assign (v:=.int .i64 i21) rfl)<|RQ.nil<|then_n<|wp_ret ?_
       obtain rfl:=sj hm
       exact (ret1 rfl rfl rfl ⟨rfl,T⟩)
      rintro g f w25 ⟨i23,i24,s0_2,s1_2,s2_2,s12_2,s13_2,nn13_2,T,hm⟩
      rcases g with _|g
      ·simp only [m_spec_l06Nodes_L2] at hm; cases hm
      obtain ⟨rec2,hrec2,hm⟩ :∃z,z=m_spec_l06Nodes_L2 d0 d1 d2 self K2 g∧m_spec_l06Nodes_B2 d0 d1 d2 self z K2 i23 i24=some r:=⟨_,rfl,hm⟩
      unfold m_spec_l06Nodes_B2 at hm
      refine wp_seq<|wp_seq<|wp_rs rfl<|RQ.y rfl (Y.move (v:=.int .i64 i24) s13_2)<|RQ.y rfl (Y.move (v:=.pointer (some ⟨ba0,oa0,none⟩)) s0_2)<|RQ.y rfl (Y.nilCheck rfl)<|RQ.y rfl (Y.fieldAddr (off:=3) rfl (by kernel_rfl))<|RQ.y rfl (Y.load (v:=.slice A2 d0.kids.length c2) rfl (by kernel_rfl) (eqC (cellT T (hca0 3 _ rfl))))<|RQ.y rfl (Y.len (by kernel_rfl) rfl)<|RQ.y rfl (Y.binI (v:=.bool (decide (i24 < (d0.kids.length:Int)))) rfl rfl rfl)<|RQ.nil<|then_n ?_
      rcases bcases (decide (i24 < (d0.kids.length:Int))) with c26|c26
      ·replace hm:=cF c26 hm
       have pc26:=of_decide_eq_false c26
       refine cond_f rfl (vb rfl c26)<|wp_exit ?_
       exact (then_x (then_x (hit_x ⟨_,rfl,⟨i23,s12_2,T,(by rw [hK2] at hm; exact hm)⟩⟩)))
      replace hm:=cT c26 hm
      have pc26:=of_decide_eq_true c26
      refine cond_t rfl (vb rfl c26)<|wp_skip<|then_n<|wp_seq<|wp_block<|wp_seq<|wp_rb rfl<|RQ.y rfl (Y.move (v:=.pointer (some ⟨ba0,oa0,none⟩)) s0_2)<|RQ.y rfl (Y.nilCheck rfl)<|RQ.y rfl (Y.fieldAddr (off:=3) rfl (by kernel_rfl))<|RQ.y rfl (Y.load (v:=.slice A2 d0.kids.length c2) rfl (by kernel_rfl) (beC (cellT T (hca0 3 _ rfl))))<|RQ.y rfl (Y.move (v:=.int .i64 i24) s13_2) ?_
      obtain ⟨x27,hx30,hm⟩:=bnd hm
      obtain ⟨k28,hk31,hl32,hx30⟩:=getI_some hx30
      obtain ⟨b34,o35,rfl,hbb34⟩:=h2.addr (by omega)
      obtain ⟨cs29,hRcs29,hc33⟩:=h2.el hx30
      have hScs29:=hRcs29
      obtain ⟨A36,n36,c36,A37,n37,c37,rfl,⟨h36,r36⟩,⟨h37,r37⟩⟩:=(coreRd_out hRcs29)
      have e36:=h36.len; subst e36
      have q36:=len_le r36
      have e37:=h37.len; subst e37
      have q37:=len_le r37
      refine RQ.y rfl (Y.indexAddr (m:=k28) (sz:=4) rfl rfl hk31 hl32 (by kernel_rfl))<|RQ.y rfl (Y.move (v:=.int .i64 d1) s1_2) ?_
      obtain ⟨s38,ks38,hm⟩:=bnd hm
      replace ks38:=ck_some ks38
      refine RQ.y rfl (Y.binI (v:=.int .i64 s38) rfl rfl (by rw [binI_sub ks38.2,ks38.1]))<|RQ.y rfl (Y.move (v:=.int .i64 d2) s2_2)<|RQ.y rfl (Y.move (v:=.int .i64 i23) s12_2) ?_
      obtain ⟨s39,ks39,hm⟩:=bnd hm
      replace ks39:=ck_some ks39
      refine RQ.y rfl (Y.binI (v:=.int .i64 s39) rfl rfl (by rw [binI_sub ks39.2,ks39.1])) ?_
      obtain ⟨y40,e41,hm⟩:=bnd hm
      refine RQ.call rfl (am3 rfl rfl rfl) (by kernel_rfl) (v:=.int .i64 y40) (bel (K:=fun _=>True) fun w' hb'=>(ih x27 s38 s39 _ (by rw [← hself]; exact e41) _ w' (ptArg coreRd_ok hbb34 hScs29 hc33 (Tt T hb'))))<|RQ.y rfl (Y.assign (v:=.int .i64 y40) rfl)<|RQ.nil ?_
      intro w42 hb43
      have szw42:=hb43.size
      have T:=Tt T hb43
      refine then_n<|wp_seq<|wp_seq<|wp_rs rfl<|RQ.y rfl (Y.move (v:=.int .i64 y40) rfl)<|RQ.y rfl (Y.binI (v:=.bool (decide (y40 < 0))) rfl rfl rfl)<|RQ.nil<|then_n ?_
      rcases bcases (decide (y40 < 0)) with c44|c44
      ·replace hm:=cF c44 hm
       have pc44:=of_decide_eq_false c44
       refine cond_f rfl (vb rfl c44)<|wp_skip<|then_n<|wp_rs rfl<|RQ.y rfl (Y.move (v:=.int .i64 i23) s12_2)<|RQ.y rfl (Y.move (v:=.int .i64 y40) rfl) ?_
       obtain ⟨s45,ks45,hm⟩:=bnd hm
       replace ks45:=ck_some ks45
       refine RQ.y rfl (Y.binI (v:=.int .i64 s45) rfl rfl (by rw [binI_add ks45.2,ks45.1]))<|RQ.y rfl (Y.assign (v:=.int .i64 s45) rfl)<|RQ.nil ?_
       refine blk_n (then_n ?_)
       refine wp_rs rfl<|RQ.y rfl (Y.move (v:=.int .i64 i24) s13_2)<|RQ.y rfl (Y.binI rfl rfl (binI_add (m:=i24) (by omega)))<|RQ.y rfl (Y.assign (v:=.int .i64 (i24+1)) rfl)<|RQ.nil ?_
       exact (then_n ⟨g,_,Nat.lt_succ_self _,rfl,⟨s45,(i24+1),s0_2,s1_2,s2_2,rfl,rfl,(by omega),T,(by rw [← hrec2]; exact hm)⟩⟩)
      replace hm:=cT c44 hm
      have pc44:=of_decide_eq_true c44
      refine cond_t rfl (vb rfl c44)<|wp_seq<|wp_rs rfl<|RQ.y rfl (Y.assign (v:=.int .i64 (-1)) rfl)<|RQ.nil<|then_n<|wp_ret ?_
      obtain rfl:=sj hm
      exact (then_r (blk_r (then_r (then_r (hit_r (blk_r (then_r (ret1 rfl rfl rfl ⟨rfl,T⟩))))))))
     rintro g f w48 ⟨i47,s0_1,s1_1,s2_1,s11_1,nn11_1,T,hm⟩
     rcases g with _|g
     ·simp only [m_spec_l06Nodes_L1] at hm; cases hm
     obtain ⟨rec1,hrec1,hm⟩ :∃z,z=m_spec_l06Nodes_L1 d0 K1 g∧m_spec_l06Nodes_B1 d0 z K1 i47=some r:=⟨_,rfl,hm⟩
     unfold m_spec_l06Nodes_B1 at hm
     refine wp_seq<|wp_seq<|wp_rs rfl<|RQ.y rfl (Y.move (v:=.int .i64 i47) s11_1)<|RQ.y rfl (Y.move (v:=.pointer (some ⟨ba0,oa0,none⟩)) s0_1)<|RQ.y rfl (Y.nilCheck rfl)<|RQ.y rfl (Y.fieldAddr (off:=2) rfl (by kernel_rfl))<|RQ.y rfl (Y.load (v:=.slice A1 d0.data.length c1) rfl (by kernel_rfl) (eqC (cellT T (hca0 2 _ rfl))))<|RQ.y rfl (Y.len (by kernel_rfl) rfl)<|RQ.y rfl (Y.binI (v:=.bool (decide (i47 < (d0.data.length:Int)))) rfl rfl rfl)<|RQ.nil<|then_n ?_
     rcases bcases (decide (i47 < (d0.data.length:Int))) with c49|c49
     ·replace hm:=cF c49 hm
      have pc49:=of_decide_eq_false c49
      refine cond_f rfl (vb rfl c49)<|wp_exit ?_
      exact (then_x (then_x (hit_x ⟨_,rfl,⟨s0_1,s1_1,s2_1,T,(by rw [hK1] at hm; exact hm)⟩⟩)))
     replace hm:=cT c49 hm
     have pc49:=of_decide_eq_true c49
     refine cond_t rfl (vb rfl c49)<|wp_skip<|then_n<|wp_seq<|wp_block<|wp_seq<|wp_rb rfl<|RQ.y rfl (Y.move (v:=.pointer (some ⟨ba0,oa0,none⟩)) s0_1)<|RQ.y rfl (Y.nilCheck rfl)<|RQ.y rfl (Y.fieldAddr (off:=2) rfl (by kernel_rfl))<|RQ.y rfl (Y.load (v:=.slice A1 d0.data.length c1) rfl (by kernel_rfl) (beC (cellT T (hca0 2 _ rfl))))<|RQ.y rfl (Y.move (v:=.int .i64 i47) s11_1) ?_
     obtain ⟨x50,hx53,hm⟩:=bnd hm
     obtain ⟨k51,hk54,hl55,hx53⟩:=getI_some hx53
     obtain ⟨b57,o58,rfl,hbb57⟩:=h1.addr (by omega)
     obtain ⟨cs52,hRcs52,hc56⟩:=h1.el hx53
     have hScs52:=hRcs52
     obtain rfl:=hRcs52
     refine RQ.y rfl (Y.indexAddr (m:=k51) (sz:=1) rfl rfl hk54 hl55 (by kernel_rfl))<|RQ.y rfl (Y.load (v:=.int .i64 x50) rfl (by kernel_rfl) (beC (cellT T (hc56 0 _ rfl))))<|RQ.call rfl (am3 rfl rfl rfl) (by kernel_rfl) (v:=.bool (inR x50 0 23)) (bel (K:=fun _=>True) fun w' hb'=>(callB (spec_l00In x50 0 23 w')))<|RQ.y rfl (Y.not (b':=(!(inR x50 0 23))) rfl rfl)<|RQ.nil ?_
     intro w59 hb60
     have szw59:=hb60.size
     have T:=Tt T hb60
     refine then_n ?_
     rcases bcases (inR x50 0 23) with c61|c61
     ·replace hm:=cF c61 hm
      refine cond_t rfl (vbn rfl c61 rfl)<|wp_seq<|wp_rs rfl<|RQ.y rfl (Y.assign (v:=.int .i64 (-1)) rfl)<|RQ.nil<|then_n<|wp_ret ?_
      obtain rfl:=sj hm
      exact (blk_r (then_r (then_r (hit_r (blk_r (then_r (ret1 rfl rfl rfl ⟨rfl,T⟩)))))))
     replace hm:=cT c61 hm
     refine cond_f rfl (vbn rfl c61 rfl)<|wp_skip ?_
     refine blk_n (then_n ?_)
     refine wp_rs rfl<|RQ.y rfl (Y.move (v:=.int .i64 i47) s11_1)<|RQ.y rfl (Y.binI rfl rfl (binI_add (m:=i47) (by omega)))<|RQ.y rfl (Y.assign (v:=.int .i64 (i47+1)) rfl)<|RQ.nil ?_
     exact (then_n ⟨g,_,Nat.lt_succ_self _,rfl,⟨(i47+1),s0_1,s1_1,s2_1,rfl,(by omega),T,(by rw [← hrec1]; exact hm)⟩⟩)
    replace hm:=cT c8 hm
    have pc8:=of_decide_eq_true c8
    iterate 9 refine RQ.skip (wantN (dj:=31) rfl (vb rfl c8) rfl) ?_
    refine RQ.y rfl (Y.pick (b:=true) (v:=.bool true) (vb rfl c8) rfl)<|RQ.y rfl (Y.move (v:=.bool true) rfl) ?_
    iterate 9 refine RQ.skip (wantN (dj:=42) rfl rfl rfl) ?_
    refine RQ.y rfl (Y.pick (b:=true) (v:=.bool true) rfl rfl)<|RQ.y rfl (Y.move (v:=.bool true) rfl) ?_
    iterate 3 refine RQ.skip (wantN (dj:=53) rfl rfl rfl) ?_
    refine RQ.y rfl (Y.pick (b:=true) (v:=.bool true) rfl rfl)<|RQ.nil ?_
    intro w63 hb64
    have szw63:=hb64.size
    have T:=Tt T hb64
    refine then_n<|cond_t rfl rfl<|wp_seq<|wp_rs rfl<|RQ.y rfl (Y.assign (v:=.int .i64 (-1)) rfl)<|RQ.nil<|then_n<|wp_ret ?_
    obtain rfl:=sj hm
    exact (then_r (ret1 rfl rfl rfl ⟨rfl,T⟩))
   replace hm:=cT c7 hm
   have pc7:=of_decide_eq_true c7
   refine RQ.skip (wantN (dj:=27) rfl (vb rfl c7) rfl)<|RQ.skip (wantN (dj:=27) rfl (vb rfl c7) rfl)<|RQ.y rfl (Y.pick (b:=true) (v:=.bool true) (vb rfl c7) rfl)<|RQ.y rfl (Y.move (v:=.bool true) rfl) ?_
   iterate 9 refine RQ.skip (wantN (dj:=31) rfl rfl rfl) ?_
   refine RQ.y rfl (Y.pick (b:=true) (v:=.bool true) rfl rfl)<|RQ.y rfl (Y.move (v:=.bool true) rfl) ?_
   iterate 9 refine RQ.skip (wantN (dj:=42) rfl rfl rfl) ?_
   refine RQ.y rfl (Y.pick (b:=true) (v:=.bool true) rfl rfl)<|RQ.y rfl (Y.move (v:=.bool true) rfl) ?_
   iterate 3 refine RQ.skip (wantN (dj:=53) rfl rfl rfl) ?_
   refine RQ.y rfl (Y.pick (b:=true) (v:=.bool true) rfl rfl)<|RQ.nil ?_
   intro w65 hb66
   have szw65:=hb66.size
   have T:=Tt T hb66
   refine then_n<|cond_t rfl rfl<|wp_seq<|wp_rs rfl<|RQ.y rfl (Y.assign (v:=.int .i64 (-1)) rfl)<|RQ.nil<|then_n<|wp_ret ?_
   obtain rfl:=sj hm
   exact (then_r (ret1 rfl rfl rfl ⟨rfl,T⟩))
noncomputable def m_spec_l06Ok (d0:DCore):Option Bool:=
  ((m_spec_l06Nodes (SizeOf.sizeOf d0) d0 80 400).bind fun y3=>some (decide (y3 > 0)))
set_option maxHeartbeats 2000000 in
theorem c_m_spec_l06Ok (d0:DCore) (r:Bool) (hm:m_spec_l06Ok d0=some r) (v0:Value) (w:World) (hv0:Pt coreRd w v0 d0) :
    Calls Tryz.prog 172 #[v0] w fun e w'=>e=.returned (.bool r)∧Below w.heap.size w w':=by
  obtain ⟨ba0,oa0,csa0,rfl,hba0,hRa0,hca0⟩:=hv0
  have hSa0:=hRa0
  obtain ⟨A1,n1,c1,A2,n2,c2,rfl,⟨h1,r1⟩,⟨h2,r2⟩⟩:=(coreRd_out hRa0)
  have e1:=h1.len; subst e1
  have q1:=len_le r1
  have e2:=h2.len; subst e2
  have q2:=len_le r2
  have T:=Below.refl w.heap.size w
  unfold m_spec_l06Ok at hm
  refine enter 6 Tryz.func172 rfl rfl rfl ?_
  intro f hf
  have s0:f 0=.pointer (some ⟨ba0,oa0,none⟩):=hf 0 _ rfl
  refine wp_seq<|wp_rs rfl<|RQ.y rfl (Y.assign (v:=.bool false) rfl)<|RQ.nil<|then_n<|wp_seq<|wp_rb rfl<|RQ.y rfl (Y.move (v:=.pointer (some ⟨ba0,oa0,none⟩)) s0) ?_
  obtain ⟨y3,e4,hm⟩:=bnd hm
  refine RQ.call rfl (am3 rfl rfl rfl) (by kernel_rfl) (v:=.int .i64 y3) (bel (K:=fun _=>True) fun w' hb'=>(c_m_spec_l06Nodes (SizeOf.sizeOf d0) d0 80 400 _ e4 _ w' (ptArg coreRd_ok hba0 hSa0 hca0 (Tt T hb'))))<|RQ.y rfl (Y.binI (v:=.bool (decide (y3 > 0))) rfl rfl rfl)<|RQ.y rfl (Y.assign (v:=.bool (decide (y3 > 0))) rfl)<|RQ.nil ?_
  intro w5 hb6
  have szw5:=hb6.size
  have T:=Tt T hb6
  refine then_n<|wp_ret ?_
  obtain rfl:=sj hm
  exact (ret1 rfl rfl rfl ⟨rfl,T⟩)
noncomputable def m_spec_l06Binds (d0:DCore) (d1:Int):Option Int:=
  (bif (d0.kind==4) then some 1 else (bif (d0.kind==7) then (bif (d1==1) then some 1 else some 0) else some 0))
set_option maxHeartbeats 2000000 in
theorem c_m_spec_l06Binds (d0:DCore) (d1:Int) (r:Int) (hm:m_spec_l06Binds d0 d1=some r) (v0:Value) (w:World) (hv0:Pt coreRd w v0 d0) :
    Calls Tryz.prog 218 #[v0,.int .i64 d1] w fun e w'=>e=.returned (.int .i64 r)∧Below w.heap.size w w':=by
  obtain ⟨ba0,oa0,csa0,rfl,hba0,hRa0,hca0⟩:=hv0
  have hSa0:=hRa0
  obtain ⟨A1,n1,c1,A2,n2,c2,rfl,⟨h1,r1⟩,⟨h2,r2⟩⟩:=(coreRd_out hRa0)
  have e1:=h1.len; subst e1
  have q1:=len_le r1
  have e2:=h2.len; subst e2
  have q2:=len_le r2
  have T:=Below.refl w.heap.size w
  unfold m_spec_l06Binds at hm
  refine enter 21 Tryz.func218 rfl rfl rfl ?_
  intro f hf
  have s0:f 0=.pointer (some ⟨ba0,oa0,none⟩):=hf 0 _ rfl
  have s1:f 1=.int .i64 d1:=hf 1 _ rfl
  refine wp_seq<|wp_rs rfl<|RQ.y rfl (Y.assign (v:=.int .i64 0) rfl)<|RQ.nil<|then_n<|wp_seq<|wp_seq<|wp_rs rfl<|RQ.y rfl (Y.move (v:=.pointer (some ⟨ba0,oa0,none⟩)) s0)<|RQ.y rfl (Y.nilCheck rfl)<|RQ.y rfl (Y.fieldAddr (off:=0) rfl (by kernel_rfl))<|RQ.y rfl (Y.load (v:=.int .i64 d0.kind) rfl (by kernel_rfl) (eqC (cellT T (hca0 0 _ rfl))))<|RQ.y rfl (Y.binI (v:=.bool (d0.kind==4)) rfl rfl rfl)<|RQ.y rfl (Y.move (v:=.bool (d0.kind==4)) rfl) ?_
  rcases bcases (d0.kind==4) with c3|c3
  ·replace hm:=cF c3 hm
   refine RQ.y (wantT (dj:=10) rfl (vb rfl c3)) (Y.move (v:=.pointer (some ⟨ba0,oa0,none⟩)) s0)<|RQ.y (wantT (dj:=10) rfl (vb rfl c3)) (Y.nilCheck rfl)<|RQ.y (wantT (dj:=10) rfl (vb rfl c3)) (Y.fieldAddr (off:=0) rfl (by kernel_rfl))<|RQ.y (wantT (dj:=10) rfl (vb rfl c3)) (Y.load (v:=.int .i64 d0.kind) rfl (by kernel_rfl) (eqC (cellT T (hca0 0 _ rfl))))<|RQ.y (wantT (dj:=10) rfl (vb rfl c3)) (Y.binI (v:=.bool (d0.kind==7)) rfl rfl rfl)<|RQ.y (wantT (dj:=10) rfl (vb rfl c3)) (Y.move (v:=.bool (d0.kind==7)) rfl) ?_
   rcases bcases (d0.kind==7) with c4|c4
   ·replace hm:=cF c4 hm
    refine RQ.skip (wantN (dj:=16) rfl (vb rfl c4) rfl)<|RQ.skip (wantN (dj:=16) rfl (vb rfl c4) rfl)<|RQ.y (wantT (dj:=10) rfl (vb rfl c3)) (Y.pick (b:=false) (v:=.bool false) (vb rfl c4) rfl)<|RQ.y rfl (Y.pick (b:=false) (v:=.bool false) (vb rfl c3) rfl)<|RQ.nil<|then_n<|cond_f rfl rfl<|wp_skip<|then_n<|wp_seq<|wp_rs rfl<|RQ.y rfl (Y.assign (v:=.int .i64 0) rfl)<|RQ.nil<|then_n<|wp_ret ?_
    obtain rfl:=sj hm
    exact (ret1 rfl rfl rfl ⟨rfl,T⟩)
   replace hm:=cT c4 hm
   refine RQ.y (wantT (dj:=16) rfl (vb rfl c4)) (Y.move (v:=.int .i64 d1) s1)<|RQ.y (wantT (dj:=16) rfl (vb rfl c4)) (Y.binI (v:=.bool (d1==1)) rfl rfl rfl)<|RQ.y (wantT (dj:=10) rfl (vb rfl c3)) (Y.pick (b:=true) (v:=.bool (d1==1)) (vb rfl c4) rfl)<|RQ.y rfl (Y.pick (b:=false) (v:=.bool (d1==1)) (vb rfl c3) rfl)<|RQ.nil<|then_n ?_
   rcases bcases (d1==1) with c5|c5
   ·replace hm:=cF c5 hm
    refine cond_f rfl (vb rfl c5)<|wp_skip<|then_n<|wp_seq<|wp_rs rfl<|RQ.y rfl (Y.assign (v:=.int .i64 0) rfl)<|RQ.nil<|then_n<|wp_ret ?_
    obtain rfl:=sj hm
    exact (ret1 rfl rfl rfl ⟨rfl,T⟩)
   replace hm:=cT c5 hm
   refine cond_t rfl (vb rfl c5)<|wp_seq<|wp_rs rfl<|RQ.y rfl (Y.assign (v:=.int .i64 1) rfl)<|RQ.nil<|then_n<|wp_ret ?_
   obtain rfl:=sj hm
   exact (then_r (ret1 rfl rfl rfl ⟨rfl,T⟩))
  replace hm:=cT c3 hm
  iterate 6 refine RQ.skip (wantN (dj:=10) rfl (vb rfl c3) rfl) ?_
  refine RQ.skip rfl<|RQ.skip rfl<|RQ.skip (wantN (dj:=10) rfl (vb rfl c3) rfl)<|RQ.y rfl (Y.pick (b:=true) (v:=.bool true) (vb rfl c3) rfl)<|RQ.nil<|then_n<|cond_t rfl rfl<|wp_seq<|wp_rs rfl<|RQ.y rfl (Y.assign (v:=.int .i64 1) rfl)<|RQ.nil<|then_n<|wp_ret ?_
  obtain rfl:=sj hm
  exact (then_r (ret1 rfl rfl rfl ⟨rfl,T⟩))
noncomputable def m_spec_l06Above_A1:Option Bool:=
  some false
noncomputable def m_spec_l06Above_B1 (d0:DCore) (d1:Int) (self:DCore→Int→Option Bool) (rec1:Int→Option Bool) (K1:Option Bool) (i5:Int):Option Bool:=
  (bif (decide (i5 < (d0.kids.length:Int))) then ((getI d0.kids i5).bind fun x8=>((m_spec_l06Binds d0 i5).bind fun y19=>((ck (d1+y19)).bind fun s21=>((self x8 s21).bind fun y22=>(bif y22 then some true else (rec1 (i5+1))))))) else (K1))
noncomputable def m_spec_l06Above_L1 (d0:DCore) (d1:Int) (self:DCore→Int→Option Bool) (K1:Option Bool):Nat→Int→Option Bool
  |0,_=>none
  |g+1,i5=>m_spec_l06Above_B1 d0 d1 self (m_spec_l06Above_L1 d0 d1 self K1 g) K1 i5
noncomputable def m_spec_l06Above_R (self:DCore→Int→Option Bool) (d0:DCore) (d1:Int):Option Bool:=
  (bif (d0.kind==1) then some (decide (d0.value ≥ d1)) else (m_spec_l06Above_L1 d0 d1 self m_spec_l06Above_A1 (d0.kids.length+1) 0))
noncomputable def m_spec_l06Above:Nat→DCore→Int→Option Bool
  |0,_,_=>none
  |gas+1,d0,d1=>m_spec_l06Above_R (m_spec_l06Above gas) d0 d1
set_option maxHeartbeats 2000000 in
theorem c_m_spec_l06Above :∀(gas:Nat) (d0:DCore) (d1:Int) (r:Bool) (hm:m_spec_l06Above gas d0 d1=some r) (v0:Value) (w:World) (hv0:Pt coreRd w v0 d0),
    Calls Tryz.prog 174 #[v0,.int .i64 d1] w fun e w'=>e=.returned (.bool r)∧Below w.heap.size w w':=by
  intro gas
  induction gas with
  |zero=>
   intro d0 d1 r hm v0 w hv0
   cases hm
  |succ gas ih=>
   intro d0 d1 r hm v0 w hv0
   obtain ⟨ba0,oa0,csa0,rfl,hba0,hRa0,hca0⟩:=hv0
   have hSa0:=hRa0
   obtain ⟨A1,n1,c1,A2,n2,c2,rfl,⟨h1,r1⟩,⟨h2,r2⟩⟩:=(coreRd_out hRa0)
   have e1:=h1.len; subst e1
   have q1:=len_le r1
   have e2:=h2.len; subst e2
   have q2:=len_le r2
   have T:=Below.refl w.heap.size w
   obtain ⟨self,hself,hm⟩ :∃s,s=m_spec_l06Above gas∧m_spec_l06Above_R s d0 d1=some r:=⟨_,rfl,hm⟩
   unfold m_spec_l06Above_R at hm
   refine enter 38 Tryz.func174 rfl rfl rfl ?_
   intro f hf
   have s0:f 0=.pointer (some ⟨ba0,oa0,none⟩):=hf 0 _ rfl
   have s1:f 1=.int .i64 d1:=hf 1 _ rfl
   refine wp_seq<|wp_rs rfl<|RQ.y rfl (Y.assign (v:=.bool false) rfl)<|RQ.nil<|then_n<|wp_seq<|wp_seq<|wp_rs rfl<|RQ.y rfl (Y.move (v:=.pointer (some ⟨ba0,oa0,none⟩)) s0)<|RQ.y rfl (Y.nilCheck rfl)<|RQ.y rfl (Y.fieldAddr (off:=0) rfl (by kernel_rfl))<|RQ.y rfl (Y.load (v:=.int .i64 d0.kind) rfl (by kernel_rfl) (eqC (cellT T (hca0 0 _ rfl))))<|RQ.y rfl (Y.binI (v:=.bool (d0.kind==1)) rfl rfl rfl)<|RQ.nil<|then_n ?_
   rcases bcases (d0.kind==1) with c3|c3
   ·replace hm:=cF c3 hm
    refine cond_f rfl (vb rfl c3)<|wp_skip<|then_n<|wp_seq<|wp_seq<|wp_rs rfl<|RQ.y rfl (Y.assign (v:=.int .i64 0) rfl)<|RQ.nil<|then_n<|wp_block ?_
    obtain ⟨K1,hK1,hm⟩ :∃K,K=m_spec_l06Above_A1∧m_spec_l06Above_L1 d0 d1 self K (d0.kids.length+1) 0=some r:=⟨_,rfl,hm⟩
    refine wp_loopX (fun g f w'=>∃(i5:Int),f 0=.pointer (some ⟨ba0,oa0,none⟩)∧f 1=.int .i64 d1∧f 5=.int .i64 i5∧0≤i5∧Below w.heap.size w w'∧m_spec_l06Above_L1 d0 d1 self K1 g i5=some r) 0 (fun f w'=>Below w.heap.size w w'∧m_spec_l06Above_A1  = some r) (d0.kids.length+1) ⟨0,s0,s1,rfl,(by omega),T,hm⟩ ?_ ?_
    ·rintro f w4 ⟨T,hm⟩
     unfold m_spec_l06Above_A1 at hm
     refine blk_hit (then_n ?_)
     refine wp_seq<|wp_rs rfl<|RQ.y rfl (Y.assign (v:=.bool false) rfl)<|RQ.nil<|then_n<|wp_ret ?_
     obtain rfl:=sj hm
     exact (ret1 rfl rfl rfl ⟨rfl,T⟩)
    rintro g f w6 ⟨i5,s0_1,s1_1,s5_1,nn5_1,T,hm⟩
    rcases g with _|g
    ·simp only [m_spec_l06Above_L1] at hm; cases hm
    obtain ⟨rec1,hrec1,hm⟩ :∃z,z=m_spec_l06Above_L1 d0 d1 self K1 g∧m_spec_l06Above_B1 d0 d1 self z K1 i5=some r:=⟨_,rfl,hm⟩
    unfold m_spec_l06Above_B1 at hm
    refine wp_seq<|wp_seq<|wp_rs rfl<|RQ.y rfl (Y.move (v:=.int .i64 i5) s5_1)<|RQ.y rfl (Y.move (v:=.pointer (some ⟨ba0,oa0,none⟩)) s0_1)<|RQ.y rfl (Y.nilCheck rfl)<|RQ.y rfl (Y.fieldAddr (off:=3) rfl (by kernel_rfl))<|RQ.y rfl (Y.load (v:=.slice A2 d0.kids.length c2) rfl (by kernel_rfl) (eqC (cellT T (hca0 3 _ rfl))))<|RQ.y rfl (Y.len (by kernel_rfl) rfl)<|RQ.y rfl (Y.binI (v:=.bool (decide (i5 < (d0.kids.length:Int)))) rfl rfl rfl)<|RQ.nil<|then_n ?_
    rcases bcases (decide (i5 < (d0.kids.length:Int))) with c7|c7
    ·replace hm:=cF c7 hm
     have pc7:=of_decide_eq_false c7
     refine cond_f rfl (vb rfl c7)<|wp_exit ?_
     exact (then_x (then_x (hit_x ⟨_,rfl,⟨T,(by rw [hK1] at hm; exact hm)⟩⟩)))
    replace hm:=cT c7 hm
    have pc7:=of_decide_eq_true c7
    refine cond_t rfl (vb rfl c7)<|wp_skip<|then_n<|wp_seq<|wp_block<|wp_seq<|wp_rbd (by kernel_rfl) (by kernel_rfl)<|RQ.y rfl (Y.move (v:=.pointer (some ⟨ba0,oa0,none⟩)) s0_1)<|RQ.y rfl (Y.nilCheck rfl)<|RQ.y rfl (Y.fieldAddr (off:=3) rfl (by kernel_rfl))<|RQ.y rfl (Y.load (v:=.slice A2 d0.kids.length c2) rfl (by kernel_rfl) (beC (cellT T (hca0 3 _ rfl))))<|RQ.y rfl (Y.move (v:=.int .i64 i5) s5_1) ?_
    obtain ⟨x8,hx11,hm⟩:=bnd hm
    obtain ⟨k9,hk12,hl13,hx11⟩:=getI_some hx11
    obtain ⟨b15,o16,rfl,hbb15⟩:=h2.addr (by omega)
    obtain ⟨cs10,hRcs10,hc14⟩:=h2.el hx11
    have hScs10:=hRcs10
    obtain ⟨A17,n17,c17,A18,n18,c18,rfl,⟨h17,r17⟩,⟨h18,r18⟩⟩:=(coreRd_out hRcs10)
    have e17:=h17.len; subst e17
    have q17:=len_le r17
    have e18:=h18.len; subst e18
    have q18:=len_le r18
    refine RQ.y rfl (Y.indexAddr (m:=k9) (sz:=4) rfl rfl hk12 hl13 (by kernel_rfl))<|RQ.y rfl (Y.move (v:=.int .i64 d1) s1_1)<|RQ.y rfl (Y.move (v:=.pointer (some ⟨ba0,oa0,none⟩)) s0_1)<|RQ.y rfl (Y.move (v:=.int .i64 i5) s5_1) ?_
    obtain ⟨y19,e20,hm⟩:=bnd hm
    refine RQ.call rfl (am2 rfl rfl) (by kernel_rfl) (v:=.int .i64 y19) (bel (K:=fun _=>True) fun w' hb'=>(c_m_spec_l06Binds d0 i5 _ e20 _ w' (ptArg coreRd_ok hba0 hSa0 hca0 (Tt T hb')))) ?_
    obtain ⟨s21,ks21,hm⟩:=bnd hm
    replace ks21:=ck_some ks21
    refine RQ.y rfl (Y.binI (v:=.int .i64 s21) rfl rfl (by rw [binI_add ks21.2,ks21.1])) ?_
    obtain ⟨y22,e23,hm⟩:=bnd hm
    refine RQ.call rfl (am2 rfl rfl) (by kernel_rfl) (v:=.bool y22) (bel (K:=fun _=>True) fun w' hb'=>(ih x8 s21 _ (by rw [← hself]; exact e23) _ w' (ptArg coreRd_ok hbb15 hScs10 hc14 (Tt T hb'))))<|RQ.nil ?_
    intro w24 hb25
    have szw24:=hb25.size
    have T:=Tt T hb25
    refine then_n ?_
    rcases bcases y22 with c26|c26
    ·replace hm:=cF c26 hm
     refine cond_f rfl (vb rfl c26)<|wp_skip ?_
     refine blk_n (then_n ?_)
     refine wp_rs rfl<|RQ.y rfl (Y.move (v:=.int .i64 i5) s5_1)<|RQ.y rfl (Y.binI rfl rfl (binI_add (m:=i5) (by omega)))<|RQ.y rfl (Y.assign (v:=.int .i64 (i5+1)) rfl)<|RQ.nil ?_
     exact (then_n ⟨g,_,Nat.lt_succ_self _,rfl,⟨(i5+1),s0_1,s1_1,rfl,(by omega),T,(by rw [← hrec1]; exact hm)⟩⟩)
    replace hm:=cT c26 hm
    refine cond_t rfl (vb rfl c26)<|wp_seq<|wp_rs rfl<|RQ.y rfl (Y.assign (v:=.bool true) rfl)<|RQ.nil<|then_n<|wp_ret ?_
    obtain rfl:=sj hm
    exact (blk_r (then_r (then_r (hit_r (blk_r (then_r (ret1 rfl rfl rfl ⟨rfl,T⟩)))))))
   replace hm:=cT c3 hm
   refine cond_t rfl (vb rfl c3)<|wp_seq<|wp_rs rfl<|RQ.y rfl (Y.move (v:=.pointer (some ⟨ba0,oa0,none⟩)) s0)<|RQ.y rfl (Y.nilCheck rfl)<|RQ.y rfl (Y.fieldAddr (off:=1) rfl (by kernel_rfl))<|RQ.y rfl (Y.load (v:=.int .i64 d0.value) rfl (by kernel_rfl) (eqC (cellT T (hca0 1 _ rfl))))<|RQ.y rfl (Y.move (v:=.int .i64 d1) s1)<|RQ.y rfl (Y.binI (v:=.bool (decide (d0.value ≥ d1))) rfl rfl rfl)<|RQ.y rfl (Y.assign (v:=.bool (decide (d0.value ≥ d1))) rfl)<|RQ.nil<|then_n<|wp_ret ?_
   obtain rfl:=sj hm
   exact (then_r (ret1 rfl rfl rfl ⟨rfl,T⟩))
noncomputable def m_spec_l06Closed (d0:DCore):Option Bool:=
  ((m_spec_l06Ok d0).bind fun y3=>(bif y3 then ((m_spec_l06Above (SizeOf.sizeOf d0) d0 0).bind fun y8=>some (!y8)) else some false))
set_option maxHeartbeats 2000000 in
theorem c_m_spec_l06Closed (d0:DCore) (r:Bool) (hm:m_spec_l06Closed d0=some r) (v0:Value) (w:World) (hv0:Pt coreRd w v0 d0) :
    Calls Tryz.prog 216 #[v0] w fun e w'=>e=.returned (.bool r)∧Below w.heap.size w w':=by
  obtain ⟨ba0,oa0,csa0,rfl,hba0,hRa0,hca0⟩:=hv0
  have hSa0:=hRa0
  obtain ⟨A1,n1,c1,A2,n2,c2,rfl,⟨h1,r1⟩,⟨h2,r2⟩⟩:=(coreRd_out hRa0)
  have e1:=h1.len; subst e1
  have q1:=len_le r1
  have e2:=h2.len; subst e2
  have q2:=len_le r2
  have T:=Below.refl w.heap.size w
  unfold m_spec_l06Closed at hm
  refine enter 10 Tryz.func216 rfl rfl rfl ?_
  intro f hf
  have s0:f 0=.pointer (some ⟨ba0,oa0,none⟩):=hf 0 _ rfl
  refine wp_seq<|wp_rs rfl<|RQ.y rfl (Y.assign (v:=.bool false) rfl)<|RQ.nil<|then_n<|wp_seq<|wp_rb rfl<|RQ.y rfl (Y.move (v:=.pointer (some ⟨ba0,oa0,none⟩)) s0) ?_
  obtain ⟨y3,e4,hm⟩:=bnd hm
  refine RQ.call rfl (am1 rfl) (by kernel_rfl) (v:=.bool y3) (bel (K:=fun _=>True) fun w' hb'=>(c_m_spec_l06Ok d0 _ e4 _ w' (ptArg coreRd_ok hba0 hSa0 hca0 (Tt T hb'))))<|RQ.y rfl (Y.move (v:=.bool y3) rfl) ?_
  rcases bcases y3 with c5|c5
  ·replace hm:=cF c5 hm
   iterate 3 refine RQ.skip (wantN (dj:=5) rfl (vb rfl c5) rfl) ?_
   refine RQ.y rfl (Y.pick (b:=false) (v:=.bool false) (vb rfl c5) rfl)<|RQ.y rfl (Y.assign (v:=.bool false) rfl)<|RQ.nil ?_
   intro w6 hb7
   have szw6:=hb7.size
   have T:=Tt T hb7
   refine then_n<|wp_ret ?_
   obtain rfl:=sj hm
   exact (ret1 rfl rfl rfl ⟨rfl,T⟩)
  replace hm:=cT c5 hm
  refine RQ.y (wantT (dj:=5) rfl (vb rfl c5)) (Y.move (v:=.pointer (some ⟨ba0,oa0,none⟩)) s0) ?_
  obtain ⟨y8,e9,hm⟩:=bnd hm
  refine RQ.call (wantT (dj:=5) rfl (vb rfl c5)) (am2 rfl rfl) (by kernel_rfl) (v:=.bool y8) (bel (K:=fun _=>True) fun w' hb'=>(c_m_spec_l06Above (SizeOf.sizeOf d0) d0 0 _ e9 _ w' (ptArg coreRd_ok hba0 hSa0 hca0 (Tt T hb'))))<|RQ.y (wantT (dj:=5) rfl (vb rfl c5)) (Y.not (b':=(!y8)) rfl rfl)<|RQ.y rfl (Y.pick (b:=true) (v:=.bool (!y8)) (vb rfl c5) rfl)<|RQ.y rfl (Y.assign (v:=.bool (!y8)) rfl)<|RQ.nil ?_
  intro w10 hb11
  have szw10:=hb11.size
  have T:=Tt T hb11
  refine then_n<|wp_ret ?_
  obtain rfl:=sj hm
  exact (ret1 rfl rfl rfl ⟨rfl,T⟩)
noncomputable def m_spec_l06Erased_A1:Option Bool:=
  some true
noncomputable def m_spec_l06Erased_B1 (d0:DCore) (self:DCore→Option Bool) (rec1:Int→Option Bool) (K1:Option Bool) (i6:Int):Option Bool:=
  (bif (decide (i6 < (d0.kids.length:Int))) then ((getI d0.kids i6).bind fun x9=>((self x9).bind fun y20=>(bif y20 then (rec1 (i6+1)) else some false))) else (K1))
noncomputable def m_spec_l06Erased_L1 (d0:DCore) (self:DCore→Option Bool) (K1:Option Bool):Nat→Int→Option Bool
  |0,_=>none
  |g+1,i6=>m_spec_l06Erased_B1 d0 self (m_spec_l06Erased_L1 d0 self K1 g) K1 i6
noncomputable def m_spec_l06Erased_R (self:DCore→Option Bool) (d0:DCore):Option Bool:=
  (bif (d0.kind==6) then some false else (bif (d0.kind==7) then some false else (m_spec_l06Erased_L1 d0 self m_spec_l06Erased_A1 (d0.kids.length+1) 0)))
noncomputable def m_spec_l06Erased:Nat→DCore→Option Bool
  |0,_=>none
  |gas+1,d0=>m_spec_l06Erased_R (m_spec_l06Erased gas) d0
set_option maxHeartbeats 2000000 in
theorem c_m_spec_l06Erased :∀(gas:Nat) (d0:DCore) (r:Bool) (hm:m_spec_l06Erased gas d0=some r) (v0:Value) (w:World) (hv0:Pt coreRd w v0 d0),
    Calls Tryz.prog 171 #[v0] w fun e w'=>e=.returned (.bool r)∧Below w.heap.size w w':=by
  intro gas
  induction gas with
  |zero=>
   intro d0 r hm v0 w hv0
   cases hm
  |succ gas ih=>
   intro d0 r hm v0 w hv0
   obtain ⟨ba0,oa0,csa0,rfl,hba0,hRa0,hca0⟩:=hv0
   have hSa0:=hRa0
   obtain ⟨A1,n1,c1,A2,n2,c2,rfl,⟨h1,r1⟩,⟨h2,r2⟩⟩:=(coreRd_out hRa0)
   have e1:=h1.len; subst e1
   have q1:=len_le r1
   have e2:=h2.len; subst e2
   have q2:=len_le r2
   have T:=Below.refl w.heap.size w
   obtain ⟨self,hself,hm⟩ :∃s,s=m_spec_l06Erased gas∧m_spec_l06Erased_R s d0=some r:=⟨_,rfl,hm⟩
   unfold m_spec_l06Erased_R at hm
   refine enter 33 Tryz.func171 rfl rfl rfl ?_
   intro f hf
   have s0:f 0=.pointer (some ⟨ba0,oa0,none⟩):=hf 0 _ rfl
   refine wp_seq<|wp_rs rfl<|RQ.y rfl (Y.assign (v:=.bool false) rfl)<|RQ.nil<|then_n<|wp_seq<|wp_seq<|wp_rs rfl<|RQ.y rfl (Y.move (v:=.pointer (some ⟨ba0,oa0,none⟩)) s0)<|RQ.y rfl (Y.nilCheck rfl)<|RQ.y rfl (Y.fieldAddr (off:=0) rfl (by kernel_rfl))<|RQ.y rfl (Y.load (v:=.int .i64 d0.kind) rfl (by kernel_rfl) (eqC (cellT T (hca0 0 _ rfl))))<|RQ.y rfl (Y.binI (v:=.bool (d0.kind==6)) rfl rfl rfl)<|RQ.y rfl (Y.move (v:=.bool (d0.kind==6)) rfl) ?_
   rcases bcases (d0.kind==6) with c3|c3
   ·replace hm:=cF c3 hm
    refine RQ.y (wantT (dj:=9) rfl (vb rfl c3)) (Y.move (v:=.pointer (some ⟨ba0,oa0,none⟩)) s0)<|RQ.y (wantT (dj:=9) rfl (vb rfl c3)) (Y.nilCheck rfl)<|RQ.y (wantT (dj:=9) rfl (vb rfl c3)) (Y.fieldAddr (off:=0) rfl (by kernel_rfl))<|RQ.y (wantT (dj:=9) rfl (vb rfl c3)) (Y.load (v:=.int .i64 d0.kind) rfl (by kernel_rfl) (eqC (cellT T (hca0 0 _ rfl))))<|RQ.y (wantT (dj:=9) rfl (vb rfl c3)) (Y.binI (v:=.bool (d0.kind==7)) rfl rfl rfl)<|RQ.y rfl (Y.pick (b:=false) (v:=.bool (d0.kind==7)) (vb rfl c3) rfl)<|RQ.nil<|then_n ?_
    rcases bcases (d0.kind==7) with c4|c4
    ·replace hm:=cF c4 hm
     refine cond_f rfl (vb rfl c4)<|wp_skip<|then_n<|wp_seq<|wp_seq<|wp_rs rfl<|RQ.y rfl (Y.assign (v:=.int .i64 0) rfl)<|RQ.nil<|then_n<|wp_block ?_
     obtain ⟨K1,hK1,hm⟩ :∃K,K=m_spec_l06Erased_A1∧m_spec_l06Erased_L1 d0 self K (d0.kids.length+1) 0=some r:=⟨_,rfl,hm⟩
     refine wp_loopX (fun g f w'=>∃(i6:Int),f 0=.pointer (some ⟨ba0,oa0,none⟩)∧f 3=.int .i64 i6∧0≤i6∧Below w.heap.size w w'∧m_spec_l06Erased_L1 d0 self K1 g i6=some r) 0 (fun f w'=>Below w.heap.size w w'∧m_spec_l06Erased_A1  = some r) (d0.kids.length+1) ⟨0,s0,rfl,(by omega),T,hm⟩ ?_ ?_
     ·rintro f w5 ⟨T,hm⟩
      unfold m_spec_l06Erased_A1 at hm
      refine blk_hit (then_n ?_)
      refine wp_seq<|wp_rs rfl<|RQ.y rfl (Y.assign (v:=.bool true) rfl)<|RQ.nil<|then_n<|wp_ret ?_
      obtain rfl:=sj hm
      exact (ret1 rfl rfl rfl ⟨rfl,T⟩)
     rintro g f w7 ⟨i6,s0_1,s3_1,nn3_1,T,hm⟩
     rcases g with _|g
     ·simp only [m_spec_l06Erased_L1] at hm; cases hm
     obtain ⟨rec1,hrec1,hm⟩ :∃z,z=m_spec_l06Erased_L1 d0 self K1 g∧m_spec_l06Erased_B1 d0 self z K1 i6=some r:=⟨_,rfl,hm⟩
     unfold m_spec_l06Erased_B1 at hm
     refine wp_seq<|wp_seq<|wp_rs rfl<|RQ.y rfl (Y.move (v:=.int .i64 i6) s3_1)<|RQ.y rfl (Y.move (v:=.pointer (some ⟨ba0,oa0,none⟩)) s0_1)<|RQ.y rfl (Y.nilCheck rfl)<|RQ.y rfl (Y.fieldAddr (off:=3) rfl (by kernel_rfl))<|RQ.y rfl (Y.load (v:=.slice A2 d0.kids.length c2) rfl (by kernel_rfl) (eqC (cellT T (hca0 3 _ rfl))))<|RQ.y rfl (Y.len (by kernel_rfl) rfl)<|RQ.y rfl (Y.binI (v:=.bool (decide (i6 < (d0.kids.length:Int)))) rfl rfl rfl)<|RQ.nil<|then_n ?_
     rcases bcases (decide (i6 < (d0.kids.length:Int))) with c8|c8
     ·replace hm:=cF c8 hm
      have pc8:=of_decide_eq_false c8
      refine cond_f rfl (vb rfl c8)<|wp_exit ?_
      exact (then_x (then_x (hit_x ⟨_,rfl,⟨T,(by rw [hK1] at hm; exact hm)⟩⟩)))
     replace hm:=cT c8 hm
     have pc8:=of_decide_eq_true c8
     refine cond_t rfl (vb rfl c8)<|wp_skip<|then_n<|wp_seq<|wp_block<|wp_seq<|wp_rb rfl<|RQ.y rfl (Y.move (v:=.pointer (some ⟨ba0,oa0,none⟩)) s0_1)<|RQ.y rfl (Y.nilCheck rfl)<|RQ.y rfl (Y.fieldAddr (off:=3) rfl (by kernel_rfl))<|RQ.y rfl (Y.load (v:=.slice A2 d0.kids.length c2) rfl (by kernel_rfl) (beC (cellT T (hca0 3 _ rfl))))<|RQ.y rfl (Y.move (v:=.int .i64 i6) s3_1) ?_
     obtain ⟨x9,hx12,hm⟩:=bnd hm
     obtain ⟨k10,hk13,hl14,hx12⟩:=getI_some hx12
     obtain ⟨b16,o17,rfl,hbb16⟩:=h2.addr (by omega)
     obtain ⟨cs11,hRcs11,hc15⟩:=h2.el hx12
     have hScs11:=hRcs11
     obtain ⟨A18,n18,c18,A19,n19,c19,rfl,⟨h18,r18⟩,⟨h19,r19⟩⟩:=(coreRd_out hRcs11)
     have e18:=h18.len; subst e18
     have q18:=len_le r18
     have e19:=h19.len; subst e19
     have q19:=len_le r19
     refine RQ.y rfl (Y.indexAddr (m:=k10) (sz:=4) rfl rfl hk13 hl14 (by kernel_rfl)) ?_
     obtain ⟨y20,e21,hm⟩:=bnd hm
     refine RQ.call rfl (am1 rfl) (by kernel_rfl) (v:=.bool y20) (bel (K:=fun _=>True) fun w' hb'=>(ih x9 _ (by rw [← hself]; exact e21) _ w' (ptArg coreRd_ok hbb16 hScs11 hc15 (Tt T hb'))))<|RQ.y rfl (Y.not (b':=(!y20)) rfl rfl)<|RQ.nil ?_
     intro w22 hb23
     have szw22:=hb23.size
     have T:=Tt T hb23
     refine then_n ?_
     rcases bcases y20 with c24|c24
     ·replace hm:=cF c24 hm
      refine cond_t rfl (vbn rfl c24 rfl)<|wp_seq<|wp_rs rfl<|RQ.y rfl (Y.assign (v:=.bool false) rfl)<|RQ.nil<|then_n<|wp_ret ?_
      obtain rfl:=sj hm
      exact (blk_r (then_r (then_r (hit_r (blk_r (then_r (ret1 rfl rfl rfl ⟨rfl,T⟩)))))))
     replace hm:=cT c24 hm
     refine cond_f rfl (vbn rfl c24 rfl)<|wp_skip ?_
     refine blk_n (then_n ?_)
     refine wp_rs rfl<|RQ.y rfl (Y.move (v:=.int .i64 i6) s3_1)<|RQ.y rfl (Y.binI rfl rfl (binI_add (m:=i6) (by omega)))<|RQ.y rfl (Y.assign (v:=.int .i64 (i6+1)) rfl)<|RQ.nil ?_
     exact (then_n ⟨g,_,Nat.lt_succ_self _,rfl,⟨(i6+1),s0_1,rfl,(by omega),T,(by rw [← hrec1]; exact hm)⟩⟩)
    replace hm:=cT c4 hm
    refine cond_t rfl (vb rfl c4)<|wp_seq<|wp_rs rfl<|RQ.y rfl (Y.assign (v:=.bool false) rfl)<|RQ.nil<|then_n<|wp_ret ?_
    obtain rfl:=sj hm
    exact (then_r (ret1 rfl rfl rfl ⟨rfl,T⟩))
   replace hm:=cT c3 hm
   iterate 5 refine RQ.skip (wantN (dj:=9) rfl (vb rfl c3) rfl) ?_
   refine RQ.y rfl (Y.pick (b:=true) (v:=.bool true) (vb rfl c3) rfl)<|RQ.nil<|then_n<|cond_t rfl rfl<|wp_seq<|wp_rs rfl<|RQ.y rfl (Y.assign (v:=.bool false) rfl)<|RQ.nil<|then_n<|wp_ret ?_
   obtain rfl:=sj hm
   exact (then_r (ret1 rfl rfl rfl ⟨rfl,T⟩))
noncomputable def m_spec_l06Refs_A2:Option Bool:=
  some true
noncomputable def m_spec_l06Refs_B2 (d0:DCore) (d1:Int) (self:DCore→Int→Option Bool) (rec2:Int→Option Bool) (K2:Option Bool) (i6:Int):Option Bool:=
  (bif (decide (i6 < (d0.kids.length:Int))) then ((getI d0.kids i6).bind fun x9=>((self x9 d1).bind fun y20=>(bif y20 then (rec2 (i6+1)) else some false))) else (K2))
noncomputable def m_spec_l06Refs_L2 (d0:DCore) (d1:Int) (self:DCore→Int→Option Bool) (K2:Option Bool):Nat→Int→Option Bool
  |0,_=>none
  |g+1,i6=>m_spec_l06Refs_B2 d0 d1 self (m_spec_l06Refs_L2 d0 d1 self K2 g) K2 i6
noncomputable def m_spec_l06Refs_A1 (d0:DCore) (d1:Int) (self:DCore→Int→Option Bool):Option Bool:=
  (m_spec_l06Refs_L2 d0 d1 self m_spec_l06Refs_A2 (d0.kids.length+1) 0)
noncomputable def m_spec_l06Refs_B1 (d0:DCore) (d1:Int) (rec1:Int→Option Bool) (K1:Option Bool) (i26:Int):Option Bool:=
  (bif (decide (i26 < (d0.data.length:Int))) then ((getI d0.data i26).bind fun x29=>(bif (decide (x29 ≥ d1)) then some false else (rec1 (i26+1)))) else (K1))
noncomputable def m_spec_l06Refs_L1 (d0:DCore) (d1:Int) (K1:Option Bool):Nat→Int→Option Bool
  |0,_=>none
  |g+1,i26=>m_spec_l06Refs_B1 d0 d1 (m_spec_l06Refs_L1 d0 d1 K1 g) K1 i26
noncomputable def m_spec_l06Refs_A4:Option Bool:=
  some true
noncomputable def m_spec_l06Refs_B4 (d0:DCore) (d1:Int) (self:DCore→Int→Option Bool) (rec4:Int→Option Bool) (K4:Option Bool) (i43:Int):Option Bool:=
  (bif (decide (i43 < (d0.kids.length:Int))) then ((getI d0.kids i43).bind fun x46=>((self x46 d1).bind fun y57=>(bif y57 then (rec4 (i43+1)) else some false))) else (K4))
noncomputable def m_spec_l06Refs_L4 (d0:DCore) (d1:Int) (self:DCore→Int→Option Bool) (K4:Option Bool):Nat→Int→Option Bool
  |0,_=>none
  |g+1,i43=>m_spec_l06Refs_B4 d0 d1 self (m_spec_l06Refs_L4 d0 d1 self K4 g) K4 i43
noncomputable def m_spec_l06Refs_A3 (d0:DCore) (d1:Int) (self:DCore→Int→Option Bool):Option Bool:=
  (m_spec_l06Refs_L4 d0 d1 self m_spec_l06Refs_A4 (d0.kids.length+1) 0)
noncomputable def m_spec_l06Refs_B3 (d0:DCore) (d1:Int) (rec3:Int→Option Bool) (K3:Option Bool) (i63:Int):Option Bool:=
  (bif (decide (i63 < (d0.data.length:Int))) then ((getI d0.data i63).bind fun x66=>(bif (decide (x66 ≥ d1)) then some false else (rec3 (i63+1)))) else (K3))
noncomputable def m_spec_l06Refs_L3 (d0:DCore) (d1:Int) (K3:Option Bool):Nat→Int→Option Bool
  |0,_=>none
  |g+1,i63=>m_spec_l06Refs_B3 d0 d1 (m_spec_l06Refs_L3 d0 d1 K3 g) K3 i63
noncomputable def m_spec_l06Refs_R (self:DCore→Int→Option Bool) (d0:DCore) (d1:Int):Option Bool:=
  (bif (d0.kind==11) then (bif (decide (d0.value ≥ d1)) then some false else (m_spec_l06Refs_L3 d0 d1 (m_spec_l06Refs_A3 d0 d1 self) (d0.data.length+1) 0)) else (m_spec_l06Refs_L1 d0 d1 (m_spec_l06Refs_A1 d0 d1 self) (d0.data.length+1) 0))
noncomputable def m_spec_l06Refs:Nat→DCore→Int→Option Bool
  |0,_,_=>none
  |gas+1,d0,d1=>m_spec_l06Refs_R (m_spec_l06Refs gas) d0 d1
set_option maxHeartbeats 2000000 in
theorem c_m_spec_l06Refs :∀(gas:Nat) (d0:DCore) (d1:Int) (r:Bool) (hm:m_spec_l06Refs gas d0 d1=some r) (v0:Value) (w:World) (hv0:Pt coreRd w v0 d0),
    Calls Tryz.prog 173 #[v0,.int .i64 d1] w fun e w'=>e=.returned (.bool r)∧Below w.heap.size w w':=by
  intro gas
  induction gas with
  |zero=>
   intro d0 d1 r hm v0 w hv0
   cases hm
  |succ gas ih=>
   intro d0 d1 r hm v0 w hv0
   obtain ⟨ba0,oa0,csa0,rfl,hba0,hRa0,hca0⟩:=hv0
   have hSa0:=hRa0
   obtain ⟨A1,n1,c1,A2,n2,c2,rfl,⟨h1,r1⟩,⟨h2,r2⟩⟩:=(coreRd_out hRa0)
   have e1:=h1.len; subst e1
   have q1:=len_le r1
   have e2:=h2.len; subst e2
   have q2:=len_le r2
   have T:=Below.refl w.heap.size w
   obtain ⟨self,hself,hm⟩ :∃s,s=m_spec_l06Refs gas∧m_spec_l06Refs_R s d0 d1=some r:=⟨_,rfl,hm⟩
   unfold m_spec_l06Refs_R at hm
   refine enter 56 Tryz.func173 rfl rfl rfl ?_
   intro f hf
   have s0:f 0=.pointer (some ⟨ba0,oa0,none⟩):=hf 0 _ rfl
   have s1:f 1=.int .i64 d1:=hf 1 _ rfl
   refine wp_seq<|wp_rs rfl<|RQ.y rfl (Y.assign (v:=.bool false) rfl)<|RQ.nil<|then_n<|wp_seq<|wp_seq<|wp_rs rfl<|RQ.y rfl (Y.move (v:=.pointer (some ⟨ba0,oa0,none⟩)) s0)<|RQ.y rfl (Y.nilCheck rfl)<|RQ.y rfl (Y.fieldAddr (off:=0) rfl (by kernel_rfl))<|RQ.y rfl (Y.load (v:=.int .i64 d0.kind) rfl (by kernel_rfl) (eqC (cellT T (hca0 0 _ rfl))))<|RQ.y rfl (Y.binI (v:=.bool (d0.kind==11)) rfl rfl rfl)<|RQ.y rfl (Y.move (v:=.bool (d0.kind==11)) rfl) ?_
   rcases bcases (d0.kind==11) with c3|c3
   ·replace hm:=cF c3 hm
    iterate 6 refine RQ.skip (wantN (dj:=12) rfl (vb rfl c3) rfl) ?_
    refine RQ.y rfl (Y.pick (b:=false) (v:=.bool false) (vb rfl c3) rfl)<|RQ.nil<|then_n<|cond_f rfl rfl<|wp_skip<|then_n<|wp_seq<|wp_seq<|wp_rs rfl<|RQ.y rfl (Y.assign (v:=.int .i64 0) rfl)<|RQ.nil<|then_n<|wp_block ?_
    obtain ⟨K1,hK1,hm⟩ :∃K,K=(m_spec_l06Refs_A1 d0 d1 self)∧m_spec_l06Refs_L1 d0 d1 K (d0.data.length+1) 0=some r:=⟨_,rfl,hm⟩
    refine wp_loopX (fun g f w'=>∃(i26:Int),f 0=.pointer (some ⟨ba0,oa0,none⟩)∧f 1=.int .i64 d1∧f 5=.int .i64 i26∧0≤i26∧Below w.heap.size w w'∧m_spec_l06Refs_L1 d0 d1 K1 g i26=some r) 0 (fun f w'=>f 0=.pointer (some ⟨ba0,oa0,none⟩)∧f 1=.int .i64 d1∧Below w.heap.size w w'∧m_spec_l06Refs_A1 d0 d1 self  = some r) (d0.data.length+1) ⟨0,s0,s1,rfl,(by omega),T,hm⟩ ?_ ?_
    ·rintro f w4 ⟨s0_1x,s1_1x,T,hm⟩
     unfold m_spec_l06Refs_A1 at hm
     refine blk_hit (then_n ?_)
     refine wp_seq<|wp_seq<|wp_rs rfl<|RQ.y rfl (Y.assign (v:=.int .i64 0) rfl)<|RQ.nil<|then_n<|wp_block ?_
     obtain ⟨K2,hK2,hm⟩ :∃K,K=m_spec_l06Refs_A2∧m_spec_l06Refs_L2 d0 d1 self K (d0.kids.length+1) 0=some r:=⟨_,rfl,hm⟩
     refine wp_loopX (fun g f w'=>∃(i6:Int),f 0=.pointer (some ⟨ba0,oa0,none⟩)∧f 1=.int .i64 d1∧f 6=.int .i64 i6∧0≤i6∧Below w.heap.size w w'∧m_spec_l06Refs_L2 d0 d1 self K2 g i6=some r) 2 (fun f w'=>Below w.heap.size w w'∧m_spec_l06Refs_A2  = some r) (d0.kids.length+1) ⟨0,s0_1x,s1_1x,rfl,(by omega),T,hm⟩ ?_ ?_
     ·rintro f w5 ⟨T,hm⟩
      unfold m_spec_l06Refs_A2 at hm
      refine blk_hit (then_n ?_)
      refine wp_seq<|wp_rs rfl<|RQ.y rfl (Y.assign (v:=.bool true) rfl)<|RQ.nil<|then_n<|wp_ret ?_
      obtain rfl:=sj hm
      exact (ret1 rfl rfl rfl ⟨rfl,T⟩)
     rintro g f w7 ⟨i6,s0_2,s1_2,s6_2,nn6_2,T,hm⟩
     rcases g with _|g
     ·simp only [m_spec_l06Refs_L2] at hm; cases hm
     obtain ⟨rec2,hrec2,hm⟩ :∃z,z=m_spec_l06Refs_L2 d0 d1 self K2 g∧m_spec_l06Refs_B2 d0 d1 self z K2 i6=some r:=⟨_,rfl,hm⟩
     unfold m_spec_l06Refs_B2 at hm
     refine wp_seq<|wp_seq<|wp_rs rfl<|RQ.y rfl (Y.move (v:=.int .i64 i6) s6_2)<|RQ.y rfl (Y.move (v:=.pointer (some ⟨ba0,oa0,none⟩)) s0_2)<|RQ.y rfl (Y.nilCheck rfl)<|RQ.y rfl (Y.fieldAddr (off:=3) rfl (by kernel_rfl))<|RQ.y rfl (Y.load (v:=.slice A2 d0.kids.length c2) rfl (by kernel_rfl) (eqC (cellT T (hca0 3 _ rfl))))<|RQ.y rfl (Y.len (by kernel_rfl) rfl)<|RQ.y rfl (Y.binI (v:=.bool (decide (i6 < (d0.kids.length:Int)))) rfl rfl rfl)<|RQ.nil<|then_n ?_
     rcases bcases (decide (i6 < (d0.kids.length:Int))) with c8|c8
     ·replace hm:=cF c8 hm
      have pc8:=of_decide_eq_false c8
      refine cond_f rfl (vb rfl c8)<|wp_exit ?_
      exact (then_x (then_x (hit_x ⟨_,rfl,⟨T,(by rw [hK2] at hm; exact hm)⟩⟩)))
     replace hm:=cT c8 hm
     have pc8:=of_decide_eq_true c8
     refine cond_t rfl (vb rfl c8)<|wp_skip<|then_n<|wp_seq<|wp_block<|wp_seq<|wp_rb rfl<|RQ.y rfl (Y.move (v:=.pointer (some ⟨ba0,oa0,none⟩)) s0_2)<|RQ.y rfl (Y.nilCheck rfl)<|RQ.y rfl (Y.fieldAddr (off:=3) rfl (by kernel_rfl))<|RQ.y rfl (Y.load (v:=.slice A2 d0.kids.length c2) rfl (by kernel_rfl) (beC (cellT T (hca0 3 _ rfl))))<|RQ.y rfl (Y.move (v:=.int .i64 i6) s6_2) ?_
     obtain ⟨x9,hx12,hm⟩:=bnd hm
     obtain ⟨k10,hk13,hl14,hx12⟩:=getI_some hx12
     obtain ⟨b16,o17,rfl,hbb16⟩:=h2.addr (by omega)
     obtain ⟨cs11,hRcs11,hc15⟩:=h2.el hx12
     have hScs11:=hRcs11
     obtain ⟨A18,n18,c18,A19,n19,c19,rfl,⟨h18,r18⟩,⟨h19,r19⟩⟩:=(coreRd_out hRcs11)
     have e18:=h18.len; subst e18
     have q18:=len_le r18
     have e19:=h19.len; subst e19
     have q19:=len_le r19
     refine RQ.y rfl (Y.indexAddr (m:=k10) (sz:=4) rfl rfl hk13 hl14 (by kernel_rfl))<|RQ.y rfl (Y.move (v:=.int .i64 d1) s1_2) ?_
     obtain ⟨y20,e21,hm⟩:=bnd hm
     refine RQ.call rfl (am2 rfl rfl) (by kernel_rfl) (v:=.bool y20) (bel (K:=fun _=>True) fun w' hb'=>(ih x9 d1 _ (by rw [← hself]; exact e21) _ w' (ptArg coreRd_ok hbb16 hScs11 hc15 (Tt T hb'))))<|RQ.y rfl (Y.not (b':=(!y20)) rfl rfl)<|RQ.nil ?_
     intro w22 hb23
     have szw22:=hb23.size
     have T:=Tt T hb23
     refine then_n ?_
     rcases bcases y20 with c24|c24
     ·replace hm:=cF c24 hm
      refine cond_t rfl (vbn rfl c24 rfl)<|wp_seq<|wp_rs rfl<|RQ.y rfl (Y.assign (v:=.bool false) rfl)<|RQ.nil<|then_n<|wp_ret ?_
      obtain rfl:=sj hm
      exact (blk_r (then_r (then_r (hit_r (blk_r (then_r (ret1 rfl rfl rfl ⟨rfl,T⟩)))))))
     replace hm:=cT c24 hm
     refine cond_f rfl (vbn rfl c24 rfl)<|wp_skip ?_
     refine blk_n (then_n ?_)
     refine wp_rs rfl<|RQ.y rfl (Y.move (v:=.int .i64 i6) s6_2)<|RQ.y rfl (Y.binI rfl rfl (binI_add (m:=i6) (by omega)))<|RQ.y rfl (Y.assign (v:=.int .i64 (i6+1)) rfl)<|RQ.nil ?_
     exact (then_n ⟨g,_,Nat.lt_succ_self _,rfl,⟨(i6+1),s0_2,s1_2,rfl,(by omega),T,(by rw [← hrec2]; exact hm)⟩⟩)
    rintro g f w27 ⟨i26,s0_1,s1_1,s5_1,nn5_1,T,hm⟩
    rcases g with _|g
    ·simp only [m_spec_l06Refs_L1] at hm; cases hm
    obtain ⟨rec1,hrec1,hm⟩ :∃z,z=m_spec_l06Refs_L1 d0 d1 K1 g∧m_spec_l06Refs_B1 d0 d1 z K1 i26=some r:=⟨_,rfl,hm⟩
    unfold m_spec_l06Refs_B1 at hm
    refine wp_seq<|wp_seq<|wp_rs rfl<|RQ.y rfl (Y.move (v:=.int .i64 i26) s5_1)<|RQ.y rfl (Y.move (v:=.pointer (some ⟨ba0,oa0,none⟩)) s0_1)<|RQ.y rfl (Y.nilCheck rfl)<|RQ.y rfl (Y.fieldAddr (off:=2) rfl (by kernel_rfl))<|RQ.y rfl (Y.load (v:=.slice A1 d0.data.length c1) rfl (by kernel_rfl) (eqC (cellT T (hca0 2 _ rfl))))<|RQ.y rfl (Y.len (by kernel_rfl) rfl)<|RQ.y rfl (Y.binI (v:=.bool (decide (i26 < (d0.data.length:Int)))) rfl rfl rfl)<|RQ.nil<|then_n ?_
    rcases bcases (decide (i26 < (d0.data.length:Int))) with c28|c28
    ·replace hm:=cF c28 hm
     have pc28:=of_decide_eq_false c28
     refine cond_f rfl (vb rfl c28)<|wp_exit ?_
     exact (then_x (then_x (hit_x ⟨_,rfl,⟨s0_1,s1_1,T,(by rw [hK1] at hm; exact hm)⟩⟩)))
    replace hm:=cT c28 hm
    have pc28:=of_decide_eq_true c28
    refine cond_t rfl (vb rfl c28)<|wp_skip<|then_n<|wp_seq<|wp_block<|wp_seq<|wp_rs rfl<|RQ.y rfl (Y.move (v:=.pointer (some ⟨ba0,oa0,none⟩)) s0_1)<|RQ.y rfl (Y.nilCheck rfl)<|RQ.y rfl (Y.fieldAddr (off:=2) rfl (by kernel_rfl))<|RQ.y rfl (Y.load (v:=.slice A1 d0.data.length c1) rfl (by kernel_rfl) (eqC (cellT T (hca0 2 _ rfl))))<|RQ.y rfl (Y.move (v:=.int .i64 i26) s5_1) ?_
    obtain ⟨x29,hx32,hm⟩:=bnd hm
    obtain ⟨k30,hk33,hl34,hx32⟩:=getI_some hx32
    obtain ⟨b36,o37,rfl,hbb36⟩:=h1.addr (by omega)
    obtain ⟨cs31,hRcs31,hc35⟩:=h1.el hx32
    have hScs31:=hRcs31
    obtain rfl:=hRcs31
    refine RQ.y rfl (Y.indexAddr (m:=k30) (sz:=1) rfl rfl hk33 hl34 (by kernel_rfl))<|RQ.y rfl (Y.load (v:=.int .i64 x29) rfl (by kernel_rfl) (eqC (cellT T (hc35 0 _ rfl))))<|RQ.y rfl (Y.move (v:=.int .i64 d1) s1_1)<|RQ.y rfl (Y.binI (v:=.bool (decide (x29 ≥ d1))) rfl rfl rfl)<|RQ.nil<|then_n ?_
    rcases bcases (decide (x29 ≥ d1)) with c38|c38
    ·replace hm:=cF c38 hm
     have pc38:=of_decide_eq_false c38
     refine cond_f rfl (vb rfl c38)<|wp_skip ?_
     refine blk_n (then_n ?_)
     refine wp_rs rfl<|RQ.y rfl (Y.move (v:=.int .i64 i26) s5_1)<|RQ.y rfl (Y.binI rfl rfl (binI_add (m:=i26) (by omega)))<|RQ.y rfl (Y.assign (v:=.int .i64 (i26+1)) rfl)<|RQ.nil ?_
     exact (then_n ⟨g,_,Nat.lt_succ_self _,rfl,⟨(i26+1),s0_1,s1_1,rfl,(by omega),T,(by rw [← hrec1]; exact hm)⟩⟩)
    replace hm:=cT c38 hm
    have pc38:=of_decide_eq_true c38
    refine cond_t rfl (vb rfl c38)<|wp_seq<|wp_rs rfl<|RQ.y rfl (Y.assign (v:=.bool false) rfl)<|RQ.nil<|then_n<|wp_ret ?_
    obtain rfl:=sj hm
    exact (blk_r (then_r (then_r (hit_r (blk_r (then_r (ret1 rfl rfl rfl ⟨rfl,T⟩)))))))
   replace hm:=cT c3 hm
   refine RQ.y (wantT (dj:=12) rfl (vb rfl c3)) (Y.move (v:=.pointer (some ⟨ba0,oa0,none⟩)) s0)<|RQ.y (wantT (dj:=12) rfl (vb rfl c3)) (Y.nilCheck rfl)<|RQ.y (wantT (dj:=12) rfl (vb rfl c3)) (Y.fieldAddr (off:=1) rfl (by kernel_rfl))<|RQ.y (wantT (dj:=12) rfl (vb rfl c3)) (Y.load (v:=.int .i64 d0.value) rfl (by kernel_rfl) (eqC (cellT T (hca0 1 _ rfl))))<|RQ.y (wantT (dj:=12) rfl (vb rfl c3)) (Y.move (v:=.int .i64 d1) s1)<|RQ.y (wantT (dj:=12) rfl (vb rfl c3)) (Y.binI (v:=.bool (decide (d0.value ≥ d1))) rfl rfl rfl)<|RQ.y rfl (Y.pick (b:=true) (v:=.bool (decide (d0.value ≥ d1))) (vb rfl c3) rfl)<|RQ.nil<|then_n ?_
   rcases bcases (decide (d0.value ≥ d1)) with c40|c40
   ·replace hm:=cF c40 hm
    have pc40:=of_decide_eq_false c40
    refine cond_f rfl (vb rfl c40)<|wp_skip<|then_n<|wp_seq<|wp_seq<|wp_rs rfl<|RQ.y rfl (Y.assign (v:=.int .i64 0) rfl)<|RQ.nil<|then_n<|wp_block ?_
    obtain ⟨K3,hK3,hm⟩ :∃K,K=(m_spec_l06Refs_A3 d0 d1 self)∧m_spec_l06Refs_L3 d0 d1 K (d0.data.length+1) 0=some r:=⟨_,rfl,hm⟩
    refine wp_loopX (fun g f w'=>∃(i63:Int),f 0=.pointer (some ⟨ba0,oa0,none⟩)∧f 1=.int .i64 d1∧f 5=.int .i64 i63∧0≤i63∧Below w.heap.size w w'∧m_spec_l06Refs_L3 d0 d1 K3 g i63=some r) 0 (fun f w'=>f 0=.pointer (some ⟨ba0,oa0,none⟩)∧f 1=.int .i64 d1∧Below w.heap.size w w'∧m_spec_l06Refs_A3 d0 d1 self  = some r) (d0.data.length+1) ⟨0,s0,s1,rfl,(by omega),T,hm⟩ ?_ ?_
    ·rintro f w41 ⟨s0_3x,s1_3x,T,hm⟩
     unfold m_spec_l06Refs_A3 at hm
     refine blk_hit (then_n ?_)
     refine wp_seq<|wp_seq<|wp_rs rfl<|RQ.y rfl (Y.assign (v:=.int .i64 0) rfl)<|RQ.nil<|then_n<|wp_block ?_
     obtain ⟨K4,hK4,hm⟩ :∃K,K=m_spec_l06Refs_A4∧m_spec_l06Refs_L4 d0 d1 self K (d0.kids.length+1) 0=some r:=⟨_,rfl,hm⟩
     refine wp_loopX (fun g f w'=>∃(i43:Int),f 0=.pointer (some ⟨ba0,oa0,none⟩)∧f 1=.int .i64 d1∧f 6=.int .i64 i43∧0≤i43∧Below w.heap.size w w'∧m_spec_l06Refs_L4 d0 d1 self K4 g i43=some r) 2 (fun f w'=>Below w.heap.size w w'∧m_spec_l06Refs_A4  = some r) (d0.kids.length+1) ⟨0,s0_3x,s1_3x,rfl,(by omega),T,hm⟩ ?_ ?_
     ·rintro f w42 ⟨T,hm⟩
      unfold m_spec_l06Refs_A4 at hm
      refine blk_hit (then_n ?_)
      refine wp_seq<|wp_rs rfl<|RQ.y rfl (Y.assign (v:=.bool true) rfl)<|RQ.nil<|then_n<|wp_ret ?_
      obtain rfl:=sj hm
      exact (ret1 rfl rfl rfl ⟨rfl,T⟩)
     rintro g f w44 ⟨i43,s0_4,s1_4,s6_4,nn6_4,T,hm⟩
     rcases g with _|g
     ·simp only [m_spec_l06Refs_L4] at hm; cases hm
     obtain ⟨rec4,hrec4,hm⟩ :∃z,z=m_spec_l06Refs_L4 d0 d1 self K4 g∧m_spec_l06Refs_B4 d0 d1 self z K4 i43=some r:=⟨_,rfl,hm⟩
     unfold m_spec_l06Refs_B4 at hm
     refine wp_seq<|wp_seq<|wp_rs rfl<|RQ.y rfl (Y.move (v:=.int .i64 i43) s6_4)<|RQ.y rfl (Y.move (v:=.pointer (some ⟨ba0,oa0,none⟩)) s0_4)<|RQ.y rfl (Y.nilCheck rfl)<|RQ.y rfl (Y.fieldAddr (off:=3) rfl (by kernel_rfl))<|RQ.y rfl (Y.load (v:=.slice A2 d0.kids.length c2) rfl (by kernel_rfl) (eqC (cellT T (hca0 3 _ rfl))))<|RQ.y rfl (Y.len (by kernel_rfl) rfl)<|RQ.y rfl (Y.binI (v:=.bool (decide (i43 < (d0.kids.length:Int)))) rfl rfl rfl)<|RQ.nil<|then_n ?_
     rcases bcases (decide (i43 < (d0.kids.length:Int))) with c45|c45
     ·replace hm:=cF c45 hm
      have pc45:=of_decide_eq_false c45
      refine cond_f rfl (vb rfl c45)<|wp_exit ?_
      exact (then_x (then_x (hit_x ⟨_,rfl,⟨T,(by rw [hK4] at hm; exact hm)⟩⟩)))
     replace hm:=cT c45 hm
     have pc45:=of_decide_eq_true c45
     refine cond_t rfl (vb rfl c45)<|wp_skip<|then_n<|wp_seq<|wp_block<|wp_seq<|wp_rb rfl<|RQ.y rfl (Y.move (v:=.pointer (some ⟨ba0,oa0,none⟩)) s0_4)<|RQ.y rfl (Y.nilCheck rfl)<|RQ.y rfl (Y.fieldAddr (off:=3) rfl (by kernel_rfl))<|RQ.y rfl (Y.load (v:=.slice A2 d0.kids.length c2) rfl (by kernel_rfl) (beC (cellT T (hca0 3 _ rfl))))<|RQ.y rfl (Y.move (v:=.int .i64 i43) s6_4) ?_
     obtain ⟨x46,hx49,hm⟩:=bnd hm
     obtain ⟨k47,hk50,hl51,hx49⟩:=getI_some hx49
     obtain ⟨b53,o54,rfl,hbb53⟩:=h2.addr (by omega)
     obtain ⟨cs48,hRcs48,hc52⟩:=h2.el hx49
     have hScs48:=hRcs48
     obtain ⟨A55,n55,c55,A56,n56,c56,rfl,⟨h55,r55⟩,⟨h56,r56⟩⟩:=(coreRd_out hRcs48)
     have e55:=h55.len; subst e55
     have q55:=len_le r55
     have e56:=h56.len; subst e56
     have q56:=len_le r56
     refine RQ.y rfl (Y.indexAddr (m:=k47) (sz:=4) rfl rfl hk50 hl51 (by kernel_rfl))<|RQ.y rfl (Y.move (v:=.int .i64 d1) s1_4) ?_
     obtain ⟨y57,e58,hm⟩:=bnd hm
     refine RQ.call rfl (am2 rfl rfl) (by kernel_rfl) (v:=.bool y57) (bel (K:=fun _=>True) fun w' hb'=>(ih x46 d1 _ (by rw [← hself]; exact e58) _ w' (ptArg coreRd_ok hbb53 hScs48 hc52 (Tt T hb'))))<|RQ.y rfl (Y.not (b':=(!y57)) rfl rfl)<|RQ.nil ?_
     intro w59 hb60
     have szw59:=hb60.size
     have T:=Tt T hb60
     refine then_n ?_
     rcases bcases y57 with c61|c61
     ·replace hm:=cF c61 hm
      refine cond_t rfl (vbn rfl c61 rfl)<|wp_seq<|wp_rs rfl<|RQ.y rfl (Y.assign (v:=.bool false) rfl)<|RQ.nil<|then_n<|wp_ret ?_
      obtain rfl:=sj hm
      exact (blk_r (then_r (then_r (hit_r (blk_r (then_r (ret1 rfl rfl rfl ⟨rfl,T⟩)))))))
     replace hm:=cT c61 hm
     refine cond_f rfl (vbn rfl c61 rfl)<|wp_skip ?_
     refine blk_n (then_n ?_)
     refine wp_rs rfl<|RQ.y rfl (Y.move (v:=.int .i64 i43) s6_4)<|RQ.y rfl (Y.binI rfl rfl (binI_add (m:=i43) (by omega)))<|RQ.y rfl (Y.assign (v:=.int .i64 (i43+1)) rfl)<|RQ.nil ?_
     exact (then_n ⟨g,_,Nat.lt_succ_self _,rfl,⟨(i43+1),s0_4,s1_4,rfl,(by omega),T,(by rw [← hrec4]; exact hm)⟩⟩)
    rintro g f w64 ⟨i63,s0_3,s1_3,s5_3,nn5_3,T,hm⟩
    rcases g with _|g
    ·simp only [m_spec_l06Refs_L3] at hm; cases hm
    obtain ⟨rec3,hrec3,hm⟩ :∃z,z=m_spec_l06Refs_L3 d0 d1 K3 g∧m_spec_l06Refs_B3 d0 d1 z K3 i63=some r:=⟨_,rfl,hm⟩
    unfold m_spec_l06Refs_B3 at hm
    refine wp_seq<|wp_seq<|wp_rs rfl<|RQ.y rfl (Y.move (v:=.int .i64 i63) s5_3)<|RQ.y rfl (Y.move (v:=.pointer (some ⟨ba0,oa0,none⟩)) s0_3)<|RQ.y rfl (Y.nilCheck rfl)<|RQ.y rfl (Y.fieldAddr (off:=2) rfl (by kernel_rfl))<|RQ.y rfl (Y.load (v:=.slice A1 d0.data.length c1) rfl (by kernel_rfl) (eqC (cellT T (hca0 2 _ rfl))))<|RQ.y rfl (Y.len (by kernel_rfl) rfl)<|RQ.y rfl (Y.binI (v:=.bool (decide (i63 < (d0.data.length:Int)))) rfl rfl rfl)<|RQ.nil<|then_n ?_
    rcases bcases (decide (i63 < (d0.data.length:Int))) with c65|c65
    ·replace hm:=cF c65 hm
     have pc65:=of_decide_eq_false c65
     refine cond_f rfl (vb rfl c65)<|wp_exit ?_
     exact (then_x (then_x (hit_x ⟨_,rfl,⟨s0_3,s1_3,T,(by rw [hK3] at hm; exact hm)⟩⟩)))
    replace hm:=cT c65 hm
    have pc65:=of_decide_eq_true c65
    refine cond_t rfl (vb rfl c65)<|wp_skip<|then_n<|wp_seq<|wp_block<|wp_seq<|wp_rs rfl<|RQ.y rfl (Y.move (v:=.pointer (some ⟨ba0,oa0,none⟩)) s0_3)<|RQ.y rfl (Y.nilCheck rfl)<|RQ.y rfl (Y.fieldAddr (off:=2) rfl (by kernel_rfl))<|RQ.y rfl (Y.load (v:=.slice A1 d0.data.length c1) rfl (by kernel_rfl) (eqC (cellT T (hca0 2 _ rfl))))<|RQ.y rfl (Y.move (v:=.int .i64 i63) s5_3) ?_
    obtain ⟨x66,hx69,hm⟩:=bnd hm
    obtain ⟨k67,hk70,hl71,hx69⟩:=getI_some hx69
    obtain ⟨b73,o74,rfl,hbb73⟩:=h1.addr (by omega)
    obtain ⟨cs68,hRcs68,hc72⟩:=h1.el hx69
    have hScs68:=hRcs68
    obtain rfl:=hRcs68
    refine RQ.y rfl (Y.indexAddr (m:=k67) (sz:=1) rfl rfl hk70 hl71 (by kernel_rfl))<|RQ.y rfl (Y.load (v:=.int .i64 x66) rfl (by kernel_rfl) (eqC (cellT T (hc72 0 _ rfl))))<|RQ.y rfl (Y.move (v:=.int .i64 d1) s1_3)<|RQ.y rfl (Y.binI (v:=.bool (decide (x66 ≥ d1))) rfl rfl rfl)<|RQ.nil<|then_n ?_
    rcases bcases (decide (x66 ≥ d1)) with c75|c75
    ·replace hm:=cF c75 hm
     have pc75:=of_decide_eq_false c75
     refine cond_f rfl (vb rfl c75)<|wp_skip ?_
     refine blk_n (then_n ?_)
     refine wp_rs rfl<|RQ.y rfl (Y.move (v:=.int .i64 i63) s5_3)<|RQ.y rfl (Y.binI rfl rfl (binI_add (m:=i63) (by omega)))<|RQ.y rfl (Y.assign (v:=.int .i64 (i63+1)) rfl)<|RQ.nil ?_
     exact (then_n ⟨g,_,Nat.lt_succ_self _,rfl,⟨(i63+1),s0_3,s1_3,rfl,(by omega),T,(by rw [← hrec3]; exact hm)⟩⟩)
    replace hm:=cT c75 hm
    have pc75:=of_decide_eq_true c75
    refine cond_t rfl (vb rfl c75)<|wp_seq<|wp_rs rfl<|RQ.y rfl (Y.assign (v:=.bool false) rfl)<|RQ.nil<|then_n<|wp_ret ?_
    obtain rfl:=sj hm
    exact (blk_r (then_r (then_r (hit_r (blk_r (then_r (ret1 rfl rfl rfl ⟨rfl,T⟩)))))))
   replace hm:=cT c40 hm
   have pc40:=of_decide_eq_true c40
   refine cond_t rfl (vb rfl c40)<|wp_seq<|wp_rs rfl<|RQ.y rfl (Y.assign (v:=.bool false) rfl)<|RQ.nil<|then_n<|wp_ret ?_
   obtain rfl:=sj hm
   exact (then_r (ret1 rfl rfl rfl ⟨rfl,T⟩))
noncomputable def m_spec_l06Book_A1:Option Bool:=
  some true
noncomputable def m_spec_l06Book_B1 (d0:DBook) (rec1:Int→Option Bool) (K1:Option Bool) (i6:Int):Option Bool:=
  (bif (decide (i6 < (d0.defs.length:Int))) then ((getI d0.defs i6).bind fun x9=>((m_spec_l06Closed x9).bind fun y20=>(bif y20 then ((getI d0.defs i6).bind fun x25=>((m_spec_l06Refs (SizeOf.sizeOf x25) x25 (d0.defs.length:Int)).bind fun y34=>(bif y34 then (rec1 (i6+1)) else some false))) else some false))) else (K1))
noncomputable def m_spec_l06Book_L1 (d0:DBook) (K1:Option Bool):Nat→Int→Option Bool
  |0,_=>none
  |g+1,i6=>m_spec_l06Book_B1 d0 (m_spec_l06Book_L1 d0 K1 g) K1 i6
noncomputable def m_spec_l06Book (d0:DBook):Option Bool:=
  (bif (inR (d0.defs.length:Int) 1 24) then (m_spec_l06Book_L1 d0 m_spec_l06Book_A1 (d0.defs.length+1) 0) else some false)
set_option maxHeartbeats 2000000 in
theorem c_m_spec_l06Book (d0:DBook) (r:Bool) (hm:m_spec_l06Book d0=some r) (v0:Value) (w:World) (hv0:Pt bookRd w v0 d0) :
    Calls Tryz.prog 170 #[v0] w fun e w'=>e=.returned (.bool r)∧Below w.heap.size w w':=by
  obtain ⟨ba0,oa0,csa0,rfl,hba0,hRa0,hca0⟩:=hv0
  have hSa0:=hRa0
  obtain ⟨A1,n1,c1,rfl,⟨h1,r1⟩⟩:=hRa0
  have e1:=h1.len; subst e1
  have q1:=len_le r1
  have T:=Below.refl w.heap.size w
  unfold m_spec_l06Book at hm
  refine enter 43 Tryz.func170 rfl rfl rfl ?_
  intro f hf
  have s0:f 0=.pointer (some ⟨ba0,oa0,none⟩):=hf 0 _ rfl
  refine wp_seq<|wp_rs rfl<|RQ.y rfl (Y.assign (v:=.bool false) rfl)<|RQ.nil<|then_n<|wp_seq<|wp_seq<|wp_rb rfl<|RQ.y rfl (Y.move (v:=.pointer (some ⟨ba0,oa0,none⟩)) s0)<|RQ.y rfl (Y.nilCheck rfl)<|RQ.y rfl (Y.fieldAddr (off:=0) rfl (by kernel_rfl))<|RQ.y rfl (Y.load (v:=.slice A1 d0.defs.length c1) rfl (by kernel_rfl) (beC (cellT T (hca0 0 _ rfl))))<|RQ.y rfl (Y.len (by kernel_rfl) rfl)<|RQ.call rfl (am3 rfl rfl rfl) (by kernel_rfl) (v:=.bool (inR (d0.defs.length:Int) 1 24)) (bel (K:=fun _=>True) fun w' hb'=>(callB (spec_l00In (d0.defs.length:Int) 1 24 w')))<|RQ.y rfl (Y.not (b':=(!(inR (d0.defs.length:Int) 1 24))) rfl rfl)<|RQ.nil ?_
  intro w2 hb3
  have szw2:=hb3.size
  have T:=Tt T hb3
  refine then_n ?_
  rcases bcases (inR (d0.defs.length:Int) 1 24) with c4|c4
  ·replace hm:=cF c4 hm
   refine cond_t rfl (vbn rfl c4 rfl)<|wp_seq<|wp_rs rfl<|RQ.y rfl (Y.assign (v:=.bool false) rfl)<|RQ.nil<|then_n<|wp_ret ?_
   obtain rfl:=sj hm
   exact (then_r (ret1 rfl rfl rfl ⟨rfl,T⟩))
  replace hm:=cT c4 hm
  refine cond_f rfl (vbn rfl c4 rfl)<|wp_skip<|then_n<|wp_seq<|wp_seq<|wp_rs rfl<|RQ.y rfl (Y.assign (v:=.int .i64 0) rfl)<|RQ.nil<|then_n<|wp_block ?_
  obtain ⟨K1,hK1,hm⟩ :∃K,K=m_spec_l06Book_A1∧m_spec_l06Book_L1 d0 K (d0.defs.length+1) 0=some r:=⟨_,rfl,hm⟩
  refine wp_loopX (fun g f w'=>∃(i6:Int),f 0=.pointer (some ⟨ba0,oa0,none⟩)∧f 3=.int .i64 i6∧0≤i6∧Below w.heap.size w w'∧m_spec_l06Book_L1 d0 K1 g i6=some r) 0 (fun f w'=>Below w.heap.size w w'∧m_spec_l06Book_A1  = some r) (d0.defs.length+1) ⟨0,s0,rfl,(by omega),T,hm⟩ ?_ ?_
  ·rintro f w5 ⟨T,hm⟩
   unfold m_spec_l06Book_A1 at hm
   refine blk_hit (then_n ?_)
   refine wp_seq<|wp_rs rfl<|RQ.y rfl (Y.assign (v:=.bool true) rfl)<|RQ.nil<|then_n<|wp_ret ?_
   obtain rfl:=sj hm
   exact (ret1 rfl rfl rfl ⟨rfl,T⟩)
  rintro g f w7 ⟨i6,s0_1,s3_1,nn3_1,T,hm⟩
  rcases g with _|g
  ·simp only [m_spec_l06Book_L1] at hm; cases hm
  obtain ⟨rec1,hrec1,hm⟩ :∃z,z=m_spec_l06Book_L1 d0 K1 g∧m_spec_l06Book_B1 d0 z K1 i6=some r:=⟨_,rfl,hm⟩
  unfold m_spec_l06Book_B1 at hm
  refine wp_seq<|wp_seq<|wp_rs rfl<|RQ.y rfl (Y.move (v:=.int .i64 i6) s3_1)<|RQ.y rfl (Y.move (v:=.pointer (some ⟨ba0,oa0,none⟩)) s0_1)<|RQ.y rfl (Y.nilCheck rfl)<|RQ.y rfl (Y.fieldAddr (off:=0) rfl (by kernel_rfl))<|RQ.y rfl (Y.load (v:=.slice A1 d0.defs.length c1) rfl (by kernel_rfl) (eqC (cellT T (hca0 0 _ rfl))))<|RQ.y rfl (Y.len (by kernel_rfl) rfl)<|RQ.y rfl (Y.binI (v:=.bool (decide (i6 < (d0.defs.length:Int)))) rfl rfl rfl)<|RQ.nil<|then_n ?_
  rcases bcases (decide (i6 < (d0.defs.length:Int))) with c8|c8
  ·replace hm:=cF c8 hm
   have pc8:=of_decide_eq_false c8
   refine cond_f rfl (vb rfl c8)<|wp_exit ?_
   exact (then_x (then_x (hit_x ⟨_,rfl,⟨T,(by rw [hK1] at hm; exact hm)⟩⟩)))
  replace hm:=cT c8 hm
  have pc8:=of_decide_eq_true c8
  refine cond_t rfl (vb rfl c8)<|wp_skip<|then_n<|wp_seq<|wp_block<|wp_seq<|wp_rbd (by kernel_rfl) (by kernel_rfl)<|RQ.y rfl (Y.move (v:=.pointer (some ⟨ba0,oa0,none⟩)) s0_1)<|RQ.y rfl (Y.nilCheck rfl)<|RQ.y rfl (Y.fieldAddr (off:=0) rfl (by kernel_rfl))<|RQ.y rfl (Y.load (v:=.slice A1 d0.defs.length c1) rfl (by kernel_rfl) (beC (cellT T (hca0 0 _ rfl))))<|RQ.y rfl (Y.move (v:=.int .i64 i6) s3_1) ?_
  obtain ⟨x9,hx12,hm⟩:=bnd hm
  obtain ⟨k10,hk13,hl14,hx12⟩:=getI_some hx12
  obtain ⟨b16,o17,rfl,hbb16⟩:=h1.addr (by omega)
  obtain ⟨cs11,hRcs11,hc15⟩:=h1.el hx12
  have hScs11:=hRcs11
  obtain ⟨A18,n18,c18,A19,n19,c19,rfl,⟨h18,r18⟩,⟨h19,r19⟩⟩:=(coreRd_out hRcs11)
  have e18:=h18.len; subst e18
  have q18:=len_le r18
  have e19:=h19.len; subst e19
  have q19:=len_le r19
  refine RQ.y rfl (Y.indexAddr (m:=k10) (sz:=4) rfl rfl hk13 hl14 (by kernel_rfl)) ?_
  obtain ⟨y20,e21,hm⟩:=bnd hm
  refine RQ.call rfl (am1 rfl) (by kernel_rfl) (v:=.bool y20) (bel (K:=fun _=>True) fun w' hb'=>(c_m_spec_l06Closed x9 _ e21 _ w' (ptArg coreRd_ok hbb16 hScs11 hc15 (Tt T hb'))))<|RQ.y rfl (Y.not (b':=(!y20)) rfl rfl)<|RQ.y rfl (Y.move (v:=.bool (!y20)) rfl) ?_
  rcases bcases y20 with c22|c22
  ·replace hm:=cF c22 hm
   iterate 13 refine RQ.skip (wantN (dj:=28) rfl (vbn rfl c22 rfl) rfl) ?_
   refine RQ.y rfl (Y.pick (b:=true) (v:=.bool true) (vbn rfl c22 rfl) rfl)<|RQ.nil ?_
   intro w23 hb24
   have szw23:=hb24.size
   have T:=Tt T hb24
   refine then_n<|cond_t rfl rfl<|wp_seq<|wp_rs rfl<|RQ.y rfl (Y.assign (v:=.bool false) rfl)<|RQ.nil<|then_n<|wp_ret ?_
   obtain rfl:=sj hm
   exact (blk_r (then_r (then_r (hit_r (blk_r (then_r (ret1 rfl rfl rfl ⟨rfl,T⟩)))))))
  replace hm:=cT c22 hm
  refine RQ.y (wantT (dj:=28) rfl (vbn rfl c22 rfl)) (Y.move (v:=.pointer (some ⟨ba0,oa0,none⟩)) s0_1)<|RQ.y (wantT (dj:=28) rfl (vbn rfl c22 rfl)) (Y.nilCheck rfl)<|RQ.y (wantT (dj:=28) rfl (vbn rfl c22 rfl)) (Y.fieldAddr (off:=0) rfl (by kernel_rfl))<|RQ.y (wantT (dj:=28) rfl (vbn rfl c22 rfl)) (Y.load (v:=.slice (some ⟨b16,o17,none⟩) d0.defs.length c1) rfl (by kernel_rfl) (beC (cellT T (hca0 0 _ rfl))))<|RQ.y (wantT (dj:=28) rfl (vbn rfl c22 rfl)) (Y.move (v:=.int .i64 i6) s3_1) ?_
  obtain ⟨x25,hx28,hm⟩:=bnd hm
  obtain ⟨k26,hk29,hl30,hx28⟩:=getI_some hx28
  obtain ⟨cs27,hRcs27,hc31⟩:=h1.el hx28
  have hScs27:=hRcs27
  obtain ⟨A32,n32,c32,A33,n33,c33,rfl,⟨h32,r32⟩,⟨h33,r33⟩⟩:=(coreRd_out hRcs27)
  have e32:=h32.len; subst e32
  have q32:=len_le r32
  have e33:=h33.len; subst e33
  have q33:=len_le r33
  refine RQ.y (wantT (dj:=28) rfl (vbn rfl c22 rfl)) (Y.indexAddr (m:=k26) (sz:=4) rfl rfl hk29 hl30 (by kernel_rfl))<|RQ.y (wantT (dj:=28) rfl (vbn rfl c22 rfl)) (Y.move (v:=.pointer (some ⟨ba0,oa0,none⟩)) s0_1)<|RQ.y (wantT (dj:=28) rfl (vbn rfl c22 rfl)) (Y.nilCheck rfl)<|RQ.y (wantT (dj:=28) rfl (vbn rfl c22 rfl)) (Y.fieldAddr (off:=0) rfl (by kernel_rfl))<|RQ.y (wantT (dj:=28) rfl (vbn rfl c22 rfl)) (Y.load (v:=.slice (some ⟨b16,o17,none⟩) d0.defs.length c1) rfl (by kernel_rfl) (beC (cellT T (hca0 0 _ rfl))))<|RQ.y (wantT (dj:=28) rfl (vbn rfl c22 rfl)) (Y.len (by kernel_rfl) rfl) ?_
  obtain ⟨y34,e35,hm⟩:=bnd hm
  refine RQ.call (wantT (dj:=28) rfl (vbn rfl c22 rfl)) (am2 rfl rfl) (by kernel_rfl) (v:=.bool y34) (bel (K:=fun _=>True) fun w' hb'=>(c_m_spec_l06Refs (SizeOf.sizeOf x25) x25 (d0.defs.length:Int) _ e35 _ w' (ptArg coreRd_ok hbb16 hScs27 hc31 (Tt T hb'))))<|RQ.y (wantT (dj:=28) rfl (vbn rfl c22 rfl)) (Y.not (b':=(!y34)) rfl rfl)<|RQ.y rfl (Y.pick (b:=false) (v:=.bool (!y34)) (vbn rfl c22 rfl) rfl)<|RQ.nil ?_
  intro w36 hb37
  have szw36:=hb37.size
  have T:=Tt T hb37
  refine then_n ?_
  rcases bcases y34 with c38|c38
  ·replace hm:=cF c38 hm
   refine cond_t rfl (vbn rfl c38 rfl)<|wp_seq<|wp_rs rfl<|RQ.y rfl (Y.assign (v:=.bool false) rfl)<|RQ.nil<|then_n<|wp_ret ?_
   obtain rfl:=sj hm
   exact (blk_r (then_r (then_r (hit_r (blk_r (then_r (ret1 rfl rfl rfl ⟨rfl,T⟩)))))))
  replace hm:=cT c38 hm
  refine cond_f rfl (vbn rfl c38 rfl)<|wp_skip ?_
  refine blk_n (then_n ?_)
  refine wp_rs rfl<|RQ.y rfl (Y.move (v:=.int .i64 i6) s3_1)<|RQ.y rfl (Y.binI rfl rfl (binI_add (m:=i6) (by omega)))<|RQ.y rfl (Y.assign (v:=.int .i64 (i6+1)) rfl)<|RQ.nil ?_
  exact (then_n ⟨g,_,Nat.lt_succ_self _,rfl,⟨(i6+1),s0_1,rfl,(by omega),T,(by rw [← hrec1]; exact hm)⟩⟩)
noncomputable def m_spec_l09Book_A1:Option Bool:=
  some true
noncomputable def m_spec_l09Book_B1 (d0:DBook) (rec1:Int→Option Bool) (K1:Option Bool) (i8:Int):Option Bool:=
  (bif (decide (i8 < (d0.defs.length:Int))) then ((getI d0.defs i8).bind fun x11=>((m_spec_l06Erased (SizeOf.sizeOf x11) x11).bind fun y22=>(bif y22 then (rec1 (i8+1)) else some false))) else (K1))
noncomputable def m_spec_l09Book_L1 (d0:DBook) (K1:Option Bool):Nat→Int→Option Bool
  |0,_=>none
  |g+1,i8=>m_spec_l09Book_B1 d0 (m_spec_l09Book_L1 d0 K1 g) K1 i8
noncomputable def m_spec_l09Book (d0:DBook):Option Bool:=
  ((m_spec_l06Book d0).bind fun y2=>(bif y2 then (m_spec_l09Book_L1 d0 m_spec_l09Book_A1 (d0.defs.length+1) 0) else some false))
set_option maxHeartbeats 2000000 in
theorem c_m_spec_l09Book (d0:DBook) (r:Bool) (hm:m_spec_l09Book d0=some r) (v0:Value) (w:World) (hv0:Pt bookRd w v0 d0) :
    Calls Tryz.prog 109 #[v0] w fun e w'=>e=.returned (.bool r)∧Below w.heap.size w w':=by
  obtain ⟨ba0,oa0,csa0,rfl,hba0,hRa0,hca0⟩:=hv0
  have hSa0:=hRa0
  obtain ⟨A1,n1,c1,rfl,⟨h1,r1⟩⟩:=hRa0
  have e1:=h1.len; subst e1
  have q1:=len_le r1
  have T:=Below.refl w.heap.size w
  unfold m_spec_l09Book at hm
  refine enter 24 Tryz.func109 rfl rfl rfl ?_
  intro f hf
  have s0:f 0=.pointer (some ⟨ba0,oa0,none⟩):=hf 0 _ rfl
  refine wp_seq<|wp_rs rfl<|RQ.y rfl (Y.assign (v:=.bool false) rfl)<|RQ.nil<|then_n<|wp_seq<|wp_seq<|wp_rb rfl<|RQ.y rfl (Y.move (v:=.pointer (some ⟨ba0,oa0,none⟩)) s0) ?_
  obtain ⟨y2,e3,hm⟩:=bnd hm
  refine RQ.call rfl (am1 rfl) (by kernel_rfl) (v:=.bool y2) (bel (K:=fun _=>True) fun w' hb'=>(c_m_spec_l06Book d0 _ e3 _ w' (ptArg bookRd_ok hba0 hSa0 hca0 (Tt T hb'))))<|RQ.y rfl (Y.not (b':=(!y2)) rfl rfl)<|RQ.nil ?_
  intro w4 hb5
  have szw4:=hb5.size
  have T:=Tt T hb5
  refine then_n ?_
  rcases bcases y2 with c6|c6
  ·replace hm:=cF c6 hm
   refine cond_t rfl (vbn rfl c6 rfl)<|wp_seq<|wp_rs rfl<|RQ.y rfl (Y.assign (v:=.bool false) rfl)<|RQ.nil<|then_n<|wp_ret ?_
   obtain rfl:=sj hm
   exact (then_r (ret1 rfl rfl rfl ⟨rfl,T⟩))
  replace hm:=cT c6 hm
  refine cond_f rfl (vbn rfl c6 rfl)<|wp_skip<|then_n<|wp_seq<|wp_seq<|wp_rs rfl<|RQ.y rfl (Y.assign (v:=.int .i64 0) rfl)<|RQ.nil<|then_n<|wp_block ?_
  obtain ⟨K1,hK1,hm⟩ :∃K,K=m_spec_l09Book_A1∧m_spec_l09Book_L1 d0 K (d0.defs.length+1) 0=some r:=⟨_,rfl,hm⟩
  refine wp_loopX (fun g f w'=>∃(i8:Int),f 0=.pointer (some ⟨ba0,oa0,none⟩)∧f 3=.int .i64 i8∧0≤i8∧Below w.heap.size w w'∧m_spec_l09Book_L1 d0 K1 g i8=some r) 0 (fun f w'=>Below w.heap.size w w'∧m_spec_l09Book_A1  = some r) (d0.defs.length+1) ⟨0,s0,rfl,(by omega),T,hm⟩ ?_ ?_
  ·rintro f w7 ⟨T,hm⟩
   unfold m_spec_l09Book_A1 at hm
   refine blk_hit (then_n ?_)
   refine wp_seq<|wp_rs rfl<|RQ.y rfl (Y.assign (v:=.bool true) rfl)<|RQ.nil<|then_n<|wp_ret ?_
   obtain rfl:=sj hm
   exact (ret1 rfl rfl rfl ⟨rfl,T⟩)
  rintro g f w9 ⟨i8,s0_1,s3_1,nn3_1,T,hm⟩
  rcases g with _|g
  ·simp only [m_spec_l09Book_L1] at hm; cases hm
  obtain ⟨rec1,hrec1,hm⟩ :∃z,z=m_spec_l09Book_L1 d0 K1 g∧m_spec_l09Book_B1 d0 z K1 i8=some r:=⟨_,rfl,hm⟩
  unfold m_spec_l09Book_B1 at hm
  refine wp_seq<|wp_seq<|wp_rs rfl<|RQ.y rfl (Y.move (v:=.int .i64 i8) s3_1)<|RQ.y rfl (Y.move (v:=.pointer (some ⟨ba0,oa0,none⟩)) s0_1)<|RQ.y rfl (Y.nilCheck rfl)<|RQ.y rfl (Y.fieldAddr (off:=0) rfl (by kernel_rfl))<|RQ.y rfl (Y.load (v:=.slice A1 d0.defs.length c1) rfl (by kernel_rfl) (eqC (cellT T (hca0 0 _ rfl))))<|RQ.y rfl (Y.len (by kernel_rfl) rfl)<|RQ.y rfl (Y.binI (v:=.bool (decide (i8 < (d0.defs.length:Int)))) rfl rfl rfl)<|RQ.nil<|then_n ?_
  rcases bcases (decide (i8 < (d0.defs.length:Int))) with c10|c10
  ·replace hm:=cF c10 hm
   have pc10:=of_decide_eq_false c10
   refine cond_f rfl (vb rfl c10)<|wp_exit ?_
   exact (then_x (then_x (hit_x ⟨_,rfl,⟨T,(by rw [hK1] at hm; exact hm)⟩⟩)))
  replace hm:=cT c10 hm
  have pc10:=of_decide_eq_true c10
  refine cond_t rfl (vb rfl c10)<|wp_skip<|then_n<|wp_seq<|wp_block<|wp_seq<|wp_rb rfl<|RQ.y rfl (Y.move (v:=.pointer (some ⟨ba0,oa0,none⟩)) s0_1)<|RQ.y rfl (Y.nilCheck rfl)<|RQ.y rfl (Y.fieldAddr (off:=0) rfl (by kernel_rfl))<|RQ.y rfl (Y.load (v:=.slice A1 d0.defs.length c1) rfl (by kernel_rfl) (beC (cellT T (hca0 0 _ rfl))))<|RQ.y rfl (Y.move (v:=.int .i64 i8) s3_1) ?_
  obtain ⟨x11,hx14,hm⟩:=bnd hm
  obtain ⟨k12,hk15,hl16,hx14⟩:=getI_some hx14
  obtain ⟨b18,o19,rfl,hbb18⟩:=h1.addr (by omega)
  obtain ⟨cs13,hRcs13,hc17⟩:=h1.el hx14
  have hScs13:=hRcs13
  obtain ⟨A20,n20,c20,A21,n21,c21,rfl,⟨h20,r20⟩,⟨h21,r21⟩⟩:=(coreRd_out hRcs13)
  have e20:=h20.len; subst e20
  have q20:=len_le r20
  have e21:=h21.len; subst e21
  have q21:=len_le r21
  refine RQ.y rfl (Y.indexAddr (m:=k12) (sz:=4) rfl rfl hk15 hl16 (by kernel_rfl)) ?_
  obtain ⟨y22,e23,hm⟩:=bnd hm
  refine RQ.call rfl (am1 rfl) (by kernel_rfl) (v:=.bool y22) (bel (K:=fun _=>True) fun w' hb'=>(c_m_spec_l06Erased (SizeOf.sizeOf x11) x11 _ e23 _ w' (ptArg coreRd_ok hbb18 hScs13 hc17 (Tt T hb'))))<|RQ.y rfl (Y.not (b':=(!y22)) rfl rfl)<|RQ.nil ?_
  intro w24 hb25
  have szw24:=hb25.size
  have T:=Tt T hb25
  refine then_n ?_
  rcases bcases y22 with c26|c26
  ·replace hm:=cF c26 hm
   refine cond_t rfl (vbn rfl c26 rfl)<|wp_seq<|wp_rs rfl<|RQ.y rfl (Y.assign (v:=.bool false) rfl)<|RQ.nil<|then_n<|wp_ret ?_
   obtain rfl:=sj hm
   exact (blk_r (then_r (then_r (hit_r (blk_r (then_r (ret1 rfl rfl rfl ⟨rfl,T⟩)))))))
  replace hm:=cT c26 hm
  refine cond_f rfl (vbn rfl c26 rfl)<|wp_skip ?_
  refine blk_n (then_n ?_)
  refine wp_rs rfl<|RQ.y rfl (Y.move (v:=.int .i64 i8) s3_1)<|RQ.y rfl (Y.binI rfl rfl (binI_add (m:=i8) (by omega)))<|RQ.y rfl (Y.assign (v:=.int .i64 (i8+1)) rfl)<|RQ.nil ?_
  exact (then_n ⟨g,_,Nat.lt_succ_self _,rfl,⟨(i8+1),s0_1,rfl,(by omega),T,(by rw [← hrec1]; exact hm)⟩⟩)
noncomputable def m_spec_l09Closure_A1:Option Bool:=
  some true
noncomputable def m_spec_l09Closure_B1 (d1:DClosure) (d2:Int) (rec1:Int→Option Bool) (K1:Option Bool) (i27:Int):Option Bool:=
  (bif (decide (i27 < (d1.env.length:Int))) then ((getI d1.env i27).bind fun x30=>((ck (d2 - 1)).bind fun s39=>(bif (inR x30 0 s39) then (rec1 (i27+1)) else some false))) else (K1))
noncomputable def m_spec_l09Closure_L1 (d1:DClosure) (d2:Int) (K1:Option Bool):Nat→Int→Option Bool
  |0,_=>none
  |g+1,i27=>m_spec_l09Closure_B1 d1 d2 (m_spec_l09Closure_L1 d1 d2 K1 g) K1 i27
noncomputable def m_spec_l09Closure (d0:DBook) (d1:DClosure) (d2:Int):Option Bool:=
  ((m_spec_l06Ok d1.term).bind fun y5=>(bif y5 then ((m_spec_l06Erased (SizeOf.sizeOf d1.term) d1.term).bind fun y10=>(bif y10 then ((m_spec_l06Refs (SizeOf.sizeOf d1.term) d1.term (d0.defs.length:Int)).bind fun y15=>(bif y15 then ((m_spec_l06Above (SizeOf.sizeOf d1.term) d1.term (d1.env.length:Int)).bind fun y20=>(bif y20 then some false else (bif (decide ((d1.env.length:Int) > 256)) then some false else (m_spec_l09Closure_L1 d1 d2 m_spec_l09Closure_A1 (d1.env.length+1) 0)))) else some false)) else some false)) else some false))
set_option maxHeartbeats 2000000 in
theorem c_m_spec_l09Closure (d0:DBook) (d1:DClosure) (d2:Int) (r:Bool) (hm:m_spec_l09Closure d0 d1 d2=some r) (v0:Value) (v1:Value) (w:World) (hv0:Pt bookRd w v0 d0) (hv1:Pt closureRd w v1 d1) :
    Calls Tryz.prog 110 #[v0,v1,.int .i64 d2] w fun e w'=>e=.returned (.bool r)∧Below w.heap.size w w':=by
  obtain ⟨ba0,oa0,csa0,rfl,hba0,hRa0,hca0⟩:=hv0
  have hSa0:=hRa0
  obtain ⟨A1,n1,c1,rfl,⟨h1,r1⟩⟩:=hRa0
  have e1:=h1.len; subst e1
  have q1:=len_le r1
  obtain ⟨ba1,oa1,csa1,rfl,hba1,hRa1,hca1⟩:=hv1
  have hSa1:=hRa1
  obtain ⟨A2,n2,c2,A3,n3,c3,A4,n4,c4,rfl,⟨h2,r2⟩,⟨h3,r3⟩,⟨h4,r4⟩⟩:=hRa1
  have e2:=h2.len; subst e2
  have q2:=len_le r2
  have e3:=h3.len; subst e3
  have q3:=len_le r3
  have e4:=h4.len; subst e4
  have q4:=len_le r4
  have T:=Below.refl w.heap.size w
  unfold m_spec_l09Closure at hm
  refine enter 71 Tryz.func110 rfl rfl rfl ?_
  intro f hf
  have s0:f 0=.pointer (some ⟨ba0,oa0,none⟩):=hf 0 _ rfl
  have s1:f 1=.pointer (some ⟨ba1,oa1,none⟩):=hf 1 _ rfl
  have s2:f 2=.int .i64 d2:=hf 2 _ rfl
  refine wp_seq<|wp_rs rfl<|RQ.y rfl (Y.assign (v:=.bool false) rfl)<|RQ.nil<|then_n<|wp_seq<|wp_seq<|wp_rbd (by kernel_rfl) (by kernel_rfl)<|RQ.y rfl (Y.move (v:=.pointer (some ⟨ba1,oa1,none⟩)) s1)<|RQ.y rfl (Y.nilCheck rfl)<|RQ.y rfl (Y.fieldAddr (off:=0) rfl (by kernel_rfl)) ?_
  obtain ⟨y5,e6,hm⟩:=bnd hm
  refine RQ.call rfl (am1 rfl) (by kernel_rfl) (v:=.bool y5) (bel (K:=fun _=>True) fun w' hb'=>(c_m_spec_l06Ok d1.term _ e6 _ w' (ptSub (R:=coreRd) coreRd_ok hba1 (pre:=[]) (cs:=[.int .i64 d1.term.kind,.int .i64 d1.term.value,.slice A2 d1.term.data.length c2,.slice A3 d1.term.kids.length c3]) (post:=[.slice A4 d1.env.length c4]) (coreRd_in ⟨_,_,_,_,_,_,rfl,⟨h2,r2⟩,⟨h3,r3⟩⟩) hca1 (Tt T hb'))))<|RQ.y rfl (Y.not (b':=(!y5)) rfl rfl)<|RQ.y rfl (Y.move (v:=.bool (!y5)) rfl) ?_
  rcases bcases y5 with c7|c7
  ·replace hm:=cF c7 hm
   iterate 5 refine RQ.skip (wantN (dj:=13) rfl (vbn rfl c7 rfl) rfl) ?_
   refine RQ.y rfl (Y.pick (b:=true) (v:=.bool true) (vbn rfl c7 rfl) rfl)<|RQ.y rfl (Y.move (v:=.bool true) rfl) ?_
   iterate 10 refine RQ.skip (wantN (dj:=20) rfl rfl rfl) ?_
   refine RQ.y rfl (Y.pick (b:=true) (v:=.bool true) rfl rfl)<|RQ.y rfl (Y.move (v:=.bool true) rfl) ?_
   iterate 9 refine RQ.skip (wantN (dj:=32) rfl rfl rfl) ?_
   refine RQ.y rfl (Y.pick (b:=true) (v:=.bool true) rfl rfl)<|RQ.y rfl (Y.move (v:=.bool true) rfl) ?_
   iterate 6 refine RQ.skip (wantN (dj:=43) rfl rfl rfl) ?_
   refine RQ.y rfl (Y.pick (b:=true) (v:=.bool true) rfl rfl)<|RQ.nil ?_
   intro w8 hb9
   have szw8:=hb9.size
   have T:=Tt T hb9
   refine then_n<|cond_t rfl rfl<|wp_seq<|wp_rs rfl<|RQ.y rfl (Y.assign (v:=.bool false) rfl)<|RQ.nil<|then_n<|wp_ret ?_
   obtain rfl:=sj hm
   exact (then_r (ret1 rfl rfl rfl ⟨rfl,T⟩))
  replace hm:=cT c7 hm
  refine RQ.y (wantT (dj:=13) rfl (vbn rfl c7 rfl)) (Y.move (v:=.pointer (some ⟨ba1,oa1,none⟩)) s1)<|RQ.y (wantT (dj:=13) rfl (vbn rfl c7 rfl)) (Y.nilCheck rfl)<|RQ.y (wantT (dj:=13) rfl (vbn rfl c7 rfl)) (Y.fieldAddr (off:=0) rfl (by kernel_rfl)) ?_
  obtain ⟨y10,e11,hm⟩:=bnd hm
  refine RQ.call (wantT (dj:=13) rfl (vbn rfl c7 rfl)) (am1 rfl) (by kernel_rfl) (v:=.bool y10) (bel (K:=fun _=>True) fun w' hb'=>(c_m_spec_l06Erased (SizeOf.sizeOf d1.term) d1.term _ e11 _ w' (ptSub (R:=coreRd) coreRd_ok hba1 (pre:=[]) (cs:=[.int .i64 d1.term.kind,.int .i64 d1.term.value,.slice A2 d1.term.data.length c2,.slice A3 d1.term.kids.length c3]) (post:=[.slice A4 d1.env.length c4]) (coreRd_in ⟨_,_,_,_,_,_,rfl,⟨h2,r2⟩,⟨h3,r3⟩⟩) hca1 (Tt T hb'))))<|RQ.y (wantT (dj:=13) rfl (vbn rfl c7 rfl)) (Y.not (b':=(!y10)) rfl rfl)<|RQ.y rfl (Y.pick (b:=false) (v:=.bool (!y10)) (vbn rfl c7 rfl) rfl)<|RQ.y rfl (Y.move (v:=.bool (!y10)) rfl) ?_
  rcases bcases y10 with c12|c12
  ·replace hm:=cF c12 hm
   iterate 10 refine RQ.skip (wantN (dj:=20) rfl (vbn rfl c12 rfl) rfl) ?_
   refine RQ.y rfl (Y.pick (b:=true) (v:=.bool true) (vbn rfl c12 rfl) rfl)<|RQ.y rfl (Y.move (v:=.bool true) rfl) ?_
   iterate 9 refine RQ.skip (wantN (dj:=32) rfl rfl rfl) ?_
   refine RQ.y rfl (Y.pick (b:=true) (v:=.bool true) rfl rfl)<|RQ.y rfl (Y.move (v:=.bool true) rfl) ?_
   iterate 6 refine RQ.skip (wantN (dj:=43) rfl rfl rfl) ?_
   refine RQ.y rfl (Y.pick (b:=true) (v:=.bool true) rfl rfl)<|RQ.nil ?_
   intro w13 hb14
   have szw13:=hb14.size
   have T:=Tt T hb14
   refine then_n<|cond_t rfl rfl<|wp_seq<|wp_rs rfl<|RQ.y rfl (Y.assign (v:=.bool false) rfl)<|RQ.nil<|then_n<|wp_ret ?_
   obtain rfl:=sj hm
   exact (then_r (ret1 rfl rfl rfl ⟨rfl,T⟩))
  replace hm:=cT c12 hm
  refine RQ.y (wantT (dj:=20) rfl (vbn rfl c12 rfl)) (Y.move (v:=.pointer (some ⟨ba1,oa1,none⟩)) s1)<|RQ.y (wantT (dj:=20) rfl (vbn rfl c12 rfl)) (Y.nilCheck rfl)<|RQ.y (wantT (dj:=20) rfl (vbn rfl c12 rfl)) (Y.fieldAddr (off:=0) rfl (by kernel_rfl))<|RQ.y (wantT (dj:=20) rfl (vbn rfl c12 rfl)) (Y.move (v:=.pointer (some ⟨ba0,oa0,none⟩)) s0)<|RQ.y (wantT (dj:=20) rfl (vbn rfl c12 rfl)) (Y.nilCheck rfl)<|RQ.y (wantT (dj:=20) rfl (vbn rfl c12 rfl)) (Y.fieldAddr (off:=0) rfl (by kernel_rfl))<|RQ.y (wantT (dj:=20) rfl (vbn rfl c12 rfl)) (Y.load (v:=.slice A1 d0.defs.length c1) rfl (by kernel_rfl) (beC (cellT T (hca0 0 _ rfl))))<|RQ.y (wantT (dj:=20) rfl (vbn rfl c12 rfl)) (Y.len (by kernel_rfl) rfl) ?_
  obtain ⟨y15,e16,hm⟩:=bnd hm
  refine RQ.call (wantT (dj:=20) rfl (vbn rfl c12 rfl)) (am2 rfl rfl) (by kernel_rfl) (v:=.bool y15) (bel (K:=fun _=>True) fun w' hb'=>(c_m_spec_l06Refs (SizeOf.sizeOf d1.term) d1.term (d0.defs.length:Int) _ e16 _ w' (ptSub (R:=coreRd) coreRd_ok hba1 (pre:=[]) (cs:=[.int .i64 d1.term.kind,.int .i64 d1.term.value,.slice A2 d1.term.data.length c2,.slice A3 d1.term.kids.length c3]) (post:=[.slice A4 d1.env.length c4]) (coreRd_in ⟨_,_,_,_,_,_,rfl,⟨h2,r2⟩,⟨h3,r3⟩⟩) hca1 (Tt T hb'))))<|RQ.y (wantT (dj:=20) rfl (vbn rfl c12 rfl)) (Y.not (b':=(!y15)) rfl rfl)<|RQ.y rfl (Y.pick (b:=false) (v:=.bool (!y15)) (vbn rfl c12 rfl) rfl)<|RQ.y rfl (Y.move (v:=.bool (!y15)) rfl) ?_
  rcases bcases y15 with c17|c17
  ·replace hm:=cF c17 hm
   iterate 9 refine RQ.skip (wantN (dj:=32) rfl (vbn rfl c17 rfl) rfl) ?_
   refine RQ.y rfl (Y.pick (b:=true) (v:=.bool true) (vbn rfl c17 rfl) rfl)<|RQ.y rfl (Y.move (v:=.bool true) rfl) ?_
   iterate 6 refine RQ.skip (wantN (dj:=43) rfl rfl rfl) ?_
   refine RQ.y rfl (Y.pick (b:=true) (v:=.bool true) rfl rfl)<|RQ.nil ?_
   intro w18 hb19
   have szw18:=hb19.size
   have T:=Tt T hb19
   refine then_n<|cond_t rfl rfl<|wp_seq<|wp_rs rfl<|RQ.y rfl (Y.assign (v:=.bool false) rfl)<|RQ.nil<|then_n<|wp_ret ?_
   obtain rfl:=sj hm
   exact (then_r (ret1 rfl rfl rfl ⟨rfl,T⟩))
  replace hm:=cT c17 hm
  refine RQ.y (wantT (dj:=32) rfl (vbn rfl c17 rfl)) (Y.move (v:=.pointer (some ⟨ba1,oa1,none⟩)) s1)<|RQ.y (wantT (dj:=32) rfl (vbn rfl c17 rfl)) (Y.nilCheck rfl)<|RQ.y (wantT (dj:=32) rfl (vbn rfl c17 rfl)) (Y.fieldAddr (off:=0) rfl (by kernel_rfl))<|RQ.y (wantT (dj:=32) rfl (vbn rfl c17 rfl)) (Y.move (v:=.pointer (some ⟨ba1,oa1,none⟩)) s1)<|RQ.y (wantT (dj:=32) rfl (vbn rfl c17 rfl)) (Y.nilCheck rfl)<|RQ.y (wantT (dj:=32) rfl (vbn rfl c17 rfl)) (Y.fieldAddr (off:=4) rfl (by kernel_rfl))<|RQ.y (wantT (dj:=32) rfl (vbn rfl c17 rfl)) (Y.load (v:=.slice A4 d1.env.length c4) rfl (by kernel_rfl) (beC (cellT T (hca1 4 _ rfl))))<|RQ.y (wantT (dj:=32) rfl (vbn rfl c17 rfl)) (Y.len (by kernel_rfl) rfl) ?_
  obtain ⟨y20,e21,hm⟩:=bnd hm
  refine RQ.call (wantT (dj:=32) rfl (vbn rfl c17 rfl)) (am2 rfl rfl) (by kernel_rfl) (v:=.bool y20) (bel (K:=fun _=>True) fun w' hb'=>(c_m_spec_l06Above (SizeOf.sizeOf d1.term) d1.term (d1.env.length:Int) _ e21 _ w' (ptSub (R:=coreRd) coreRd_ok hba1 (pre:=[]) (cs:=[.int .i64 d1.term.kind,.int .i64 d1.term.value,.slice A2 d1.term.data.length c2,.slice A3 d1.term.kids.length c3]) (post:=[.slice A4 d1.env.length c4]) (coreRd_in ⟨_,_,_,_,_,_,rfl,⟨h2,r2⟩,⟨h3,r3⟩⟩) hca1 (Tt T hb'))))<|RQ.y rfl (Y.pick (b:=false) (v:=.bool y20) (vbn rfl c17 rfl) rfl)<|RQ.y rfl (Y.move (v:=.bool y20) rfl) ?_
  rcases bcases y20 with c22|c22
  ·replace hm:=cF c22 hm
   refine RQ.y (wantT (dj:=43) rfl (vb rfl c22)) (Y.move (v:=.pointer (some ⟨ba1,oa1,none⟩)) s1)<|RQ.y (wantT (dj:=43) rfl (vb rfl c22)) (Y.nilCheck rfl)<|RQ.y (wantT (dj:=43) rfl (vb rfl c22)) (Y.fieldAddr (off:=4) rfl (by kernel_rfl))<|RQ.y (wantT (dj:=43) rfl (vb rfl c22)) (Y.load (v:=.slice A4 d1.env.length c4) rfl (by kernel_rfl) (beC (cellT T (hca1 4 _ rfl))))<|RQ.y (wantT (dj:=43) rfl (vb rfl c22)) (Y.len (by kernel_rfl) rfl)<|RQ.y (wantT (dj:=43) rfl (vb rfl c22)) (Y.binI (v:=.bool (decide ((d1.env.length:Int) > 256))) rfl rfl rfl)<|RQ.y rfl (Y.pick (b:=false) (v:=.bool (decide ((d1.env.length:Int) > 256))) (vb rfl c22) rfl)<|RQ.nil ?_
   intro w23 hb24
   have szw23:=hb24.size
   have T:=Tt T hb24
   refine then_n ?_
   rcases bcases (decide ((d1.env.length:Int) > 256)) with c25|c25
   ·replace hm:=cF c25 hm
    have pc25:=of_decide_eq_false c25
    refine cond_f rfl (vb rfl c25)<|wp_skip<|then_n<|wp_seq<|wp_seq<|wp_rs rfl<|RQ.y rfl (Y.assign (v:=.int .i64 0) rfl)<|RQ.nil<|then_n<|wp_block ?_
    obtain ⟨K1,hK1,hm⟩ :∃K,K=m_spec_l09Closure_A1∧m_spec_l09Closure_L1 d1 d2 K (d1.env.length+1) 0=some r:=⟨_,rfl,hm⟩
    refine wp_loopX (fun g f w'=>∃(i27:Int),f 1=.pointer (some ⟨ba1,oa1,none⟩)∧f 2=.int .i64 d2∧f 7=.int .i64 i27∧0≤i27∧Below w.heap.size w w'∧m_spec_l09Closure_L1 d1 d2 K1 g i27=some r) 0 (fun f w'=>Below w.heap.size w w'∧m_spec_l09Closure_A1  = some r) (d1.env.length+1) ⟨0,s1,s2,rfl,(by omega),T,hm⟩ ?_ ?_
    ·rintro f w26 ⟨T,hm⟩
     unfold m_spec_l09Closure_A1 at hm
     refine blk_hit (then_n ?_)
     refine wp_seq<|wp_rs rfl<|RQ.y rfl (Y.assign (v:=.bool true) rfl)<|RQ.nil<|then_n<|wp_ret ?_
     obtain rfl:=sj hm
     exact (ret1 rfl rfl rfl ⟨rfl,T⟩)
    rintro g f w28 ⟨i27,s1_1,s2_1,s7_1,nn7_1,T,hm⟩
    rcases g with _|g
    ·simp only [m_spec_l09Closure_L1] at hm; cases hm
    obtain ⟨rec1,hrec1,hm⟩ :∃z,z=m_spec_l09Closure_L1 d1 d2 K1 g∧m_spec_l09Closure_B1 d1 d2 z K1 i27=some r:=⟨_,rfl,hm⟩
    unfold m_spec_l09Closure_B1 at hm
    refine wp_seq<|wp_seq<|wp_rs rfl<|RQ.y rfl (Y.move (v:=.int .i64 i27) s7_1)<|RQ.y rfl (Y.move (v:=.pointer (some ⟨ba1,oa1,none⟩)) s1_1)<|RQ.y rfl (Y.nilCheck rfl)<|RQ.y rfl (Y.fieldAddr (off:=4) rfl (by kernel_rfl))<|RQ.y rfl (Y.load (v:=.slice A4 d1.env.length c4) rfl (by kernel_rfl) (eqC (cellT T (hca1 4 _ rfl))))<|RQ.y rfl (Y.len (by kernel_rfl) rfl)<|RQ.y rfl (Y.binI (v:=.bool (decide (i27 < (d1.env.length:Int)))) rfl rfl rfl)<|RQ.nil<|then_n ?_
    rcases bcases (decide (i27 < (d1.env.length:Int))) with c29|c29
    ·replace hm:=cF c29 hm
     have pc29:=of_decide_eq_false c29
     refine cond_f rfl (vb rfl c29)<|wp_exit ?_
     exact (then_x (then_x (hit_x ⟨_,rfl,⟨T,(by rw [hK1] at hm; exact hm)⟩⟩)))
    replace hm:=cT c29 hm
    have pc29:=of_decide_eq_true c29
    refine cond_t rfl (vb rfl c29)<|wp_skip<|then_n<|wp_seq<|wp_block<|wp_seq<|wp_rb rfl<|RQ.y rfl (Y.move (v:=.pointer (some ⟨ba1,oa1,none⟩)) s1_1)<|RQ.y rfl (Y.nilCheck rfl)<|RQ.y rfl (Y.fieldAddr (off:=4) rfl (by kernel_rfl))<|RQ.y rfl (Y.load (v:=.slice A4 d1.env.length c4) rfl (by kernel_rfl) (beC (cellT T (hca1 4 _ rfl))))<|RQ.y rfl (Y.move (v:=.int .i64 i27) s7_1) ?_
    obtain ⟨x30,hx33,hm⟩:=bnd hm
    obtain ⟨k31,hk34,hl35,hx33⟩:=getI_some hx33
    obtain ⟨b37,o38,rfl,hbb37⟩:=h4.addr (by omega)
    obtain ⟨cs32,hRcs32,hc36⟩:=h4.el hx33
    have hScs32:=hRcs32
    obtain rfl:=hRcs32
    refine RQ.y rfl (Y.indexAddr (m:=k31) (sz:=1) rfl rfl hk34 hl35 (by kernel_rfl))<|RQ.y rfl (Y.load (v:=.int .i64 x30) rfl (by kernel_rfl) (beC (cellT T (hc36 0 _ rfl))))<|RQ.y rfl (Y.move (v:=.int .i64 d2) s2_1) ?_
    obtain ⟨s39,ks39,hm⟩:=bnd hm
    replace ks39:=ck_some ks39
    refine RQ.y rfl (Y.binI (v:=.int .i64 s39) rfl rfl (by rw [binI_sub ks39.2,ks39.1]))<|RQ.call rfl (am3 rfl rfl rfl) (by kernel_rfl) (v:=.bool (inR x30 0 s39)) (bel (K:=fun _=>True) fun w' hb'=>(callB (spec_l00In x30 0 s39 w')))<|RQ.y rfl (Y.not (b':=(!(inR x30 0 s39))) rfl rfl)<|RQ.nil ?_
    intro w40 hb41
    have szw40:=hb41.size
    have T:=Tt T hb41
    refine then_n ?_
    rcases bcases (inR x30 0 s39) with c42|c42
    ·replace hm:=cF c42 hm
     refine cond_t rfl (vbn rfl c42 rfl)<|wp_seq<|wp_rs rfl<|RQ.y rfl (Y.assign (v:=.bool false) rfl)<|RQ.nil<|then_n<|wp_ret ?_
     obtain rfl:=sj hm
     exact (blk_r (then_r (then_r (hit_r (blk_r (then_r (ret1 rfl rfl rfl ⟨rfl,T⟩)))))))
    replace hm:=cT c42 hm
    refine cond_f rfl (vbn rfl c42 rfl)<|wp_skip ?_
    refine blk_n (then_n ?_)
    refine wp_rs rfl<|RQ.y rfl (Y.move (v:=.int .i64 i27) s7_1)<|RQ.y rfl (Y.binI rfl rfl (binI_add (m:=i27) (by omega)))<|RQ.y rfl (Y.assign (v:=.int .i64 (i27+1)) rfl)<|RQ.nil ?_
    exact (then_n ⟨g,_,Nat.lt_succ_self _,rfl,⟨(i27+1),s1_1,s2_1,rfl,(by omega),T,(by rw [← hrec1]; exact hm)⟩⟩)
   replace hm:=cT c25 hm
   have pc25:=of_decide_eq_true c25
   refine cond_t rfl (vb rfl c25)<|wp_seq<|wp_rs rfl<|RQ.y rfl (Y.assign (v:=.bool false) rfl)<|RQ.nil<|then_n<|wp_ret ?_
   obtain rfl:=sj hm
   exact (then_r (ret1 rfl rfl rfl ⟨rfl,T⟩))
  replace hm:=cT c22 hm
  iterate 6 refine RQ.skip (wantN (dj:=43) rfl (vb rfl c22) rfl) ?_
  refine RQ.y rfl (Y.pick (b:=true) (v:=.bool true) (vb rfl c22) rfl)<|RQ.nil ?_
  intro w44 hb45
  have szw44:=hb45.size
  have T:=Tt T hb45
  refine then_n<|cond_t rfl rfl<|wp_seq<|wp_rs rfl<|RQ.y rfl (Y.assign (v:=.bool false) rfl)<|RQ.nil<|then_n<|wp_ret ?_
  obtain rfl:=sj hm
  exact (then_r (ret1 rfl rfl rfl ⟨rfl,T⟩))
noncomputable def m_spec_l09Fields_A1:Option Bool:=
  some true
noncomputable def m_spec_l09Fields_B1 (d0:DClosure) (rec1:Int→Option Bool) (K1:Option Bool) (i8:Int):Option Bool:=
  (bif (decide (i8 < (d0.term.kids.length:Int))) then ((getI d0.term.kids i8).bind fun x11=>(bif (x11.kind != 1) then some false else ((getI d0.term.kids i8).bind fun x23=>(bif (x23.value != i8) then some false else (rec1 (i8+1)))))) else (K1))
noncomputable def m_spec_l09Fields_L1 (d0:DClosure) (K1:Option Bool):Nat→Int→Option Bool
  |0,_=>none
  |g+1,i8=>m_spec_l09Fields_B1 d0 (m_spec_l09Fields_L1 d0 K1 g) K1 i8
noncomputable def m_spec_l09Fields (d0:DClosure):Option Bool:=
  (bif ((d0.term.kids.length:Int) != (d0.env.length:Int)) then some false else (m_spec_l09Fields_L1 d0 m_spec_l09Fields_A1 (d0.term.kids.length+1) 0))
set_option maxHeartbeats 2000000 in
theorem c_m_spec_l09Fields (d0:DClosure) (r:Bool) (hm:m_spec_l09Fields d0=some r) (v0:Value) (w:World) (hv0:Pt closureRd w v0 d0) :
    Calls Tryz.prog 178 #[v0] w fun e w'=>e=.returned (.bool r)∧Below w.heap.size w w':=by
  obtain ⟨ba0,oa0,csa0,rfl,hba0,hRa0,hca0⟩:=hv0
  have hSa0:=hRa0
  obtain ⟨A1,n1,c1,A2,n2,c2,A3,n3,c3,rfl,⟨h1,r1⟩,⟨h2,r2⟩,⟨h3,r3⟩⟩:=hRa0
  have e1:=h1.len; subst e1
  have q1:=len_le r1
  have e2:=h2.len; subst e2
  have q2:=len_le r2
  have e3:=h3.len; subst e3
  have q3:=len_le r3
  have T:=Below.refl w.heap.size w
  unfold m_spec_l09Fields at hm
  refine enter 49 Tryz.func178 rfl rfl rfl ?_
  intro f hf
  have s0:f 0=.pointer (some ⟨ba0,oa0,none⟩):=hf 0 _ rfl
  refine wp_seq<|wp_rs rfl<|RQ.y rfl (Y.assign (v:=.bool false) rfl)<|RQ.nil<|then_n<|wp_seq<|wp_seq<|wp_rbd (by kernel_rfl) (by kernel_rfl)<|RQ.y rfl (Y.move (v:=.pointer (some ⟨ba0,oa0,none⟩)) s0)<|RQ.y rfl (Y.nilCheck rfl)<|RQ.y rfl (Y.fieldAddr (off:=0) rfl (by kernel_rfl))<|RQ.y rfl (Y.fieldAddr (off:=3) rfl (by kernel_rfl))<|RQ.y rfl (Y.load (v:=.slice A2 d0.term.kids.length c2) rfl (by kernel_rfl) (beC (cellT T (hca0 3 _ rfl))))<|RQ.y rfl (Y.len (by kernel_rfl) rfl)<|RQ.y rfl (Y.move (v:=.pointer (some ⟨ba0,oa0,none⟩)) s0)<|RQ.y rfl (Y.nilCheck rfl)<|RQ.y rfl (Y.fieldAddr (off:=4) rfl (by kernel_rfl))<|RQ.y rfl (Y.load (v:=.slice A3 d0.env.length c3) rfl (by kernel_rfl) (beC (cellT T (hca0 4 _ rfl))))<|RQ.y rfl (Y.len (by kernel_rfl) rfl)<|RQ.y rfl (Y.binI (v:=.bool ((d0.term.kids.length:Int) != (d0.env.length:Int))) rfl rfl rfl)<|RQ.nil ?_
  intro w4 hb5
  have szw4:=hb5.size
  have T:=Tt T hb5
  refine then_n ?_
  rcases bcases ((d0.term.kids.length:Int) != (d0.env.length:Int)) with c6|c6
  ·replace hm:=cF c6 hm
   refine cond_f rfl (vb rfl c6)<|wp_skip<|then_n<|wp_seq<|wp_seq<|wp_rs rfl<|RQ.y rfl (Y.assign (v:=.int .i64 0) rfl)<|RQ.nil<|then_n<|wp_block ?_
   obtain ⟨K1,hK1,hm⟩ :∃K,K=m_spec_l09Fields_A1∧m_spec_l09Fields_L1 d0 K (d0.term.kids.length+1) 0=some r:=⟨_,rfl,hm⟩
   refine wp_loopX (fun g f w'=>∃(i8:Int),f 0=.pointer (some ⟨ba0,oa0,none⟩)∧f 3=.int .i64 i8∧0≤i8∧Below w.heap.size w w'∧m_spec_l09Fields_L1 d0 K1 g i8=some r) 0 (fun f w'=>Below w.heap.size w w'∧m_spec_l09Fields_A1  = some r) (d0.term.kids.length+1) ⟨0,s0,rfl,(by omega),T,hm⟩ ?_ ?_
   ·rintro f w7 ⟨T,hm⟩
    unfold m_spec_l09Fields_A1 at hm
    refine blk_hit (then_n ?_)
    refine wp_seq<|wp_rs rfl<|RQ.y rfl (Y.assign (v:=.bool true) rfl)<|RQ.nil<|then_n<|wp_ret ?_
    obtain rfl:=sj hm
    exact (ret1 rfl rfl rfl ⟨rfl,T⟩)
   rintro g f w9 ⟨i8,s0_1,s3_1,nn3_1,T,hm⟩
   rcases g with _|g
   ·simp only [m_spec_l09Fields_L1] at hm; cases hm
   obtain ⟨rec1,hrec1,hm⟩ :∃z,z=m_spec_l09Fields_L1 d0 K1 g∧m_spec_l09Fields_B1 d0 z K1 i8=some r:=⟨_,rfl,hm⟩
   unfold m_spec_l09Fields_B1 at hm
   refine wp_seq<|wp_seq<|wp_rs rfl<|RQ.y rfl (Y.move (v:=.int .i64 i8) s3_1)<|RQ.y rfl (Y.move (v:=.pointer (some ⟨ba0,oa0,none⟩)) s0_1)<|RQ.y rfl (Y.nilCheck rfl)<|RQ.y rfl (Y.fieldAddr (off:=0) rfl (by kernel_rfl))<|RQ.y rfl (Y.fieldAddr (off:=3) rfl (by kernel_rfl))<|RQ.y rfl (Y.load (v:=.slice A2 d0.term.kids.length c2) rfl (by kernel_rfl) (eqC (cellT T (hca0 3 _ rfl))))<|RQ.y rfl (Y.len (by kernel_rfl) rfl)<|RQ.y rfl (Y.binI (v:=.bool (decide (i8 < (d0.term.kids.length:Int)))) rfl rfl rfl)<|RQ.nil<|then_n ?_
   rcases bcases (decide (i8 < (d0.term.kids.length:Int))) with c10|c10
   ·replace hm:=cF c10 hm
    have pc10:=of_decide_eq_false c10
    refine cond_f rfl (vb rfl c10)<|wp_exit ?_
    exact (then_x (then_x (hit_x ⟨_,rfl,⟨T,(by rw [hK1] at hm; exact hm)⟩⟩)))
   replace hm:=cT c10 hm
   have pc10:=of_decide_eq_true c10
   refine cond_t rfl (vb rfl c10)<|wp_skip<|then_n<|wp_seq<|wp_block<|wp_seq<|wp_rs rfl<|RQ.y rfl (Y.move (v:=.pointer (some ⟨ba0,oa0,none⟩)) s0_1)<|RQ.y rfl (Y.nilCheck rfl)<|RQ.y rfl (Y.fieldAddr (off:=0) rfl (by kernel_rfl))<|RQ.y rfl (Y.fieldAddr (off:=3) rfl (by kernel_rfl))<|RQ.y rfl (Y.load (v:=.slice A2 d0.term.kids.length c2) rfl (by kernel_rfl) (eqC (cellT T (hca0 3 _ rfl))))<|RQ.y rfl (Y.move (v:=.int .i64 i8) s3_1) ?_
   obtain ⟨x11,hx14,hm⟩:=bnd hm
   obtain ⟨k12,hk15,hl16,hx14⟩:=getI_some hx14
   obtain ⟨b18,o19,rfl,hbb18⟩:=h2.addr (by omega)
   obtain ⟨cs13,hRcs13,hc17⟩:=h2.el hx14
   have hScs13:=hRcs13
   obtain ⟨A20,n20,c20,A21,n21,c21,rfl,⟨h20,r20⟩,⟨h21,r21⟩⟩:=(coreRd_out hRcs13)
   have e20:=h20.len; subst e20
   have q20:=len_le r20
   have e21:=h21.len; subst e21
   have q21:=len_le r21
   refine RQ.y rfl (Y.indexAddr (m:=k12) (sz:=4) rfl rfl hk15 hl16 (by kernel_rfl))<|RQ.y rfl (Y.fieldAddr (off:=0) rfl (by kernel_rfl))<|RQ.y rfl (Y.load (v:=.int .i64 x11.kind) rfl (by kernel_rfl) (eqC (cellT T (hc17 0 _ rfl))))<|RQ.y rfl (Y.binI (v:=.bool (x11.kind != 1)) rfl rfl rfl)<|RQ.y rfl (Y.move (v:=.bool (x11.kind != 1)) rfl) ?_
   rcases bcases (x11.kind != 1) with c22|c22
   ·replace hm:=cF c22 hm
    refine RQ.y (wantT (dj:=36) rfl (vb rfl c22)) (Y.move (v:=.pointer (some ⟨ba0,oa0,none⟩)) s0_1)<|RQ.y (wantT (dj:=36) rfl (vb rfl c22)) (Y.nilCheck rfl)<|RQ.y (wantT (dj:=36) rfl (vb rfl c22)) (Y.fieldAddr (off:=0) rfl (by kernel_rfl))<|RQ.y (wantT (dj:=36) rfl (vb rfl c22)) (Y.fieldAddr (off:=3) rfl (by kernel_rfl))<|RQ.y (wantT (dj:=36) rfl (vb rfl c22)) (Y.load (v:=.slice (some ⟨b18,o19,none⟩) d0.term.kids.length c2) rfl (by kernel_rfl) (eqC (cellT T (hca0 3 _ rfl))))<|RQ.y (wantT (dj:=36) rfl (vb rfl c22)) (Y.move (v:=.int .i64 i8) s3_1) ?_
    obtain ⟨x23,hx26,hm⟩:=bnd hm
    obtain ⟨k24,hk27,hl28,hx26⟩:=getI_some hx26
    obtain ⟨cs25,hRcs25,hc29⟩:=h2.el hx26
    have hScs25:=hRcs25
    obtain ⟨A30,n30,c30,A31,n31,c31,rfl,⟨h30,r30⟩,⟨h31,r31⟩⟩:=(coreRd_out hRcs25)
    have e30:=h30.len; subst e30
    have q30:=len_le r30
    have e31:=h31.len; subst e31
    have q31:=len_le r31
    refine RQ.y (wantT (dj:=36) rfl (vb rfl c22)) (Y.indexAddr (m:=k24) (sz:=4) rfl rfl hk27 hl28 (by kernel_rfl))<|RQ.y (wantT (dj:=36) rfl (vb rfl c22)) (Y.fieldAddr (off:=1) rfl (by kernel_rfl))<|RQ.y (wantT (dj:=36) rfl (vb rfl c22)) (Y.load (v:=.int .i64 x23.value) rfl (by kernel_rfl) (eqC (cellT T (hc29 1 _ rfl))))<|RQ.y (wantT (dj:=36) rfl (vb rfl c22)) (Y.move (v:=.int .i64 i8) s3_1)<|RQ.y (wantT (dj:=36) rfl (vb rfl c22)) (Y.binI (v:=.bool (x23.value != i8)) rfl rfl rfl)<|RQ.y rfl (Y.pick (b:=false) (v:=.bool (x23.value != i8)) (vb rfl c22) rfl)<|RQ.nil<|then_n ?_
    rcases bcases (x23.value != i8) with c32|c32
    ·replace hm:=cF c32 hm
     refine cond_f rfl (vb rfl c32)<|wp_skip ?_
     refine blk_n (then_n ?_)
     refine wp_rs rfl<|RQ.y rfl (Y.move (v:=.int .i64 i8) s3_1)<|RQ.y rfl (Y.binI rfl rfl (binI_add (m:=i8) (by omega)))<|RQ.y rfl (Y.assign (v:=.int .i64 (i8+1)) rfl)<|RQ.nil ?_
     exact (then_n ⟨g,_,Nat.lt_succ_self _,rfl,⟨(i8+1),s0_1,rfl,(by omega),T,(by rw [← hrec1]; exact hm)⟩⟩)
    replace hm:=cT c32 hm
    refine cond_t rfl (vb rfl c32)<|wp_seq<|wp_rs rfl<|RQ.y rfl (Y.assign (v:=.bool false) rfl)<|RQ.nil<|then_n<|wp_ret ?_
    obtain rfl:=sj hm
    exact (blk_r (then_r (then_r (hit_r (blk_r (then_r (ret1 rfl rfl rfl ⟨rfl,T⟩)))))))
   replace hm:=cT c22 hm
   iterate 11 refine RQ.skip (wantN (dj:=36) rfl (vb rfl c22) rfl) ?_
   refine RQ.y rfl (Y.pick (b:=true) (v:=.bool true) (vb rfl c22) rfl)<|RQ.nil<|then_n<|cond_t rfl rfl<|wp_seq<|wp_rs rfl<|RQ.y rfl (Y.assign (v:=.bool false) rfl)<|RQ.nil<|then_n<|wp_ret ?_
   obtain rfl:=sj hm
   exact (blk_r (then_r (then_r (hit_r (blk_r (then_r (ret1 rfl rfl rfl ⟨rfl,T⟩)))))))
  replace hm:=cT c6 hm
  refine cond_t rfl (vb rfl c6)<|wp_seq<|wp_rs rfl<|RQ.y rfl (Y.assign (v:=.bool false) rfl)<|RQ.nil<|then_n<|wp_ret ?_
  obtain rfl:=sj hm
  exact (then_r (ret1 rfl rfl rfl ⟨rfl,T⟩))
noncomputable def m_spec_l09IsValue (d0:DClosure):Option Bool:=
  (bif (d0.term.kind==4) then some true else (bif (d0.term.kind==2) then some true else (bif (d0.term.kind==8) then ((m_spec_l09Fields d0).bind fun y7=>some y7) else some false)))
set_option maxHeartbeats 2000000 in
theorem c_m_spec_l09IsValue (d0:DClosure) (r:Bool) (hm:m_spec_l09IsValue d0=some r) (v0:Value) (w:World) (hv0:Pt closureRd w v0 d0) :
    Calls Tryz.prog 112 #[v0] w fun e w'=>e=.returned (.bool r)∧Below w.heap.size w w':=by
  obtain ⟨ba0,oa0,csa0,rfl,hba0,hRa0,hca0⟩:=hv0
  have hSa0:=hRa0
  obtain ⟨A1,n1,c1,A2,n2,c2,A3,n3,c3,rfl,⟨h1,r1⟩,⟨h2,r2⟩,⟨h3,r3⟩⟩:=hRa0
  have e1:=h1.len; subst e1
  have q1:=len_le r1
  have e2:=h2.len; subst e2
  have q2:=len_le r2
  have e3:=h3.len; subst e3
  have q3:=len_le r3
  have T:=Below.refl w.heap.size w
  unfold m_spec_l09IsValue at hm
  refine enter 15 Tryz.func112 rfl rfl rfl ?_
  intro f hf
  have s0:f 0=.pointer (some ⟨ba0,oa0,none⟩):=hf 0 _ rfl
  refine wp_seq<|wp_rs rfl<|RQ.y rfl (Y.assign (v:=.bool false) rfl)<|RQ.nil<|then_n<|wp_seq<|wp_seq<|wp_rs rfl<|RQ.y rfl (Y.move (v:=.pointer (some ⟨ba0,oa0,none⟩)) s0)<|RQ.y rfl (Y.nilCheck rfl)<|RQ.y rfl (Y.fieldAddr (off:=0) rfl (by kernel_rfl))<|RQ.y rfl (Y.fieldAddr (off:=0) rfl (by kernel_rfl))<|RQ.y rfl (Y.load (v:=.int .i64 d0.term.kind) rfl (by kernel_rfl) (eqC (cellT T (hca0 0 _ rfl))))<|RQ.nil<|then_n<|wp_block<|wp_seq<|wp_seq<|wp_rs rfl<|RQ.y rfl (Y.binI (v:=.bool (d0.term.kind==4)) rfl rfl rfl)<|RQ.y rfl (Y.assign (v:=.bool (d0.term.kind==4)) rfl)<|RQ.nil<|then_n ?_
  rcases bcases (d0.term.kind==4) with c4|c4
  ·replace hm:=cF c4 hm
   refine cond_f rfl (vb rfl c4)<|wp_rs rfl<|RQ.y rfl (Y.binI (v:=.bool (d0.term.kind==2)) rfl rfl rfl)<|RQ.y rfl (Y.assign (v:=.bool (d0.term.kind==2)) rfl)<|RQ.nil<|then_n ?_
   rcases bcases (d0.term.kind==2) with c5|c5
   ·replace hm:=cF c5 hm
    refine cond_f rfl (vb rfl c5)<|wp_seq<|wp_rs rfl<|RQ.y rfl (Y.binI (v:=.bool (d0.term.kind==8)) rfl rfl rfl)<|RQ.y rfl (Y.assign (v:=.bool (d0.term.kind==8)) rfl)<|RQ.nil<|then_n ?_
    rcases bcases (d0.term.kind==8) with c6|c6
    ·replace hm:=cF c6 hm
     refine cond_f rfl (vb rfl c6)<|wp_skip ?_
     refine blk_n (then_n ?_)
     refine wp_seq<|wp_rs rfl<|RQ.y rfl (Y.assign (v:=.bool false) rfl)<|RQ.nil<|then_n<|wp_ret ?_
     obtain rfl:=sj hm
     exact (ret1 rfl rfl rfl ⟨rfl,T⟩)
    replace hm:=cT c6 hm
    refine cond_t rfl (vb rfl c6)<|wp_seq<|wp_rb rfl<|RQ.y rfl (Y.move (v:=.pointer (some ⟨ba0,oa0,none⟩)) s0) ?_
    obtain ⟨y7,e8,hm⟩:=bnd hm
    refine RQ.call rfl (am1 rfl) (by kernel_rfl) (v:=.bool y7) (bel (K:=fun _=>True) fun w' hb'=>(c_m_spec_l09Fields d0 _ e8 _ w' (ptArg closureRd_ok hba0 hSa0 hca0 (Tt T hb'))))<|RQ.y rfl (Y.assign (v:=.bool y7) rfl)<|RQ.nil ?_
    intro w9 hb10
    have szw9:=hb10.size
    have T:=Tt T hb10
    refine then_n<|wp_ret ?_
    obtain rfl:=sj hm
    exact (blk_r (then_r (ret1 rfl rfl rfl ⟨rfl,T⟩)))
   replace hm:=cT c5 hm
   refine cond_t rfl (vb rfl c5)<|wp_seq<|wp_rs rfl<|RQ.y rfl (Y.assign (v:=.bool true) rfl)<|RQ.nil<|then_n<|wp_ret ?_
   obtain rfl:=sj hm
   exact (blk_r (then_r (ret1 rfl rfl rfl ⟨rfl,T⟩)))
  replace hm:=cT c4 hm
  refine cond_t rfl (vb rfl c4)<|wp_skip<|then_n<|cond_t rfl (vb rfl c4)<|wp_seq<|wp_rs rfl<|RQ.y rfl (Y.assign (v:=.bool true) rfl)<|RQ.nil<|then_n<|wp_ret ?_
  obtain rfl:=sj hm
  exact (blk_r (then_r (ret1 rfl rfl rfl ⟨rfl,T⟩)))
noncomputable def m_spec_l09Defs_A1:Option Bool:=
  some true
noncomputable def m_spec_l09Defs_B1 (d0:DBook) (d1:List Int) (rec1:Int→Option Bool) (K1:Option Bool) (i3:Int):Option Bool:=
  (bif (decide (i3 < (d1.length:Int))) then ((getI d1 i3).bind fun x6=>((ck ((d0.defs.length:Int) - 1)).bind fun s15=>(bif (inR x6 0 s15) then (rec1 (i3+1)) else some false))) else (K1))
noncomputable def m_spec_l09Defs_L1 (d0:DBook) (d1:List Int) (K1:Option Bool):Nat→Int→Option Bool
  |0,_=>none
  |g+1,i3=>m_spec_l09Defs_B1 d0 d1 (m_spec_l09Defs_L1 d0 d1 K1 g) K1 i3
noncomputable def m_spec_l09Defs (d0:DBook) (d1:List Int):Option Bool:=
  (m_spec_l09Defs_L1 d0 d1 m_spec_l09Defs_A1 (d1.length+1) 0)
set_option maxHeartbeats 2000000 in
theorem c_m_spec_l09Defs (d0:DBook) (d1:List Int) (r:Bool) (hm:m_spec_l09Defs d0 d1=some r) (v0:Value) (v1:Value) (w:World) (hv0:Pt bookRd w v0 d0) (hv1:Sl intRd 1 w v1 d1) :
    Calls Tryz.prog 177 #[v0,v1] w fun e w'=>e=.returned (.bool r)∧Below w.heap.size w w':=by
  obtain ⟨ba0,oa0,csa0,rfl,hba0,hRa0,hca0⟩:=hv0
  have hSa0:=hRa0
  obtain ⟨A1,n1,c1,rfl,⟨h1,r1⟩⟩:=hRa0
  have e1:=h1.len; subst e1
  have q1:=len_le r1
  obtain ⟨Aa1,na1,ca1,rfl,ha1,ra1⟩:=hv1
  have ea1:=ha1.len; subst ea1
  have qa1:=len_le ra1
  have T:=Below.refl w.heap.size w
  unfold m_spec_l09Defs at hm
  refine enter 24 Tryz.func177 rfl rfl rfl ?_
  intro f hf
  have s0:f 0=.pointer (some ⟨ba0,oa0,none⟩):=hf 0 _ rfl
  have s1:f 1=.slice Aa1 d1.length ca1:=hf 1 _ rfl
  refine wp_seq<|wp_rs rfl<|RQ.y rfl (Y.assign (v:=.bool false) rfl)<|RQ.nil<|then_n<|wp_seq<|wp_seq<|wp_rs rfl<|RQ.y rfl (Y.assign (v:=.int .i64 0) rfl)<|RQ.nil<|then_n<|wp_block ?_
  obtain ⟨K1,hK1,hm⟩ :∃K,K=m_spec_l09Defs_A1∧m_spec_l09Defs_L1 d0 d1 K (d1.length+1) 0=some r:=⟨_,rfl,hm⟩
  refine wp_loopX (fun g f w'=>∃(i3:Int),f 0=.pointer (some ⟨ba0,oa0,none⟩)∧f 1=.slice Aa1 d1.length ca1∧f 5=.int .i64 i3∧0≤i3∧Below w.heap.size w w'∧m_spec_l09Defs_L1 d0 d1 K1 g i3=some r) 0 (fun f w'=>Below w.heap.size w w'∧m_spec_l09Defs_A1  = some r) (d1.length+1) ⟨0,s0,s1,rfl,(by omega),T,hm⟩ ?_ ?_
  ·rintro f w2 ⟨T,hm⟩
   unfold m_spec_l09Defs_A1 at hm
   refine blk_hit (then_n ?_)
   refine wp_seq<|wp_rs rfl<|RQ.y rfl (Y.assign (v:=.bool true) rfl)<|RQ.nil<|then_n<|wp_ret ?_
   obtain rfl:=sj hm
   exact (ret1 rfl rfl rfl ⟨rfl,T⟩)
  rintro g f w4 ⟨i3,s0_1,s1_1,s5_1,nn5_1,T,hm⟩
  rcases g with _|g
  ·simp only [m_spec_l09Defs_L1] at hm; cases hm
  obtain ⟨rec1,hrec1,hm⟩ :∃z,z=m_spec_l09Defs_L1 d0 d1 K1 g∧m_spec_l09Defs_B1 d0 d1 z K1 i3=some r:=⟨_,rfl,hm⟩
  unfold m_spec_l09Defs_B1 at hm
  refine wp_seq<|wp_seq<|wp_rs rfl<|RQ.y rfl (Y.move (v:=.int .i64 i3) s5_1)<|RQ.y rfl (Y.move (v:=.slice Aa1 d1.length ca1) s1_1)<|RQ.y rfl (Y.len (by kernel_rfl) rfl)<|RQ.y rfl (Y.binI (v:=.bool (decide (i3 < (d1.length:Int)))) rfl rfl rfl)<|RQ.nil<|then_n ?_
  rcases bcases (decide (i3 < (d1.length:Int))) with c5|c5
  ·replace hm:=cF c5 hm
   have pc5:=of_decide_eq_false c5
   refine cond_f rfl (vb rfl c5)<|wp_exit ?_
   exact (then_x (then_x (hit_x ⟨_,rfl,⟨T,(by rw [hK1] at hm; exact hm)⟩⟩)))
  replace hm:=cT c5 hm
  have pc5:=of_decide_eq_true c5
  refine cond_t rfl (vb rfl c5)<|wp_skip<|then_n<|wp_seq<|wp_block<|wp_seq<|wp_rbd (by kernel_rfl) (by kernel_rfl)<|RQ.y rfl (Y.move (v:=.slice Aa1 d1.length ca1) s1_1)<|RQ.y rfl (Y.move (v:=.int .i64 i3) s5_1) ?_
  obtain ⟨x6,hx9,hm⟩:=bnd hm
  obtain ⟨k7,hk10,hl11,hx9⟩:=getI_some hx9
  obtain ⟨b13,o14,rfl,hbb13⟩:=ha1.addr (by omega)
  obtain ⟨cs8,hRcs8,hc12⟩:=ha1.el hx9
  have hScs8:=hRcs8
  obtain rfl:=hRcs8
  refine RQ.y rfl (Y.indexAddr (m:=k7) (sz:=1) rfl rfl hk10 hl11 (by kernel_rfl))<|RQ.y rfl (Y.load (v:=.int .i64 x6) rfl (by kernel_rfl) (beC (cellT T (hc12 0 _ rfl))))<|RQ.y rfl (Y.move (v:=.pointer (some ⟨ba0,oa0,none⟩)) s0_1)<|RQ.y rfl (Y.nilCheck rfl)<|RQ.y rfl (Y.fieldAddr (off:=0) rfl (by kernel_rfl))<|RQ.y rfl (Y.load (v:=.slice A1 d0.defs.length c1) rfl (by kernel_rfl) (beC (cellT T (hca0 0 _ rfl))))<|RQ.y rfl (Y.len (by kernel_rfl) rfl) ?_
  obtain ⟨s15,ks15,hm⟩:=bnd hm
  replace ks15:=ck_some ks15
  refine RQ.y rfl (Y.binI (v:=.int .i64 s15) rfl rfl (by rw [binI_sub ks15.2,ks15.1]))<|RQ.call rfl (am3 rfl rfl rfl) (by kernel_rfl) (v:=.bool (inR x6 0 s15)) (bel (K:=fun _=>True) fun w' hb'=>(callB (spec_l00In x6 0 s15 w')))<|RQ.y rfl (Y.not (b':=(!(inR x6 0 s15))) rfl rfl)<|RQ.nil ?_
  intro w16 hb17
  have szw16:=hb17.size
  have T:=Tt T hb17
  refine then_n ?_
  rcases bcases (inR x6 0 s15) with c18|c18
  ·replace hm:=cF c18 hm
   refine cond_t rfl (vbn rfl c18 rfl)<|wp_seq<|wp_rs rfl<|RQ.y rfl (Y.assign (v:=.bool false) rfl)<|RQ.nil<|then_n<|wp_ret ?_
   obtain rfl:=sj hm
   exact (blk_r (then_r (then_r (hit_r (blk_r (then_r (ret1 rfl rfl rfl ⟨rfl,T⟩)))))))
  replace hm:=cT c18 hm
  refine cond_f rfl (vbn rfl c18 rfl)<|wp_skip ?_
  refine blk_n (then_n ?_)
  refine wp_rs rfl<|RQ.y rfl (Y.move (v:=.int .i64 i3) s5_1)<|RQ.y rfl (Y.binI rfl rfl (binI_add (m:=i3) (by omega)))<|RQ.y rfl (Y.assign (v:=.int .i64 (i3+1)) rfl)<|RQ.nil ?_
  exact (then_n ⟨g,_,Nat.lt_succ_self _,rfl,⟨(i3+1),s0_1,s1_1,rfl,(by omega),T,(by rw [← hrec1]; exact hm)⟩⟩)
noncomputable def m_spec_l09NoClosure (d0:DClosure):Option Bool:=
  (bif (d0.term.kind==0) then (bif (d0.term.value==0) then (bif ((d0.term.data.length:Int)==0) then (bif ((d0.term.kids.length:Int)==0) then some ((d0.env.length:Int)==0) else some false) else some false) else some false) else some false)
set_option maxHeartbeats 2000000 in
theorem c_m_spec_l09NoClosure (d0:DClosure) (r:Bool) (hm:m_spec_l09NoClosure d0=some r) (v0:Value) (w:World) (hv0:Pt closureRd w v0 d0) :
    Calls Tryz.prog 176 #[v0] w fun e w'=>e=.returned (.bool r)∧Below w.heap.size w w':=by
  obtain ⟨ba0,oa0,csa0,rfl,hba0,hRa0,hca0⟩:=hv0
  have hSa0:=hRa0
  obtain ⟨A1,n1,c1,A2,n2,c2,A3,n3,c3,rfl,⟨h1,r1⟩,⟨h2,r2⟩,⟨h3,r3⟩⟩:=hRa0
  have e1:=h1.len; subst e1
  have q1:=len_le r1
  have e2:=h2.len; subst e2
  have q2:=len_le r2
  have e3:=h3.len; subst e3
  have q3:=len_le r3
  have T:=Below.refl w.heap.size w
  unfold m_spec_l09NoClosure at hm
  refine enter 43 Tryz.func176 rfl rfl rfl ?_
  intro f hf
  have s0:f 0=.pointer (some ⟨ba0,oa0,none⟩):=hf 0 _ rfl
  refine wp_seq<|wp_rs rfl<|RQ.y rfl (Y.assign (v:=.bool false) rfl)<|RQ.nil<|then_n<|wp_seq<|wp_rs rfl<|RQ.y rfl (Y.move (v:=.pointer (some ⟨ba0,oa0,none⟩)) s0)<|RQ.y rfl (Y.nilCheck rfl)<|RQ.y rfl (Y.fieldAddr (off:=0) rfl (by kernel_rfl))<|RQ.y rfl (Y.fieldAddr (off:=0) rfl (by kernel_rfl))<|RQ.y rfl (Y.load (v:=.int .i64 d0.term.kind) rfl (by kernel_rfl) (eqC (cellT T (hca0 0 _ rfl))))<|RQ.y rfl (Y.binI (v:=.bool (d0.term.kind==0)) rfl rfl rfl)<|RQ.y rfl (Y.move (v:=.bool (d0.term.kind==0)) rfl) ?_
  rcases bcases (d0.term.kind==0) with c4|c4
  ·replace hm:=cF c4 hm
   iterate 6 refine RQ.skip (wantN (dj:=9) rfl (vb rfl c4) rfl) ?_
   refine RQ.y rfl (Y.pick (b:=false) (v:=.bool false) (vb rfl c4) rfl)<|RQ.y rfl (Y.move (v:=.bool false) rfl) ?_
   iterate 7 refine RQ.skip (wantN (dj:=17) rfl rfl rfl) ?_
   refine RQ.y rfl (Y.pick (b:=false) (v:=.bool false) rfl rfl)<|RQ.y rfl (Y.move (v:=.bool false) rfl) ?_
   iterate 7 refine RQ.skip (wantN (dj:=26) rfl rfl rfl) ?_
   refine RQ.y rfl (Y.pick (b:=false) (v:=.bool false) rfl rfl)<|RQ.y rfl (Y.move (v:=.bool false) rfl) ?_
   iterate 6 refine RQ.skip (wantN (dj:=35) rfl rfl rfl) ?_
   refine RQ.y rfl (Y.pick (b:=false) (v:=.bool false) rfl rfl)<|RQ.y rfl (Y.assign (v:=.bool false) rfl)<|RQ.nil<|then_n<|wp_ret ?_
   obtain rfl:=sj hm
   exact (ret1 rfl rfl rfl ⟨rfl,T⟩)
  replace hm:=cT c4 hm
  refine RQ.y (wantT (dj:=9) rfl (vb rfl c4)) (Y.move (v:=.pointer (some ⟨ba0,oa0,none⟩)) s0)<|RQ.y (wantT (dj:=9) rfl (vb rfl c4)) (Y.nilCheck rfl)<|RQ.y (wantT (dj:=9) rfl (vb rfl c4)) (Y.fieldAddr (off:=0) rfl (by kernel_rfl))<|RQ.y (wantT (dj:=9) rfl (vb rfl c4)) (Y.fieldAddr (off:=1) rfl (by kernel_rfl))<|RQ.y (wantT (dj:=9) rfl (vb rfl c4)) (Y.load (v:=.int .i64 d0.term.value) rfl (by kernel_rfl) (eqC (cellT T (hca0 1 _ rfl))))<|RQ.y (wantT (dj:=9) rfl (vb rfl c4)) (Y.binI (v:=.bool (d0.term.value==0)) rfl rfl rfl)<|RQ.y rfl (Y.pick (b:=true) (v:=.bool (d0.term.value==0)) (vb rfl c4) rfl)<|RQ.y rfl (Y.move (v:=.bool (d0.term.value==0)) rfl) ?_
  rcases bcases (d0.term.value==0) with c5|c5
  ·replace hm:=cF c5 hm
   iterate 7 refine RQ.skip (wantN (dj:=17) rfl (vb rfl c5) rfl) ?_
   refine RQ.y rfl (Y.pick (b:=false) (v:=.bool false) (vb rfl c5) rfl)<|RQ.y rfl (Y.move (v:=.bool false) rfl) ?_
   iterate 7 refine RQ.skip (wantN (dj:=26) rfl rfl rfl) ?_
   refine RQ.y rfl (Y.pick (b:=false) (v:=.bool false) rfl rfl)<|RQ.y rfl (Y.move (v:=.bool false) rfl) ?_
   iterate 6 refine RQ.skip (wantN (dj:=35) rfl rfl rfl) ?_
   refine RQ.y rfl (Y.pick (b:=false) (v:=.bool false) rfl rfl)<|RQ.y rfl (Y.assign (v:=.bool false) rfl)<|RQ.nil<|then_n<|wp_ret ?_
   obtain rfl:=sj hm
   exact (ret1 rfl rfl rfl ⟨rfl,T⟩)
  replace hm:=cT c5 hm
  refine RQ.y (wantT (dj:=17) rfl (vb rfl c5)) (Y.move (v:=.pointer (some ⟨ba0,oa0,none⟩)) s0)<|RQ.y (wantT (dj:=17) rfl (vb rfl c5)) (Y.nilCheck rfl)<|RQ.y (wantT (dj:=17) rfl (vb rfl c5)) (Y.fieldAddr (off:=0) rfl (by kernel_rfl))<|RQ.y (wantT (dj:=17) rfl (vb rfl c5)) (Y.fieldAddr (off:=2) rfl (by kernel_rfl))<|RQ.y (wantT (dj:=17) rfl (vb rfl c5)) (Y.load (v:=.slice A1 d0.term.data.length c1) rfl (by kernel_rfl) (eqC (cellT T (hca0 2 _ rfl))))<|RQ.y (wantT (dj:=17) rfl (vb rfl c5)) (Y.len (by kernel_rfl) rfl)<|RQ.y (wantT (dj:=17) rfl (vb rfl c5)) (Y.binI (v:=.bool ((d0.term.data.length:Int)==0)) rfl rfl rfl)<|RQ.y rfl (Y.pick (b:=true) (v:=.bool ((d0.term.data.length:Int)==0)) (vb rfl c5) rfl)<|RQ.y rfl (Y.move (v:=.bool ((d0.term.data.length:Int)==0)) rfl) ?_
  rcases bcases ((d0.term.data.length:Int)==0) with c6|c6
  ·replace hm:=cF c6 hm
   iterate 7 refine RQ.skip (wantN (dj:=26) rfl (vb rfl c6) rfl) ?_
   refine RQ.y rfl (Y.pick (b:=false) (v:=.bool false) (vb rfl c6) rfl)<|RQ.y rfl (Y.move (v:=.bool false) rfl) ?_
   iterate 6 refine RQ.skip (wantN (dj:=35) rfl rfl rfl) ?_
   refine RQ.y rfl (Y.pick (b:=false) (v:=.bool false) rfl rfl)<|RQ.y rfl (Y.assign (v:=.bool false) rfl)<|RQ.nil<|then_n<|wp_ret ?_
   obtain rfl:=sj hm
   exact (ret1 rfl rfl rfl ⟨rfl,T⟩)
  replace hm:=cT c6 hm
  refine RQ.y (wantT (dj:=26) rfl (vb rfl c6)) (Y.move (v:=.pointer (some ⟨ba0,oa0,none⟩)) s0)<|RQ.y (wantT (dj:=26) rfl (vb rfl c6)) (Y.nilCheck rfl)<|RQ.y (wantT (dj:=26) rfl (vb rfl c6)) (Y.fieldAddr (off:=0) rfl (by kernel_rfl))<|RQ.y (wantT (dj:=26) rfl (vb rfl c6)) (Y.fieldAddr (off:=3) rfl (by kernel_rfl))<|RQ.y (wantT (dj:=26) rfl (vb rfl c6)) (Y.load (v:=.slice A2 d0.term.kids.length c2) rfl (by kernel_rfl) (eqC (cellT T (hca0 3 _ rfl))))<|RQ.y (wantT (dj:=26) rfl (vb rfl c6)) (Y.len (by kernel_rfl) rfl)<|RQ.y (wantT (dj:=26) rfl (vb rfl c6)) (Y.binI (v:=.bool ((d0.term.kids.length:Int)==0)) rfl rfl rfl)<|RQ.y rfl (Y.pick (b:=true) (v:=.bool ((d0.term.kids.length:Int)==0)) (vb rfl c6) rfl)<|RQ.y rfl (Y.move (v:=.bool ((d0.term.kids.length:Int)==0)) rfl) ?_
  rcases bcases ((d0.term.kids.length:Int)==0) with c7|c7
  ·replace hm:=cF c7 hm
   iterate 6 refine RQ.skip (wantN (dj:=35) rfl (vb rfl c7) rfl) ?_
   refine RQ.y rfl (Y.pick (b:=false) (v:=.bool false) (vb rfl c7) rfl)<|RQ.y rfl (Y.assign (v:=.bool false) rfl)<|RQ.nil<|then_n<|wp_ret ?_
   obtain rfl:=sj hm
   exact (ret1 rfl rfl rfl ⟨rfl,T⟩)
  replace hm:=cT c7 hm
  refine RQ.y (wantT (dj:=35) rfl (vb rfl c7)) (Y.move (v:=.pointer (some ⟨ba0,oa0,none⟩)) s0)<|RQ.y (wantT (dj:=35) rfl (vb rfl c7)) (Y.nilCheck rfl)<|RQ.y (wantT (dj:=35) rfl (vb rfl c7)) (Y.fieldAddr (off:=4) rfl (by kernel_rfl))<|RQ.y (wantT (dj:=35) rfl (vb rfl c7)) (Y.load (v:=.slice A3 d0.env.length c3) rfl (by kernel_rfl) (eqC (cellT T (hca0 4 _ rfl))))<|RQ.y (wantT (dj:=35) rfl (vb rfl c7)) (Y.len (by kernel_rfl) rfl)<|RQ.y (wantT (dj:=35) rfl (vb rfl c7)) (Y.binI (v:=.bool ((d0.env.length:Int)==0)) rfl rfl rfl)<|RQ.y rfl (Y.pick (b:=true) (v:=.bool ((d0.env.length:Int)==0)) (vb rfl c7) rfl)<|RQ.y rfl (Y.assign (v:=.bool ((d0.env.length:Int)==0)) rfl)<|RQ.nil<|then_n<|wp_ret ?_
  obtain rfl:=sj hm
  exact (ret1 rfl rfl rfl ⟨rfl,T⟩)
noncomputable def m_spec_l09Frame (d0:DBook) (d1:DFrame) (d2:Int):Option Bool:=
  (bif (d1.kind==3) then (bif (inR d1.value 1 6) then (bif ((d1.data.length:Int)==0) then ((m_spec_l09Closure d0 d1.closure d2).bind fun y72=>some y72) else some false) else some false) else ((m_spec_l09NoClosure d1.closure).bind fun y7=>(bif y7 then (bif (d1.kind==1) then ((ck (d2 - 1)).bind fun s60=>(bif (inR d1.value 0 s60) then some ((d1.data.length:Int)==0) else some false)) else (bif (d1.kind==2) then ((ck (d2 - 1)).bind fun s54=>(bif (inR d1.value 0 s54) then some ((d1.data.length:Int)==0) else some false)) else (bif (d1.kind==4) then (bif (inR d1.value 1 6) then (bif ((d1.data.length:Int)==1) then ((getI d1.data 0).bind fun x43=>some (inR x43 (-2147483648) 2147483647)) else some false) else some false) else (bif (d1.kind==5) then (bif (d1.value==0) then (bif (inR (d1.data.length:Int) 1 4) then ((m_spec_l09Defs d0 d1.data).bind fun y33=>some y33) else some false) else some false) else (bif (d1.kind==6) then (bif (d1.value==0) then (bif ((d1.data.length:Int)==2) then ((m_spec_l09Defs d0 d1.data).bind fun y23=>some y23) else some false) else some false) else some false))))) else some false)))
set_option maxHeartbeats 2000000 in
theorem c_m_spec_l09Frame (d0:DBook) (d1:DFrame) (d2:Int) (r:Bool) (hm:m_spec_l09Frame d0 d1 d2=some r) (v0:Value) (v1:Value) (w:World) (hv0:Pt bookRd w v0 d0) (hv1:Pt frameRd w v1 d1) :
    Calls Tryz.prog 111 #[v0,v1,.int .i64 d2] w fun e w'=>e=.returned (.bool r)∧Below w.heap.size w w':=by
  obtain ⟨ba0,oa0,csa0,rfl,hba0,hRa0,hca0⟩:=hv0
  have hSa0:=hRa0
  obtain ⟨A1,n1,c1,rfl,⟨h1,r1⟩⟩:=hRa0
  have e1:=h1.len; subst e1
  have q1:=len_le r1
  obtain ⟨ba1,oa1,csa1,rfl,hba1,hRa1,hca1⟩:=hv1
  have hSa1:=hRa1
  obtain ⟨A2,n2,c2,A3,n3,c3,A4,n4,c4,A5,n5,c5,rfl,⟨h2,r2⟩,⟨h3,r3⟩,⟨h4,r4⟩,⟨h5,r5⟩⟩:=hRa1
  have e2:=h2.len; subst e2
  have q2:=len_le r2
  have e3:=h3.len; subst e3
  have q3:=len_le r3
  have e4:=h4.len; subst e4
  have q4:=len_le r4
  have e5:=h5.len; subst e5
  have q5:=len_le r5
  have T:=Below.refl w.heap.size w
  unfold m_spec_l09Frame at hm
  refine enter 130 Tryz.func111 rfl rfl rfl ?_
  intro f hf
  have s0:f 0=.pointer (some ⟨ba0,oa0,none⟩):=hf 0 _ rfl
  have s1:f 1=.pointer (some ⟨ba1,oa1,none⟩):=hf 1 _ rfl
  have s2:f 2=.int .i64 d2:=hf 2 _ rfl
  refine wp_seq<|wp_rs rfl<|RQ.y rfl (Y.assign (v:=.bool false) rfl)<|RQ.nil<|then_n<|wp_seq<|wp_seq<|wp_rs rfl<|RQ.y rfl (Y.move (v:=.pointer (some ⟨ba1,oa1,none⟩)) s1)<|RQ.y rfl (Y.nilCheck rfl)<|RQ.y rfl (Y.fieldAddr (off:=0) rfl (by kernel_rfl))<|RQ.y rfl (Y.load (v:=.int .i64 d1.kind) rfl (by kernel_rfl) (eqC (cellT T (hca1 0 _ rfl))))<|RQ.y rfl (Y.binI (v:=.bool (d1.kind==3)) rfl rfl rfl)<|RQ.nil<|then_n ?_
  rcases bcases (d1.kind==3) with c6|c6
  ·replace hm:=cF c6 hm
   refine cond_f rfl (vb rfl c6)<|wp_skip<|then_n<|wp_seq<|wp_seq<|wp_rb rfl<|RQ.y rfl (Y.move (v:=.pointer (some ⟨ba1,oa1,none⟩)) s1)<|RQ.y rfl (Y.nilCheck rfl)<|RQ.y rfl (Y.fieldAddr (off:=3) rfl (by kernel_rfl)) ?_
   obtain ⟨y7,e8,hm⟩:=bnd hm
   refine RQ.call rfl (am1 rfl) (by kernel_rfl) (v:=.bool y7) (bel (K:=fun _=>True) fun w' hb'=>(c_m_spec_l09NoClosure d1.closure _ e8 _ w' (ptSub (R:=closureRd) closureRd_ok hba1 (pre:=[.int .i64 d1.kind,.int .i64 d1.value,.slice A2 d1.data.length c2]) (cs:=[.int .i64 d1.closure.term.kind,.int .i64 d1.closure.term.value,.slice A3 d1.closure.term.data.length c3,.slice A4 d1.closure.term.kids.length c4,.slice A5 d1.closure.env.length c5]) (post:=[]) ⟨_,_,_,_,_,_,_,_,_,rfl,⟨h3,r3⟩,⟨h4,r4⟩,⟨h5,r5⟩⟩ hca1 (Tt T hb'))))<|RQ.y rfl (Y.not (b':=(!y7)) rfl rfl)<|RQ.nil ?_
   intro w9 hb10
   have szw9:=hb10.size
   have T:=Tt T hb10
   refine then_n ?_
   rcases bcases y7 with c11|c11
   ·replace hm:=cF c11 hm
    refine cond_t rfl (vbn rfl c11 rfl)<|wp_seq<|wp_rs rfl<|RQ.y rfl (Y.assign (v:=.bool false) rfl)<|RQ.nil<|then_n<|wp_ret ?_
    obtain rfl:=sj hm
    exact (then_r (ret1 rfl rfl rfl ⟨rfl,T⟩))
   replace hm:=cT c11 hm
   refine cond_f rfl (vbn rfl c11 rfl)<|wp_skip<|then_n<|wp_seq<|wp_seq<|wp_rs rfl<|RQ.y rfl (Y.move (v:=.pointer (some ⟨ba1,oa1,none⟩)) s1)<|RQ.y rfl (Y.nilCheck rfl)<|RQ.y rfl (Y.fieldAddr (off:=0) rfl (by kernel_rfl))<|RQ.y rfl (Y.load (v:=.int .i64 d1.kind) rfl (by kernel_rfl) (eqC (cellT T (hca1 0 _ rfl))))<|RQ.nil<|then_n<|wp_block<|wp_seq<|wp_seq<|wp_rs rfl<|RQ.y rfl (Y.binI (v:=.bool (d1.kind==1)) rfl rfl rfl)<|RQ.y rfl (Y.assign (v:=.bool (d1.kind==1)) rfl)<|RQ.nil<|then_n ?_
   rcases bcases (d1.kind==1) with c12|c12
   ·replace hm:=cF c12 hm
    refine cond_f rfl (vb rfl c12)<|wp_rs rfl<|RQ.y rfl (Y.binI (v:=.bool (d1.kind==2)) rfl rfl rfl)<|RQ.y rfl (Y.assign (v:=.bool (d1.kind==2)) rfl)<|RQ.nil<|then_n ?_
    rcases bcases (d1.kind==2) with c13|c13
    ·replace hm:=cF c13 hm
     refine cond_f rfl (vb rfl c13)<|wp_seq<|wp_rs rfl<|RQ.y rfl (Y.binI (v:=.bool (d1.kind==4)) rfl rfl rfl)<|RQ.y rfl (Y.assign (v:=.bool (d1.kind==4)) rfl)<|RQ.nil<|then_n ?_
     rcases bcases (d1.kind==4) with c14|c14
     ·replace hm:=cF c14 hm
      refine cond_f rfl (vb rfl c14)<|wp_seq<|wp_rs rfl<|RQ.y rfl (Y.binI (v:=.bool (d1.kind==5)) rfl rfl rfl)<|RQ.y rfl (Y.assign (v:=.bool (d1.kind==5)) rfl)<|RQ.nil<|then_n ?_
      rcases bcases (d1.kind==5) with c15|c15
      ·replace hm:=cF c15 hm
       refine cond_f rfl (vb rfl c15)<|wp_seq<|wp_rs rfl<|RQ.y rfl (Y.binI (v:=.bool (d1.kind==6)) rfl rfl rfl)<|RQ.y rfl (Y.assign (v:=.bool (d1.kind==6)) rfl)<|RQ.nil<|then_n ?_
       rcases bcases (d1.kind==6) with c16|c16
       ·replace hm:=cF c16 hm
        refine cond_f rfl (vb rfl c16)<|wp_skip ?_
        refine blk_n (then_n ?_)
        refine wp_seq<|wp_rs rfl<|RQ.y rfl (Y.assign (v:=.bool false) rfl)<|RQ.nil<|then_n<|wp_ret ?_
        obtain rfl:=sj hm
        exact (ret1 rfl rfl rfl ⟨rfl,T⟩)
       replace hm:=cT c16 hm
       refine cond_t rfl (vb rfl c16)<|wp_seq<|wp_rb rfl<|RQ.y rfl (Y.move (v:=.pointer (some ⟨ba1,oa1,none⟩)) s1)<|RQ.y rfl (Y.nilCheck rfl)<|RQ.y rfl (Y.fieldAddr (off:=1) rfl (by kernel_rfl))<|RQ.y rfl (Y.load (v:=.int .i64 d1.value) rfl (by kernel_rfl) (beC (cellT T (hca1 1 _ rfl))))<|RQ.y rfl (Y.binI (v:=.bool (d1.value==0)) rfl rfl rfl)<|RQ.y rfl (Y.move (v:=.bool (d1.value==0)) rfl) ?_
       rcases bcases (d1.value==0) with c17|c17
       ·replace hm:=cF c17 hm
        iterate 6 refine RQ.skip (wantN (dj:=114) rfl (vb rfl c17) rfl) ?_
        refine RQ.y rfl (Y.pick (b:=false) (v:=.bool false) (vb rfl c17) rfl)<|RQ.y rfl (Y.move (v:=.bool false) rfl) ?_
        iterate 6 refine RQ.skip (wantN (dj:=122) rfl rfl rfl) ?_
        refine RQ.y rfl (Y.pick (b:=false) (v:=.bool false) rfl rfl)<|RQ.y rfl (Y.assign (v:=.bool false) rfl)<|RQ.nil ?_
        intro w18 hb19
        have szw18:=hb19.size
        have T:=Tt T hb19
        refine then_n<|wp_ret ?_
        obtain rfl:=sj hm
        exact (blk_r (then_r (ret1 rfl rfl rfl ⟨rfl,T⟩)))
       replace hm:=cT c17 hm
       refine RQ.y (wantT (dj:=114) rfl (vb rfl c17)) (Y.move (v:=.pointer (some ⟨ba1,oa1,none⟩)) s1)<|RQ.y (wantT (dj:=114) rfl (vb rfl c17)) (Y.nilCheck rfl)<|RQ.y (wantT (dj:=114) rfl (vb rfl c17)) (Y.fieldAddr (off:=2) rfl (by kernel_rfl))<|RQ.y (wantT (dj:=114) rfl (vb rfl c17)) (Y.load (v:=.slice A2 d1.data.length c2) rfl (by kernel_rfl) (beC (cellT T (hca1 2 _ rfl))))<|RQ.y (wantT (dj:=114) rfl (vb rfl c17)) (Y.len (by kernel_rfl) rfl)<|RQ.y (wantT (dj:=114) rfl (vb rfl c17)) (Y.binI (v:=.bool ((d1.data.length:Int)==2)) rfl rfl rfl)<|RQ.y rfl (Y.pick (b:=true) (v:=.bool ((d1.data.length:Int)==2)) (vb rfl c17) rfl)<|RQ.y rfl (Y.move (v:=.bool ((d1.data.length:Int)==2)) rfl) ?_
       rcases bcases ((d1.data.length:Int)==2) with c20|c20
       ·replace hm:=cF c20 hm
        iterate 6 refine RQ.skip (wantN (dj:=122) rfl (vb rfl c20) rfl) ?_
        refine RQ.y rfl (Y.pick (b:=false) (v:=.bool false) (vb rfl c20) rfl)<|RQ.y rfl (Y.assign (v:=.bool false) rfl)<|RQ.nil ?_
        intro w21 hb22
        have szw21:=hb22.size
        have T:=Tt T hb22
        refine then_n<|wp_ret ?_
        obtain rfl:=sj hm
        exact (blk_r (then_r (ret1 rfl rfl rfl ⟨rfl,T⟩)))
       replace hm:=cT c20 hm
       refine RQ.y (wantT (dj:=122) rfl (vb rfl c20)) (Y.move (v:=.pointer (some ⟨ba0,oa0,none⟩)) s0)<|RQ.y (wantT (dj:=122) rfl (vb rfl c20)) (Y.move (v:=.pointer (some ⟨ba1,oa1,none⟩)) s1)<|RQ.y (wantT (dj:=122) rfl (vb rfl c20)) (Y.nilCheck rfl)<|RQ.y (wantT (dj:=122) rfl (vb rfl c20)) (Y.fieldAddr (off:=2) rfl (by kernel_rfl))<|RQ.y (wantT (dj:=122) rfl (vb rfl c20)) (Y.load (v:=.slice A2 d1.data.length c2) rfl (by kernel_rfl) (beC (cellT T (hca1 2 _ rfl)))) ?_
       obtain ⟨y23,e24,hm⟩:=bnd hm
       refine RQ.call (wantT (dj:=122) rfl (vb rfl c20)) (am2 rfl rfl) (by kernel_rfl) (v:=.bool y23) (bel (K:=fun _=>True) fun w' hb'=>(c_m_spec_l09Defs d0 d1.data _ e24 _ _ w' (ptArg bookRd_ok hba0 hSa0 hca0 (Tt T hb')) (slArg intRd_ok h2 r2 (Tt T hb'))))<|RQ.y rfl (Y.pick (b:=true) (v:=.bool y23) (vb rfl c20) rfl)<|RQ.y rfl (Y.assign (v:=.bool y23) rfl)<|RQ.nil ?_
       intro w25 hb26
       have szw25:=hb26.size
       have T:=Tt T hb26
       refine then_n<|wp_ret ?_
       obtain rfl:=sj hm
       exact (blk_r (then_r (ret1 rfl rfl rfl ⟨rfl,T⟩)))
      replace hm:=cT c15 hm
      refine cond_t rfl (vb rfl c15)<|wp_seq<|wp_rb rfl<|RQ.y rfl (Y.move (v:=.pointer (some ⟨ba1,oa1,none⟩)) s1)<|RQ.y rfl (Y.nilCheck rfl)<|RQ.y rfl (Y.fieldAddr (off:=1) rfl (by kernel_rfl))<|RQ.y rfl (Y.load (v:=.int .i64 d1.value) rfl (by kernel_rfl) (beC (cellT T (hca1 1 _ rfl))))<|RQ.y rfl (Y.binI (v:=.bool (d1.value==0)) rfl rfl rfl)<|RQ.y rfl (Y.move (v:=.bool (d1.value==0)) rfl) ?_
      rcases bcases (d1.value==0) with c27|c27
      ·replace hm:=cF c27 hm
       iterate 6 refine RQ.skip (wantN (dj:=91) rfl (vb rfl c27) rfl) ?_
       refine RQ.y rfl (Y.pick (b:=false) (v:=.bool false) (vb rfl c27) rfl)<|RQ.y rfl (Y.move (v:=.bool false) rfl) ?_
       iterate 6 refine RQ.skip (wantN (dj:=99) rfl rfl rfl) ?_
       refine RQ.y rfl (Y.pick (b:=false) (v:=.bool false) rfl rfl)<|RQ.y rfl (Y.assign (v:=.bool false) rfl)<|RQ.nil ?_
       intro w28 hb29
       have szw28:=hb29.size
       have T:=Tt T hb29
       refine then_n<|wp_ret ?_
       obtain rfl:=sj hm
       exact (blk_r (then_r (ret1 rfl rfl rfl ⟨rfl,T⟩)))
      replace hm:=cT c27 hm
      refine RQ.y (wantT (dj:=91) rfl (vb rfl c27)) (Y.move (v:=.pointer (some ⟨ba1,oa1,none⟩)) s1)<|RQ.y (wantT (dj:=91) rfl (vb rfl c27)) (Y.nilCheck rfl)<|RQ.y (wantT (dj:=91) rfl (vb rfl c27)) (Y.fieldAddr (off:=2) rfl (by kernel_rfl))<|RQ.y (wantT (dj:=91) rfl (vb rfl c27)) (Y.load (v:=.slice A2 d1.data.length c2) rfl (by kernel_rfl) (beC (cellT T (hca1 2 _ rfl))))<|RQ.y (wantT (dj:=91) rfl (vb rfl c27)) (Y.len (by kernel_rfl) rfl)<|RQ.call (wantT (dj:=91) rfl (vb rfl c27)) (am3 rfl rfl rfl) (by kernel_rfl) (v:=.bool (inR (d1.data.length:Int) 1 4)) (bel (K:=fun _=>True) fun w' hb'=>(callB (spec_l00In (d1.data.length:Int) 1 4 w')))<|RQ.y rfl (Y.pick (b:=true) (v:=.bool (inR (d1.data.length:Int) 1 4)) (vb rfl c27) rfl)<|RQ.y rfl (Y.move (v:=.bool (inR (d1.data.length:Int) 1 4)) rfl) ?_
      rcases bcases (inR (d1.data.length:Int) 1 4) with c30|c30
      ·replace hm:=cF c30 hm
       iterate 6 refine RQ.skip (wantN (dj:=99) rfl (vb rfl c30) rfl) ?_
       refine RQ.y rfl (Y.pick (b:=false) (v:=.bool false) (vb rfl c30) rfl)<|RQ.y rfl (Y.assign (v:=.bool false) rfl)<|RQ.nil ?_
       intro w31 hb32
       have szw31:=hb32.size
       have T:=Tt T hb32
       refine then_n<|wp_ret ?_
       obtain rfl:=sj hm
       exact (blk_r (then_r (ret1 rfl rfl rfl ⟨rfl,T⟩)))
      replace hm:=cT c30 hm
      refine RQ.y (wantT (dj:=99) rfl (vb rfl c30)) (Y.move (v:=.pointer (some ⟨ba0,oa0,none⟩)) s0)<|RQ.y (wantT (dj:=99) rfl (vb rfl c30)) (Y.move (v:=.pointer (some ⟨ba1,oa1,none⟩)) s1)<|RQ.y (wantT (dj:=99) rfl (vb rfl c30)) (Y.nilCheck rfl)<|RQ.y (wantT (dj:=99) rfl (vb rfl c30)) (Y.fieldAddr (off:=2) rfl (by kernel_rfl))<|RQ.y (wantT (dj:=99) rfl (vb rfl c30)) (Y.load (v:=.slice A2 d1.data.length c2) rfl (by kernel_rfl) (beC (cellT T (hca1 2 _ rfl)))) ?_
      obtain ⟨y33,e34,hm⟩:=bnd hm
      refine RQ.call (wantT (dj:=99) rfl (vb rfl c30)) (am2 rfl rfl) (by kernel_rfl) (v:=.bool y33) (bel (K:=fun _=>True) fun w' hb'=>(c_m_spec_l09Defs d0 d1.data _ e34 _ _ w' (ptArg bookRd_ok hba0 hSa0 hca0 (Tt T hb')) (slArg intRd_ok h2 r2 (Tt T hb'))))<|RQ.y rfl (Y.pick (b:=true) (v:=.bool y33) (vb rfl c30) rfl)<|RQ.y rfl (Y.assign (v:=.bool y33) rfl)<|RQ.nil ?_
      intro w35 hb36
      have szw35:=hb36.size
      have T:=Tt T hb36
      refine then_n<|wp_ret ?_
      obtain rfl:=sj hm
      exact (blk_r (then_r (ret1 rfl rfl rfl ⟨rfl,T⟩)))
     replace hm:=cT c14 hm
     refine cond_t rfl (vb rfl c14)<|wp_seq<|wp_rb rfl<|RQ.y rfl (Y.move (v:=.pointer (some ⟨ba1,oa1,none⟩)) s1)<|RQ.y rfl (Y.nilCheck rfl)<|RQ.y rfl (Y.fieldAddr (off:=1) rfl (by kernel_rfl))<|RQ.y rfl (Y.load (v:=.int .i64 d1.value) rfl (by kernel_rfl) (beC (cellT T (hca1 1 _ rfl))))<|RQ.call rfl (am3 rfl rfl rfl) (by kernel_rfl) (v:=.bool (inR d1.value 1 6)) (bel (K:=fun _=>True) fun w' hb'=>(callB (spec_l00In d1.value 1 6 w')))<|RQ.y rfl (Y.move (v:=.bool (inR d1.value 1 6)) rfl) ?_
     rcases bcases (inR d1.value 1 6) with c37|c37
     ·replace hm:=cF c37 hm
      iterate 6 refine RQ.skip (wantN (dj:=67) rfl (vb rfl c37) rfl) ?_
      refine RQ.y rfl (Y.pick (b:=false) (v:=.bool false) (vb rfl c37) rfl)<|RQ.y rfl (Y.move (v:=.bool false) rfl) ?_
      iterate 7 refine RQ.skip (wantN (dj:=75) rfl rfl rfl) ?_
      refine RQ.y rfl (Y.pick (b:=false) (v:=.bool false) rfl rfl)<|RQ.y rfl (Y.assign (v:=.bool false) rfl)<|RQ.nil ?_
      intro w38 hb39
      have szw38:=hb39.size
      have T:=Tt T hb39
      refine then_n<|wp_ret ?_
      obtain rfl:=sj hm
      exact (blk_r (then_r (ret1 rfl rfl rfl ⟨rfl,T⟩)))
     replace hm:=cT c37 hm
     refine RQ.y (wantT (dj:=67) rfl (vb rfl c37)) (Y.move (v:=.pointer (some ⟨ba1,oa1,none⟩)) s1)<|RQ.y (wantT (dj:=67) rfl (vb rfl c37)) (Y.nilCheck rfl)<|RQ.y (wantT (dj:=67) rfl (vb rfl c37)) (Y.fieldAddr (off:=2) rfl (by kernel_rfl))<|RQ.y (wantT (dj:=67) rfl (vb rfl c37)) (Y.load (v:=.slice A2 d1.data.length c2) rfl (by kernel_rfl) (beC (cellT T (hca1 2 _ rfl))))<|RQ.y (wantT (dj:=67) rfl (vb rfl c37)) (Y.len (by kernel_rfl) rfl)<|RQ.y (wantT (dj:=67) rfl (vb rfl c37)) (Y.binI (v:=.bool ((d1.data.length:Int)==1)) rfl rfl rfl)<|RQ.y rfl (Y.pick (b:=true) (v:=.bool ((d1.data.length:Int)==1)) (vb rfl c37) rfl)<|RQ.y rfl (Y.move (v:=.bool ((d1.data.length:Int)==1)) rfl) ?_
     rcases bcases ((d1.data.length:Int)==1) with c40|c40
     ·replace hm:=cF c40 hm
      iterate 7 refine RQ.skip (wantN (dj:=75) rfl (vb rfl c40) rfl) ?_
      refine RQ.y rfl (Y.pick (b:=false) (v:=.bool false) (vb rfl c40) rfl)<|RQ.y rfl (Y.assign (v:=.bool false) rfl)<|RQ.nil ?_
      intro w41 hb42
      have szw41:=hb42.size
      have T:=Tt T hb42
      refine then_n<|wp_ret ?_
      obtain rfl:=sj hm
      exact (blk_r (then_r (ret1 rfl rfl rfl ⟨rfl,T⟩)))
     replace hm:=cT c40 hm
     refine RQ.y (wantT (dj:=75) rfl (vb rfl c40)) (Y.move (v:=.pointer (some ⟨ba1,oa1,none⟩)) s1)<|RQ.y (wantT (dj:=75) rfl (vb rfl c40)) (Y.nilCheck rfl)<|RQ.y (wantT (dj:=75) rfl (vb rfl c40)) (Y.fieldAddr (off:=2) rfl (by kernel_rfl))<|RQ.y (wantT (dj:=75) rfl (vb rfl c40)) (Y.load (v:=.slice A2 d1.data.length c2) rfl (by kernel_rfl) (beC (cellT T (hca1 2 _ rfl)))) ?_
     obtain ⟨x43,hx46,hm⟩:=bnd hm
     obtain ⟨k44,hk47,hl48,hx46⟩:=getI_some hx46
     obtain ⟨b50,o51,rfl,hbb50⟩:=h2.addr (by omega)
     obtain ⟨cs45,hRcs45,hc49⟩:=h2.el hx46
     have hScs45:=hRcs45
     obtain rfl:=hRcs45
     refine RQ.y (wantT (dj:=75) rfl (vb rfl c40)) (Y.indexAddr (m:=k44) (sz:=1) rfl rfl hk47 hl48 (by kernel_rfl))<|RQ.y (wantT (dj:=75) rfl (vb rfl c40)) (Y.load (v:=.int .i64 x43) rfl (by kernel_rfl) (beC (cellT T (hc49 0 _ rfl))))<|RQ.call (wantT (dj:=75) rfl (vb rfl c40)) (am3 rfl rfl rfl) (by kernel_rfl) (v:=.bool (inR x43 (-2147483648) 2147483647)) (bel (K:=fun _=>True) fun w' hb'=>(callB (spec_l00In x43 (-2147483648) 2147483647 w')))<|RQ.y rfl (Y.pick (b:=true) (v:=.bool (inR x43 (-2147483648) 2147483647)) (vb rfl c40) rfl)<|RQ.y rfl (Y.assign (v:=.bool (inR x43 (-2147483648) 2147483647)) rfl)<|RQ.nil ?_
     intro w52 hb53
     have szw52:=hb53.size
     have T:=Tt T hb53
     refine then_n<|wp_ret ?_
     obtain rfl:=sj hm
     exact (blk_r (then_r (ret1 rfl rfl rfl ⟨rfl,T⟩)))
    replace hm:=cT c13 hm
    refine cond_t rfl (vb rfl c13)<|wp_seq<|wp_rb rfl<|RQ.y rfl (Y.move (v:=.pointer (some ⟨ba1,oa1,none⟩)) s1)<|RQ.y rfl (Y.nilCheck rfl)<|RQ.y rfl (Y.fieldAddr (off:=1) rfl (by kernel_rfl))<|RQ.y rfl (Y.load (v:=.int .i64 d1.value) rfl (by kernel_rfl) (beC (cellT T (hca1 1 _ rfl))))<|RQ.y rfl (Y.move (v:=.int .i64 d2) s2) ?_
    obtain ⟨s54,ks54,hm⟩:=bnd hm
    replace ks54:=ck_some ks54
    refine RQ.y rfl (Y.binI (v:=.int .i64 s54) rfl rfl (by rw [binI_sub ks54.2,ks54.1]))<|RQ.call rfl (am3 rfl rfl rfl) (by kernel_rfl) (v:=.bool (inR d1.value 0 s54)) (bel (K:=fun _=>True) fun w' hb'=>(callB (spec_l00In d1.value 0 s54 w')))<|RQ.y rfl (Y.move (v:=.bool (inR d1.value 0 s54)) rfl) ?_
    rcases bcases (inR d1.value 0 s54) with c55|c55
    ·replace hm:=cF c55 hm
     iterate 6 refine RQ.skip (wantN (dj:=52) rfl (vb rfl c55) rfl) ?_
     refine RQ.y rfl (Y.pick (b:=false) (v:=.bool false) (vb rfl c55) rfl)<|RQ.y rfl (Y.assign (v:=.bool false) rfl)<|RQ.nil ?_
     intro w56 hb57
     have szw56:=hb57.size
     have T:=Tt T hb57
     refine then_n<|wp_ret ?_
     obtain rfl:=sj hm
     exact (blk_r (then_r (ret1 rfl rfl rfl ⟨rfl,T⟩)))
    replace hm:=cT c55 hm
    refine RQ.y (wantT (dj:=52) rfl (vb rfl c55)) (Y.move (v:=.pointer (some ⟨ba1,oa1,none⟩)) s1)<|RQ.y (wantT (dj:=52) rfl (vb rfl c55)) (Y.nilCheck rfl)<|RQ.y (wantT (dj:=52) rfl (vb rfl c55)) (Y.fieldAddr (off:=2) rfl (by kernel_rfl))<|RQ.y (wantT (dj:=52) rfl (vb rfl c55)) (Y.load (v:=.slice A2 d1.data.length c2) rfl (by kernel_rfl) (beC (cellT T (hca1 2 _ rfl))))<|RQ.y (wantT (dj:=52) rfl (vb rfl c55)) (Y.len (by kernel_rfl) rfl)<|RQ.y (wantT (dj:=52) rfl (vb rfl c55)) (Y.binI (v:=.bool ((d1.data.length:Int)==0)) rfl rfl rfl)<|RQ.y rfl (Y.pick (b:=true) (v:=.bool ((d1.data.length:Int)==0)) (vb rfl c55) rfl)<|RQ.y rfl (Y.assign (v:=.bool ((d1.data.length:Int)==0)) rfl)<|RQ.nil ?_
    intro w58 hb59
    have szw58:=hb59.size
    have T:=Tt T hb59
    refine then_n<|wp_ret ?_
    obtain rfl:=sj hm
    exact (blk_r (then_r (ret1 rfl rfl rfl ⟨rfl,T⟩)))
   replace hm:=cT c12 hm
   refine cond_t rfl (vb rfl c12)<|wp_skip<|then_n<|cond_t rfl (vb rfl c12)<|wp_seq<|wp_rb rfl<|RQ.y rfl (Y.move (v:=.pointer (some ⟨ba1,oa1,none⟩)) s1)<|RQ.y rfl (Y.nilCheck rfl)<|RQ.y rfl (Y.fieldAddr (off:=1) rfl (by kernel_rfl))<|RQ.y rfl (Y.load (v:=.int .i64 d1.value) rfl (by kernel_rfl) (beC (cellT T (hca1 1 _ rfl))))<|RQ.y rfl (Y.move (v:=.int .i64 d2) s2) ?_
   obtain ⟨s60,ks60,hm⟩:=bnd hm
   replace ks60:=ck_some ks60
   refine RQ.y rfl (Y.binI (v:=.int .i64 s60) rfl rfl (by rw [binI_sub ks60.2,ks60.1]))<|RQ.call rfl (am3 rfl rfl rfl) (by kernel_rfl) (v:=.bool (inR d1.value 0 s60)) (bel (K:=fun _=>True) fun w' hb'=>(callB (spec_l00In d1.value 0 s60 w')))<|RQ.y rfl (Y.move (v:=.bool (inR d1.value 0 s60)) rfl) ?_
   rcases bcases (inR d1.value 0 s60) with c61|c61
   ·replace hm:=cF c61 hm
    iterate 6 refine RQ.skip (wantN (dj:=52) rfl (vb rfl c61) rfl) ?_
    refine RQ.y rfl (Y.pick (b:=false) (v:=.bool false) (vb rfl c61) rfl)<|RQ.y rfl (Y.assign (v:=.bool false) rfl)<|RQ.nil ?_
    intro w62 hb63
    have szw62:=hb63.size
    have T:=Tt T hb63
    refine then_n<|wp_ret ?_
    obtain rfl:=sj hm
    exact (blk_r (then_r (ret1 rfl rfl rfl ⟨rfl,T⟩)))
   replace hm:=cT c61 hm
   refine RQ.y (wantT (dj:=52) rfl (vb rfl c61)) (Y.move (v:=.pointer (some ⟨ba1,oa1,none⟩)) s1)<|RQ.y (wantT (dj:=52) rfl (vb rfl c61)) (Y.nilCheck rfl)<|RQ.y (wantT (dj:=52) rfl (vb rfl c61)) (Y.fieldAddr (off:=2) rfl (by kernel_rfl))<|RQ.y (wantT (dj:=52) rfl (vb rfl c61)) (Y.load (v:=.slice A2 d1.data.length c2) rfl (by kernel_rfl) (beC (cellT T (hca1 2 _ rfl))))<|RQ.y (wantT (dj:=52) rfl (vb rfl c61)) (Y.len (by kernel_rfl) rfl)<|RQ.y (wantT (dj:=52) rfl (vb rfl c61)) (Y.binI (v:=.bool ((d1.data.length:Int)==0)) rfl rfl rfl)<|RQ.y rfl (Y.pick (b:=true) (v:=.bool ((d1.data.length:Int)==0)) (vb rfl c61) rfl)<|RQ.y rfl (Y.assign (v:=.bool ((d1.data.length:Int)==0)) rfl)<|RQ.nil ?_
   intro w64 hb65
   have szw64:=hb65.size
   have T:=Tt T hb65
   refine then_n<|wp_ret ?_
   obtain rfl:=sj hm
   exact (blk_r (then_r (ret1 rfl rfl rfl ⟨rfl,T⟩)))
  replace hm:=cT c6 hm
  refine cond_t rfl (vb rfl c6)<|wp_seq<|wp_rb rfl<|RQ.y rfl (Y.move (v:=.pointer (some ⟨ba1,oa1,none⟩)) s1)<|RQ.y rfl (Y.nilCheck rfl)<|RQ.y rfl (Y.fieldAddr (off:=1) rfl (by kernel_rfl))<|RQ.y rfl (Y.load (v:=.int .i64 d1.value) rfl (by kernel_rfl) (beC (cellT T (hca1 1 _ rfl))))<|RQ.call rfl (am3 rfl rfl rfl) (by kernel_rfl) (v:=.bool (inR d1.value 1 6)) (bel (K:=fun _=>True) fun w' hb'=>(callB (spec_l00In d1.value 1 6 w')))<|RQ.y rfl (Y.move (v:=.bool (inR d1.value 1 6)) rfl) ?_
  rcases bcases (inR d1.value 1 6) with c66|c66
  ·replace hm:=cF c66 hm
   iterate 6 refine RQ.skip (wantN (dj:=17) rfl (vb rfl c66) rfl) ?_
   refine RQ.y rfl (Y.pick (b:=false) (v:=.bool false) (vb rfl c66) rfl)<|RQ.y rfl (Y.move (v:=.bool false) rfl) ?_
   iterate 6 refine RQ.skip (wantN (dj:=25) rfl rfl rfl) ?_
   refine RQ.y rfl (Y.pick (b:=false) (v:=.bool false) rfl rfl)<|RQ.y rfl (Y.assign (v:=.bool false) rfl)<|RQ.nil ?_
   intro w67 hb68
   have szw67:=hb68.size
   have T:=Tt T hb68
   refine then_n<|wp_ret ?_
   obtain rfl:=sj hm
   exact (then_r (ret1 rfl rfl rfl ⟨rfl,T⟩))
  replace hm:=cT c66 hm
  refine RQ.y (wantT (dj:=17) rfl (vb rfl c66)) (Y.move (v:=.pointer (some ⟨ba1,oa1,none⟩)) s1)<|RQ.y (wantT (dj:=17) rfl (vb rfl c66)) (Y.nilCheck rfl)<|RQ.y (wantT (dj:=17) rfl (vb rfl c66)) (Y.fieldAddr (off:=2) rfl (by kernel_rfl))<|RQ.y (wantT (dj:=17) rfl (vb rfl c66)) (Y.load (v:=.slice A2 d1.data.length c2) rfl (by kernel_rfl) (beC (cellT T (hca1 2 _ rfl))))<|RQ.y (wantT (dj:=17) rfl (vb rfl c66)) (Y.len (by kernel_rfl) rfl)<|RQ.y (wantT (dj:=17) rfl (vb rfl c66)) (Y.binI (v:=.bool ((d1.data.length:Int)==0)) rfl rfl rfl)<|RQ.y rfl (Y.pick (b:=true) (v:=.bool ((d1.data.length:Int)==0)) (vb rfl c66) rfl)<|RQ.y rfl (Y.move (v:=.bool ((d1.data.length:Int)==0)) rfl) ?_
  rcases bcases ((d1.data.length:Int)==0) with c69|c69
  ·replace hm:=cF c69 hm
   iterate 6 refine RQ.skip (wantN (dj:=25) rfl (vb rfl c69) rfl) ?_
   refine RQ.y rfl (Y.pick (b:=false) (v:=.bool false) (vb rfl c69) rfl)<|RQ.y rfl (Y.assign (v:=.bool false) rfl)<|RQ.nil ?_
   intro w70 hb71
   have szw70:=hb71.size
   have T:=Tt T hb71
   refine then_n<|wp_ret ?_
   obtain rfl:=sj hm
   exact (then_r (ret1 rfl rfl rfl ⟨rfl,T⟩))
  replace hm:=cT c69 hm
  refine RQ.y (wantT (dj:=25) rfl (vb rfl c69)) (Y.move (v:=.pointer (some ⟨ba0,oa0,none⟩)) s0)<|RQ.y (wantT (dj:=25) rfl (vb rfl c69)) (Y.move (v:=.pointer (some ⟨ba1,oa1,none⟩)) s1)<|RQ.y (wantT (dj:=25) rfl (vb rfl c69)) (Y.nilCheck rfl)<|RQ.y (wantT (dj:=25) rfl (vb rfl c69)) (Y.fieldAddr (off:=3) rfl (by kernel_rfl))<|RQ.y (wantT (dj:=25) rfl (vb rfl c69)) (Y.move (v:=.int .i64 d2) s2) ?_
  obtain ⟨y72,e73,hm⟩:=bnd hm
  refine RQ.call (wantT (dj:=25) rfl (vb rfl c69)) (am3 rfl rfl rfl) (by kernel_rfl) (v:=.bool y72) (bel (K:=fun _=>True) fun w' hb'=>(c_m_spec_l09Closure d0 d1.closure d2 _ e73 _ _ w' (ptArg bookRd_ok hba0 hSa0 hca0 (Tt T hb')) (ptSub (R:=closureRd) closureRd_ok hba1 (pre:=[.int .i64 d1.kind,.int .i64 d1.value,.slice A2 d1.data.length c2]) (cs:=[.int .i64 d1.closure.term.kind,.int .i64 d1.closure.term.value,.slice A3 d1.closure.term.data.length c3,.slice A4 d1.closure.term.kids.length c4,.slice A5 d1.closure.env.length c5]) (post:=[]) ⟨_,_,_,_,_,_,_,_,_,rfl,⟨h3,r3⟩,⟨h4,r4⟩,⟨h5,r5⟩⟩ hca1 (Tt T hb'))))<|RQ.y rfl (Y.pick (b:=true) (v:=.bool y72) (vb rfl c69) rfl)<|RQ.y rfl (Y.assign (v:=.bool y72) rfl)<|RQ.nil ?_
  intro w74 hb75
  have szw74:=hb75.size
  have T:=Tt T hb75
  refine then_n<|wp_ret ?_
  obtain rfl:=sj hm
  exact (then_r (ret1 rfl rfl rfl ⟨rfl,T⟩))
noncomputable def m_spec_l09Ok_A2:Option Bool:=
  some true
noncomputable def m_spec_l09Ok_B2 (d0:DBook) (d1:DNeed) (rec2:Int→Option Bool) (K2:Option Bool) (i21:Int):Option Bool:=
  (bif (decide (i21 < (d1.heap.length:Int))) then ((getI d1.heap i21).bind fun x24=>((m_spec_l09Closure d0 x24.closure (d1.heap.length:Int)).bind fun y36=>(bif y36 then (bif x24.done then ((m_spec_l09IsValue x24.closure).bind fun y44=>(bif y44 then (rec2 (i21+1)) else some false)) else (rec2 (i21+1))) else some false))) else (K2))
noncomputable def m_spec_l09Ok_L2 (d0:DBook) (d1:DNeed) (K2:Option Bool):Nat→Int→Option Bool
  |0,_=>none
  |g+1,i21=>m_spec_l09Ok_B2 d0 d1 (m_spec_l09Ok_L2 d0 d1 K2 g) K2 i21
noncomputable def m_spec_l09Ok_A1 (d0:DBook) (d1:DNeed):Option Bool:=
  (m_spec_l09Ok_L2 d0 d1 m_spec_l09Ok_A2 (d1.heap.length+1) 0)
noncomputable def m_spec_l09Ok_B1 (d0:DBook) (d1:DNeed) (rec1:Int→Option Bool) (K1:Option Bool) (i50:Int):Option Bool:=
  (bif (decide (i50 < (d1.stack.length:Int))) then ((getI d1.stack i50).bind fun x53=>((m_spec_l09Frame d0 x53 (d1.heap.length:Int)).bind fun y66=>(bif y66 then (rec1 (i50+1)) else some false))) else (K1))
noncomputable def m_spec_l09Ok_L1 (d0:DBook) (d1:DNeed) (K1:Option Bool):Nat→Int→Option Bool
  |0,_=>none
  |g+1,i50=>m_spec_l09Ok_B1 d0 d1 (m_spec_l09Ok_L1 d0 d1 K1 g) K1 i50
noncomputable def m_spec_l09Ok (d0:DBook) (d1:DNeed):Option Bool:=
  ((m_spec_l09Book d0).bind fun y7=>(bif y7 then (bif (decide ((d1.heap.length:Int) > 2000)) then some false else (bif (decide ((d1.stack.length:Int) > 400)) then some false else ((m_spec_l09Closure d0 d1.control (d1.heap.length:Int)).bind fun y14=>(bif y14 then (m_spec_l09Ok_L1 d0 d1 (m_spec_l09Ok_A1 d0 d1) (d1.stack.length+1) 0) else some false)))) else some false))
set_option maxHeartbeats 2000000 in
theorem c_m_spec_l09Ok (d0:DBook) (d1:DNeed) (r:Bool) (hm:m_spec_l09Ok d0 d1=some r) (v0:Value) (v1:Value) (w:World) (hv0:Pt bookRd w v0 d0) (hv1:Pt needRd w v1 d1) :
    Calls Tryz.prog 57 #[v0,v1] w fun e w'=>e=.returned (.bool r)∧Below w.heap.size w w':=by
  obtain ⟨ba0,oa0,csa0,rfl,hba0,hRa0,hca0⟩:=hv0
  have hSa0:=hRa0
  obtain ⟨A1,n1,c1,rfl,⟨h1,r1⟩⟩:=hRa0
  have e1:=h1.len; subst e1
  have q1:=len_le r1
  obtain ⟨ba1,oa1,csa1,rfl,hba1,hRa1,hca1⟩:=hv1
  have hSa1:=hRa1
  obtain ⟨A2,n2,c2,A3,n3,c3,A4,n4,c4,A5,n5,c5,A6,n6,c6,rfl,⟨h2,r2⟩,⟨h3,r3⟩,⟨h4,r4⟩,⟨h5,r5⟩,⟨h6,r6⟩⟩:=hRa1
  have e2:=h2.len; subst e2
  have q2:=len_le r2
  have e3:=h3.len; subst e3
  have q3:=len_le r3
  have e4:=h4.len; subst e4
  have q4:=len_le r4
  have e5:=h5.len; subst e5
  have q5:=len_le r5
  have e6:=h6.len; subst e6
  have q6:=len_le r6
  have T:=Below.refl w.heap.size w
  unfold m_spec_l09Ok at hm
  refine enter 92 Tryz.func57 rfl rfl rfl ?_
  intro f hf
  have s0:f 0=.pointer (some ⟨ba0,oa0,none⟩):=hf 0 _ rfl
  have s1:f 1=.pointer (some ⟨ba1,oa1,none⟩):=hf 1 _ rfl
  refine wp_seq<|wp_rs rfl<|RQ.y rfl (Y.assign (v:=.bool false) rfl)<|RQ.nil<|then_n<|wp_seq<|wp_rs rfl<|RQ.y rfl (Y.move (v:=.pointer (some ⟨ba1,oa1,none⟩)) s1)<|RQ.y rfl (Y.nilCheck rfl)<|RQ.y rfl (Y.fieldAddr (off:=6) rfl (by kernel_rfl))<|RQ.y rfl (Y.load (v:=.slice A6 d1.heap.length c6) rfl (by kernel_rfl) (eqC (cellT T (hca1 6 _ rfl))))<|RQ.y rfl (Y.len (by kernel_rfl) rfl)<|RQ.y rfl (Y.assign (v:=.int .i64 (d1.heap.length:Int)) rfl)<|RQ.nil<|then_n<|wp_seq<|wp_seq<|wp_rb rfl<|RQ.y rfl (Y.move (v:=.pointer (some ⟨ba0,oa0,none⟩)) s0) ?_
  obtain ⟨y7,e8,hm⟩:=bnd hm
  refine RQ.call rfl (am1 rfl) (by kernel_rfl) (v:=.bool y7) (bel (K:=fun _=>True) fun w' hb'=>(c_m_spec_l09Book d0 _ e8 _ w' (ptArg bookRd_ok hba0 hSa0 hca0 (Tt T hb'))))<|RQ.y rfl (Y.not (b':=(!y7)) rfl rfl)<|RQ.y rfl (Y.move (v:=.bool (!y7)) rfl) ?_
  rcases bcases y7 with c9|c9
  ·replace hm:=cF c9 hm
   refine RQ.skip (wantN (dj:=17) rfl (vbn rfl c9 rfl) rfl)<|RQ.skip (wantN (dj:=17) rfl (vbn rfl c9 rfl) rfl)<|RQ.y rfl (Y.pick (b:=true) (v:=.bool true) (vbn rfl c9 rfl) rfl)<|RQ.y rfl (Y.move (v:=.bool true) rfl) ?_
   iterate 6 refine RQ.skip (wantN (dj:=21) rfl rfl rfl) ?_
   refine RQ.y rfl (Y.pick (b:=true) (v:=.bool true) rfl rfl)<|RQ.y rfl (Y.move (v:=.bool true) rfl) ?_
   iterate 7 refine RQ.skip (wantN (dj:=29) rfl rfl rfl) ?_
   refine RQ.y rfl (Y.pick (b:=true) (v:=.bool true) rfl rfl)<|RQ.nil ?_
   intro w10 hb11
   have szw10:=hb11.size
   have T:=Tt T hb11
   refine then_n<|cond_t rfl rfl<|wp_seq<|wp_rs rfl<|RQ.y rfl (Y.assign (v:=.bool false) rfl)<|RQ.nil<|then_n<|wp_ret ?_
   obtain rfl:=sj hm
   exact (then_r (ret1 rfl rfl rfl ⟨rfl,T⟩))
  replace hm:=cT c9 hm
  refine RQ.y (wantT (dj:=17) rfl (vbn rfl c9 rfl)) (Y.move (v:=.int .i64 (d1.heap.length:Int)) rfl)<|RQ.y (wantT (dj:=17) rfl (vbn rfl c9 rfl)) (Y.binI (v:=.bool (decide ((d1.heap.length:Int) > 2000))) rfl rfl rfl)<|RQ.y rfl (Y.pick (b:=false) (v:=.bool (decide ((d1.heap.length:Int) > 2000))) (vbn rfl c9 rfl) rfl)<|RQ.y rfl (Y.move (v:=.bool (decide ((d1.heap.length:Int) > 2000))) rfl) ?_
  rcases bcases (decide ((d1.heap.length:Int) > 2000)) with c12|c12
  ·replace hm:=cF c12 hm
   have pc12:=of_decide_eq_false c12
   refine RQ.y (wantT (dj:=21) rfl (vb rfl c12)) (Y.move (v:=.pointer (some ⟨ba1,oa1,none⟩)) s1)<|RQ.y (wantT (dj:=21) rfl (vb rfl c12)) (Y.nilCheck rfl)<|RQ.y (wantT (dj:=21) rfl (vb rfl c12)) (Y.fieldAddr (off:=5) rfl (by kernel_rfl))<|RQ.y (wantT (dj:=21) rfl (vb rfl c12)) (Y.load (v:=.slice A5 d1.stack.length c5) rfl (by kernel_rfl) (beC (cellT T (hca1 5 _ rfl))))<|RQ.y (wantT (dj:=21) rfl (vb rfl c12)) (Y.len (by kernel_rfl) rfl)<|RQ.y (wantT (dj:=21) rfl (vb rfl c12)) (Y.binI (v:=.bool (decide ((d1.stack.length:Int) > 400))) rfl rfl rfl)<|RQ.y rfl (Y.pick (b:=false) (v:=.bool (decide ((d1.stack.length:Int) > 400))) (vb rfl c12) rfl)<|RQ.y rfl (Y.move (v:=.bool (decide ((d1.stack.length:Int) > 400))) rfl) ?_
   rcases bcases (decide ((d1.stack.length:Int) > 400)) with c13|c13
   ·replace hm:=cF c13 hm
    have pc13:=of_decide_eq_false c13
    refine RQ.y (wantT (dj:=29) rfl (vb rfl c13)) (Y.move (v:=.pointer (some ⟨ba0,oa0,none⟩)) s0)<|RQ.y (wantT (dj:=29) rfl (vb rfl c13)) (Y.move (v:=.pointer (some ⟨ba1,oa1,none⟩)) s1)<|RQ.y (wantT (dj:=29) rfl (vb rfl c13)) (Y.nilCheck rfl)<|RQ.y (wantT (dj:=29) rfl (vb rfl c13)) (Y.fieldAddr (off:=0) rfl (by kernel_rfl))<|RQ.y (wantT (dj:=29) rfl (vb rfl c13)) (Y.move (v:=.int .i64 (d1.heap.length:Int)) rfl) ?_
    obtain ⟨y14,e15,hm⟩:=bnd hm
    refine RQ.call (wantT (dj:=29) rfl (vb rfl c13)) (am3 rfl rfl rfl) (by kernel_rfl) (v:=.bool y14) (bel (K:=fun _=>True) fun w' hb'=>(c_m_spec_l09Closure d0 d1.control (d1.heap.length:Int) _ e15 _ _ w' (ptArg bookRd_ok hba0 hSa0 hca0 (Tt T hb')) (ptSub (R:=closureRd) closureRd_ok hba1 (pre:=[]) (cs:=[.int .i64 d1.control.term.kind,.int .i64 d1.control.term.value,.slice A2 d1.control.term.data.length c2,.slice A3 d1.control.term.kids.length c3,.slice A4 d1.control.env.length c4]) (post:=[.slice A5 d1.stack.length c5,.slice A6 d1.heap.length c6]) ⟨_,_,_,_,_,_,_,_,_,rfl,⟨h2,r2⟩,⟨h3,r3⟩,⟨h4,r4⟩⟩ hca1 (Tt T hb'))))<|RQ.y (wantT (dj:=29) rfl (vb rfl c13)) (Y.not (b':=(!y14)) rfl rfl)<|RQ.y rfl (Y.pick (b:=false) (v:=.bool (!y14)) (vb rfl c13) rfl)<|RQ.nil ?_
    intro w16 hb17
    have szw16:=hb17.size
    have T:=Tt T hb17
    refine then_n ?_
    rcases bcases y14 with c18|c18
    ·replace hm:=cF c18 hm
     refine cond_t rfl (vbn rfl c18 rfl)<|wp_seq<|wp_rs rfl<|RQ.y rfl (Y.assign (v:=.bool false) rfl)<|RQ.nil<|then_n<|wp_ret ?_
     obtain rfl:=sj hm
     exact (then_r (ret1 rfl rfl rfl ⟨rfl,T⟩))
    replace hm:=cT c18 hm
    refine cond_f rfl (vbn rfl c18 rfl)<|wp_skip<|then_n<|wp_seq<|wp_seq<|wp_rs rfl<|RQ.y rfl (Y.assign (v:=.int .i64 0) rfl)<|RQ.nil<|then_n<|wp_block ?_
    obtain ⟨K1,hK1,hm⟩ :∃K,K=(m_spec_l09Ok_A1 d0 d1)∧m_spec_l09Ok_L1 d0 d1 K (d1.stack.length+1) 0=some r:=⟨_,rfl,hm⟩
    refine wp_loopX (fun g f w'=>∃(i50:Int),f 0=.pointer (some ⟨ba0,oa0,none⟩)∧f 1=.pointer (some ⟨ba1,oa1,none⟩)∧f 5=.int .i64 (d1.heap.length:Int)∧f 6=.int .i64 i50∧0≤i50∧Below w.heap.size w w'∧m_spec_l09Ok_L1 d0 d1 K1 g i50=some r) 0 (fun f w'=>f 0=.pointer (some ⟨ba0,oa0,none⟩)∧f 1=.pointer (some ⟨ba1,oa1,none⟩)∧f 5=.int .i64 (d1.heap.length:Int)∧Below w.heap.size w w'∧m_spec_l09Ok_A1 d0 d1  = some r) (d1.stack.length+1) ⟨0,s0,s1,rfl,rfl,(by omega),T,hm⟩ ?_ ?_
    ·rintro f w19 ⟨s0_1x,s1_1x,s5_1x,T,hm⟩
     unfold m_spec_l09Ok_A1 at hm
     refine blk_hit (then_n ?_)
     refine wp_seq<|wp_seq<|wp_rs rfl<|RQ.y rfl (Y.assign (v:=.int .i64 0) rfl)<|RQ.nil<|then_n<|wp_block ?_
     obtain ⟨K2,hK2,hm⟩ :∃K,K=m_spec_l09Ok_A2∧m_spec_l09Ok_L2 d0 d1 K (d1.heap.length+1) 0=some r:=⟨_,rfl,hm⟩
     refine wp_loopX (fun g f w'=>∃(i21:Int),f 0=.pointer (some ⟨ba0,oa0,none⟩)∧f 1=.pointer (some ⟨ba1,oa1,none⟩)∧f 5=.int .i64 (d1.heap.length:Int)∧f 7=.int .i64 i21∧0≤i21∧Below w.heap.size w w'∧m_spec_l09Ok_L2 d0 d1 K2 g i21=some r) 2 (fun f w'=>Below w.heap.size w w'∧m_spec_l09Ok_A2  = some r) (d1.heap.length+1) ⟨0,s0_1x,s1_1x,s5_1x,rfl,(by omega),T,hm⟩ ?_ ?_
     ·rintro f w20 ⟨T,hm⟩
      unfold m_spec_l09Ok_A2 at hm
      refine blk_hit (then_n ?_)
      refine wp_seq<|wp_rs rfl<|RQ.y rfl (Y.assign (v:=.bool true) rfl)<|RQ.nil<|then_n<|wp_ret ?_
      obtain rfl:=sj hm
      exact (ret1 rfl rfl rfl ⟨rfl,T⟩)
     rintro g f w22 ⟨i21,s0_2,s1_2,s5_2,s7_2,nn7_2,T,hm⟩
     rcases g with _|g
     ·simp only [m_spec_l09Ok_L2] at hm; cases hm
     obtain ⟨rec2,hrec2,hm⟩ :∃z,z=m_spec_l09Ok_L2 d0 d1 K2 g∧m_spec_l09Ok_B2 d0 d1 z K2 i21=some r:=⟨_,rfl,hm⟩
     unfold m_spec_l09Ok_B2 at hm
     refine wp_seq<|wp_seq<|wp_rs rfl<|RQ.y rfl (Y.move (v:=.int .i64 i21) s7_2)<|RQ.y rfl (Y.move (v:=.pointer (some ⟨ba1,oa1,none⟩)) s1_2)<|RQ.y rfl (Y.nilCheck rfl)<|RQ.y rfl (Y.fieldAddr (off:=6) rfl (by kernel_rfl))<|RQ.y rfl (Y.load (v:=.slice A6 d1.heap.length c6) rfl (by kernel_rfl) (eqC (cellT T (hca1 6 _ rfl))))<|RQ.y rfl (Y.len (by kernel_rfl) rfl)<|RQ.y rfl (Y.binI (v:=.bool (decide (i21 < (d1.heap.length:Int)))) rfl rfl rfl)<|RQ.nil<|then_n ?_
     rcases bcases (decide (i21 < (d1.heap.length:Int))) with c23|c23
     ·replace hm:=cF c23 hm
      have pc23:=of_decide_eq_false c23
      refine cond_f rfl (vb rfl c23)<|wp_exit ?_
      exact (then_x (then_x (hit_x ⟨_,rfl,⟨T,(by rw [hK2] at hm; exact hm)⟩⟩)))
     replace hm:=cT c23 hm
     have pc23:=of_decide_eq_true c23
     refine cond_t rfl (vb rfl c23)<|wp_skip<|then_n<|wp_seq<|wp_block<|wp_seq<|wp_rs rfl<|RQ.y rfl (Y.move (v:=.pointer (some ⟨ba1,oa1,none⟩)) s1_2)<|RQ.y rfl (Y.nilCheck rfl)<|RQ.y rfl (Y.fieldAddr (off:=6) rfl (by kernel_rfl))<|RQ.y rfl (Y.load (v:=.slice A6 d1.heap.length c6) rfl (by kernel_rfl) (eqC (cellT T (hca1 6 _ rfl))))<|RQ.y rfl (Y.move (v:=.int .i64 i21) s7_2) ?_
     obtain ⟨x24,hx27,hm⟩:=bnd hm
     obtain ⟨k25,hk28,hl29,hx27⟩:=getI_some hx27
     obtain ⟨b31,o32,rfl,hbb31⟩:=h6.addr (by omega)
     obtain ⟨cs26,hRcs26,hc30⟩:=h6.el hx27
     have hScs26:=hRcs26
     obtain ⟨A33,n33,c33,A34,n34,c34,A35,n35,c35,rfl,⟨h33,r33⟩,⟨h34,r34⟩,⟨h35,r35⟩⟩:=hRcs26
     have e33:=h33.len; subst e33
     have q33:=len_le r33
     have e34:=h34.len; subst e34
     have q34:=len_le r34
     have e35:=h35.len; subst e35
     have q35:=len_le r35
     refine RQ.y rfl (Y.indexAddr (m:=k25) (sz:=6) rfl rfl hk28 hl29 (by kernel_rfl))<|RQ.y rfl (Y.assign (v:=.pointer (some ⟨b31,o32+k25 * 6,none⟩)) rfl)<|RQ.nil<|then_n<|wp_seq<|wp_rb rfl<|RQ.y rfl (Y.move (v:=.pointer (some ⟨ba0,oa0,none⟩)) s0_2)<|RQ.y rfl (Y.move (v:=.pointer (some ⟨b31,o32+k25 * 6,none⟩)) rfl)<|RQ.y rfl (Y.nilCheck rfl)<|RQ.y rfl (Y.fieldAddr (off:=1) rfl (by kernel_rfl))<|RQ.y rfl (Y.move (v:=.int .i64 (d1.heap.length:Int)) s5_2) ?_
     obtain ⟨y36,e37,hm⟩:=bnd hm
     refine RQ.call rfl (am3 rfl rfl rfl) (by kernel_rfl) (v:=.bool y36) (bel (K:=fun _=>True) fun w' hb'=>(c_m_spec_l09Closure d0 x24.closure (d1.heap.length:Int) _ e37 _ _ w' (ptArg bookRd_ok hba0 hSa0 hca0 (Tt T hb')) (ptSub (R:=closureRd) closureRd_ok hbb31 (pre:=[.bool x24.done]) (cs:=[.int .i64 x24.closure.term.kind,.int .i64 x24.closure.term.value,.slice A33 x24.closure.term.data.length c33,.slice A34 x24.closure.term.kids.length c34,.slice A35 x24.closure.env.length c35]) (post:=[]) ⟨_,_,_,_,_,_,_,_,_,rfl,⟨h33,r33⟩,⟨h34,r34⟩,⟨h35,r35⟩⟩ hc30 (Tt T hb'))))<|RQ.y rfl (Y.not (b':=(!y36)) rfl rfl)<|RQ.y rfl (Y.move (v:=.bool (!y36)) rfl) ?_
     rcases bcases y36 with c38|c38
     ·replace hm:=cF c38 hm
      iterate 5 refine RQ.skip (wantN (dj:=79) rfl (vbn rfl c38 rfl) rfl) ?_
      iterate 5 refine RQ.skip rfl ?_
      refine RQ.skip (wantN (dj:=79) rfl (vbn rfl c38 rfl) rfl)<|RQ.y rfl (Y.pick (b:=true) (v:=.bool true) (vbn rfl c38 rfl) rfl)<|RQ.nil ?_
      intro w39 hb40
      have szw39:=hb40.size
      have T:=Tt T hb40
      refine then_n<|cond_t rfl rfl<|wp_seq<|wp_rs rfl<|RQ.y rfl (Y.assign (v:=.bool false) rfl)<|RQ.nil<|then_n<|wp_ret ?_
      obtain rfl:=sj hm
      exact (blk_r (then_r (then_r (hit_r (blk_r (then_r (ret1 rfl rfl rfl ⟨rfl,T⟩)))))))
     replace hm:=cT c38 hm
     refine RQ.y (wantT (dj:=79) rfl (vbn rfl c38 rfl)) (Y.move (v:=.pointer (some ⟨b31,o32+k25 * 6,none⟩)) rfl)<|RQ.y (wantT (dj:=79) rfl (vbn rfl c38 rfl)) (Y.nilCheck rfl)<|RQ.y (wantT (dj:=79) rfl (vbn rfl c38 rfl)) (Y.fieldAddr (off:=0) rfl (by kernel_rfl))<|RQ.y (wantT (dj:=79) rfl (vbn rfl c38 rfl)) (Y.load (v:=.bool x24.done) rfl (by kernel_rfl) (beC (cellT T (hc30 0 _ rfl))))<|RQ.y (wantT (dj:=79) rfl (vbn rfl c38 rfl)) (Y.move (v:=.bool x24.done) rfl) ?_
     rcases bcases x24.done with c41|c41
     ·replace hm:=cF c41 hm
      iterate 5 refine RQ.skip (wantN (dj:=84) rfl (vb rfl c41) rfl) ?_
      refine RQ.y (wantT (dj:=79) rfl (vbn rfl c38 rfl)) (Y.pick (b:=false) (v:=.bool false) (vb rfl c41) rfl)<|RQ.y rfl (Y.pick (b:=false) (v:=.bool false) (vbn rfl c38 rfl) rfl)<|RQ.nil ?_
      intro w42 hb43
      have szw42:=hb43.size
      have T:=Tt T hb43
      refine then_n<|cond_f rfl rfl<|wp_skip ?_
      refine blk_n (then_n ?_)
      refine wp_rs rfl<|RQ.y rfl (Y.move (v:=.int .i64 i21) s7_2)<|RQ.y rfl (Y.binI rfl rfl (binI_add (m:=i21) (by omega)))<|RQ.y rfl (Y.assign (v:=.int .i64 (i21+1)) rfl)<|RQ.nil ?_
      exact (then_n ⟨g,_,Nat.lt_succ_self _,rfl,⟨(i21+1),s0_2,s1_2,s5_2,rfl,(by omega),T,(by rw [← hrec2]; exact hm)⟩⟩)
     replace hm:=cT c41 hm
     refine RQ.y (wantT (dj:=84) rfl (vb rfl c41)) (Y.move (v:=.pointer (some ⟨b31,o32+k25 * 6,none⟩)) rfl)<|RQ.y (wantT (dj:=84) rfl (vb rfl c41)) (Y.nilCheck rfl)<|RQ.y (wantT (dj:=84) rfl (vb rfl c41)) (Y.fieldAddr (off:=1) rfl (by kernel_rfl)) ?_
     obtain ⟨y44,e45,hm⟩:=bnd hm
     refine RQ.call (wantT (dj:=84) rfl (vb rfl c41)) (am1 rfl) (by kernel_rfl) (v:=.bool y44) (bel (K:=fun _=>True) fun w' hb'=>(c_m_spec_l09IsValue x24.closure _ e45 _ w' (ptSub (R:=closureRd) closureRd_ok hbb31 (pre:=[.bool x24.done]) (cs:=[.int .i64 x24.closure.term.kind,.int .i64 x24.closure.term.value,.slice A33 x24.closure.term.data.length c33,.slice A34 x24.closure.term.kids.length c34,.slice A35 x24.closure.env.length c35]) (post:=[]) ⟨_,_,_,_,_,_,_,_,_,rfl,⟨h33,r33⟩,⟨h34,r34⟩,⟨h35,r35⟩⟩ hc30 (Tt T hb'))))<|RQ.y (wantT (dj:=84) rfl (vb rfl c41)) (Y.not (b':=(!y44)) rfl rfl)<|RQ.y (wantT (dj:=79) rfl (vbn rfl c38 rfl)) (Y.pick (b:=true) (v:=.bool (!y44)) (vb rfl c41) rfl)<|RQ.y rfl (Y.pick (b:=false) (v:=.bool (!y44)) (vbn rfl c38 rfl) rfl)<|RQ.nil ?_
     intro w46 hb47
     have szw46:=hb47.size
     have T:=Tt T hb47
     refine then_n ?_
     rcases bcases y44 with c48|c48
     ·replace hm:=cF c48 hm
      refine cond_t rfl (vbn rfl c48 rfl)<|wp_seq<|wp_rs rfl<|RQ.y rfl (Y.assign (v:=.bool false) rfl)<|RQ.nil<|then_n<|wp_ret ?_
      obtain rfl:=sj hm
      exact (blk_r (then_r (then_r (hit_r (blk_r (then_r (ret1 rfl rfl rfl ⟨rfl,T⟩)))))))
     replace hm:=cT c48 hm
     refine cond_f rfl (vbn rfl c48 rfl)<|wp_skip ?_
     refine blk_n (then_n ?_)
     refine wp_rs rfl<|RQ.y rfl (Y.move (v:=.int .i64 i21) s7_2)<|RQ.y rfl (Y.binI rfl rfl (binI_add (m:=i21) (by omega)))<|RQ.y rfl (Y.assign (v:=.int .i64 (i21+1)) rfl)<|RQ.nil ?_
     exact (then_n ⟨g,_,Nat.lt_succ_self _,rfl,⟨(i21+1),s0_2,s1_2,s5_2,rfl,(by omega),T,(by rw [← hrec2]; exact hm)⟩⟩)
    rintro g f w51 ⟨i50,s0_1,s1_1,s5_1,s6_1,nn6_1,T,hm⟩
    rcases g with _|g
    ·simp only [m_spec_l09Ok_L1] at hm; cases hm
    obtain ⟨rec1,hrec1,hm⟩ :∃z,z=m_spec_l09Ok_L1 d0 d1 K1 g∧m_spec_l09Ok_B1 d0 d1 z K1 i50=some r:=⟨_,rfl,hm⟩
    unfold m_spec_l09Ok_B1 at hm
    refine wp_seq<|wp_seq<|wp_rs rfl<|RQ.y rfl (Y.move (v:=.int .i64 i50) s6_1)<|RQ.y rfl (Y.move (v:=.pointer (some ⟨ba1,oa1,none⟩)) s1_1)<|RQ.y rfl (Y.nilCheck rfl)<|RQ.y rfl (Y.fieldAddr (off:=5) rfl (by kernel_rfl))<|RQ.y rfl (Y.load (v:=.slice A5 d1.stack.length c5) rfl (by kernel_rfl) (eqC (cellT T (hca1 5 _ rfl))))<|RQ.y rfl (Y.len (by kernel_rfl) rfl)<|RQ.y rfl (Y.binI (v:=.bool (decide (i50 < (d1.stack.length:Int)))) rfl rfl rfl)<|RQ.nil<|then_n ?_
    rcases bcases (decide (i50 < (d1.stack.length:Int))) with c52|c52
    ·replace hm:=cF c52 hm
     have pc52:=of_decide_eq_false c52
     refine cond_f rfl (vb rfl c52)<|wp_exit ?_
     exact (then_x (then_x (hit_x ⟨_,rfl,⟨s0_1,s1_1,s5_1,T,(by rw [hK1] at hm; exact hm)⟩⟩)))
    replace hm:=cT c52 hm
    have pc52:=of_decide_eq_true c52
    refine cond_t rfl (vb rfl c52)<|wp_skip<|then_n<|wp_seq<|wp_block<|wp_seq<|wp_rb rfl<|RQ.y rfl (Y.move (v:=.pointer (some ⟨ba0,oa0,none⟩)) s0_1)<|RQ.y rfl (Y.move (v:=.pointer (some ⟨ba1,oa1,none⟩)) s1_1)<|RQ.y rfl (Y.nilCheck rfl)<|RQ.y rfl (Y.fieldAddr (off:=5) rfl (by kernel_rfl))<|RQ.y rfl (Y.load (v:=.slice A5 d1.stack.length c5) rfl (by kernel_rfl) (beC (cellT T (hca1 5 _ rfl))))<|RQ.y rfl (Y.move (v:=.int .i64 i50) s6_1) ?_
    obtain ⟨x53,hx56,hm⟩:=bnd hm
    obtain ⟨k54,hk57,hl58,hx56⟩:=getI_some hx56
    obtain ⟨b60,o61,rfl,hbb60⟩:=h5.addr (by omega)
    obtain ⟨cs55,hRcs55,hc59⟩:=h5.el hx56
    have hScs55:=hRcs55
    obtain ⟨A62,n62,c62,A63,n63,c63,A64,n64,c64,A65,n65,c65,rfl,⟨h62,r62⟩,⟨h63,r63⟩,⟨h64,r64⟩,⟨h65,r65⟩⟩:=hRcs55
    have e62:=h62.len; subst e62
    have q62:=len_le r62
    have e63:=h63.len; subst e63
    have q63:=len_le r63
    have e64:=h64.len; subst e64
    have q64:=len_le r64
    have e65:=h65.len; subst e65
    have q65:=len_le r65
    refine RQ.y rfl (Y.indexAddr (m:=k54) (sz:=8) rfl rfl hk57 hl58 (by kernel_rfl))<|RQ.y rfl (Y.move (v:=.int .i64 (d1.heap.length:Int)) s5_1) ?_
    obtain ⟨y66,e67,hm⟩:=bnd hm
    refine RQ.call rfl (am3 rfl rfl rfl) (by kernel_rfl) (v:=.bool y66) (bel (K:=fun _=>True) fun w' hb'=>(c_m_spec_l09Frame d0 x53 (d1.heap.length:Int) _ e67 _ _ w' (ptArg bookRd_ok hba0 hSa0 hca0 (Tt T hb')) (ptArg frameRd_ok hbb60 hScs55 hc59 (Tt T hb'))))<|RQ.y rfl (Y.not (b':=(!y66)) rfl rfl)<|RQ.nil ?_
    intro w68 hb69
    have szw68:=hb69.size
    have T:=Tt T hb69
    refine then_n ?_
    rcases bcases y66 with c70|c70
    ·replace hm:=cF c70 hm
     refine cond_t rfl (vbn rfl c70 rfl)<|wp_seq<|wp_rs rfl<|RQ.y rfl (Y.assign (v:=.bool false) rfl)<|RQ.nil<|then_n<|wp_ret ?_
     obtain rfl:=sj hm
     exact (blk_r (then_r (then_r (hit_r (blk_r (then_r (ret1 rfl rfl rfl ⟨rfl,T⟩)))))))
    replace hm:=cT c70 hm
    refine cond_f rfl (vbn rfl c70 rfl)<|wp_skip ?_
    refine blk_n (then_n ?_)
    refine wp_rs rfl<|RQ.y rfl (Y.move (v:=.int .i64 i50) s6_1)<|RQ.y rfl (Y.binI rfl rfl (binI_add (m:=i50) (by omega)))<|RQ.y rfl (Y.assign (v:=.int .i64 (i50+1)) rfl)<|RQ.nil ?_
    exact (then_n ⟨g,_,Nat.lt_succ_self _,rfl,⟨(i50+1),s0_1,s1_1,s5_1,rfl,(by omega),T,(by rw [← hrec1]; exact hm)⟩⟩)
   replace hm:=cT c13 hm
   have pc13:=of_decide_eq_true c13
   iterate 7 refine RQ.skip (wantN (dj:=29) rfl (vb rfl c13) rfl) ?_
   refine RQ.y rfl (Y.pick (b:=true) (v:=.bool true) (vb rfl c13) rfl)<|RQ.nil ?_
   intro w72 hb73
   have szw72:=hb73.size
   have T:=Tt T hb73
   refine then_n<|cond_t rfl rfl<|wp_seq<|wp_rs rfl<|RQ.y rfl (Y.assign (v:=.bool false) rfl)<|RQ.nil<|then_n<|wp_ret ?_
   obtain rfl:=sj hm
   exact (then_r (ret1 rfl rfl rfl ⟨rfl,T⟩))
  replace hm:=cT c12 hm
  have pc12:=of_decide_eq_true c12
  iterate 6 refine RQ.skip (wantN (dj:=21) rfl (vb rfl c12) rfl) ?_
  refine RQ.y rfl (Y.pick (b:=true) (v:=.bool true) (vb rfl c12) rfl)<|RQ.y rfl (Y.move (v:=.bool true) rfl) ?_
  iterate 7 refine RQ.skip (wantN (dj:=29) rfl rfl rfl) ?_
  refine RQ.y rfl (Y.pick (b:=true) (v:=.bool true) rfl rfl)<|RQ.nil ?_
  intro w74 hb75
  have szw74:=hb75.size
  have T:=Tt T hb75
  refine then_n<|cond_t rfl rfl<|wp_seq<|wp_rs rfl<|RQ.y rfl (Y.assign (v:=.bool false) rfl)<|RQ.nil<|then_n<|wp_ret ?_
  obtain rfl:=sj hm
  exact (then_r (ret1 rfl rfl rfl ⟨rfl,T⟩))
noncomputable def m_spec_l00Own (d0:List Int):Option (List Int):=
  ((mustP (([] : List Int).length+d0.length≤4294967296)).bind fun _=>some (([] : List Int) ++ d0))
set_option maxHeartbeats 2000000 in
theorem c_m_spec_l00Own (d0:List Int) (r:List Int) (hm:m_spec_l00Own d0=some r) (v0:Value) (w:World) (hv0:Sl intRd 1 w v0 d0) :
    Calls Tryz.prog 179 #[v0] w fun e w'=>(∃(v0:Value),e=.returned (v0)∧OwF 2 encI 1 w' w.heap.size v0 r)∧Below w.heap.size w w':=by
  obtain ⟨Aa0,na0,ca0,rfl,ha0,ra0⟩:=hv0
  have ea0:=ha0.len; subst ea0
  have qa0:=len_le ra0
  have T:=Below.refl w.heap.size w
  unfold m_spec_l00Own at hm
  refine enter 6 Tryz.func179 rfl rfl rfl ?_
  intro f hf
  have s0:f 0=.slice Aa0 d0.length ca0:=hf 0 _ rfl
  refine wp_seq<|wp_rs rfl<|RQ.y rfl (Y.assign (v:=.slice none 0 0) rfl)<|RQ.nil<|then_n<|wp_seq<|wp_rl rfl ?_
  refine RL.bslice (e:=2) (cells:=#[]) rfl pm0 (by kernel_rfl) (fun w1 B2 hb3 szw1=>?_)
  have ZB2:w.heap.size≤w.heap.size:=T.size
  have T:=Tt T hb3
  have G5:=OwF.lit (enc:=encI) (sz:=1) (xs:=([] : List Int)) B2 ZB2 rfl rfl rfl rfl
  refine RL.y rfl (Y.move (v:=.slice Aa0 d0.length ca0) s0) ?_
  obtain ⟨_,m7,hm⟩:=bnd hm
  have hk8:=mustP_some m7
  refine RL.append fI app_int64 rfl rfl rfl G5 (slArg intRd_ok ha0 ra0 T) T.size hk8 (fun v9 w10 G11 hgr12 hbl13 hnb14=>?_)
  have szw10:=hbl13.size
  have T:=T.trans hbl13
  refine RL.y rfl (Y.assign (v:=v9) rfl)<|RL.nil<|then_n<|wp_ret ?_
  obtain rfl:=sj hm
  exact (ret1 rfl rfl rfl ⟨⟨_,rfl,G11⟩,T⟩)
noncomputable def m_spec_l09Mark_A1 (xs13:List Bool):Option (List Bool):=
  some xs13
noncomputable def m_spec_l09Mark_B1 (d0:DNeed) (rec1:List Bool→List Int→Option (List Bool)) (K1:List Bool→Option (List Bool)) (xs15:List Bool) (xs16:List Int):Option (List Bool):=
  (bif (decide ((xs16.length:Int) > 0)) then ((ck ((xs16.length:Int) - 1)).bind fun s21=>((getI xs16 s21).bind fun x22=>((ck ((xs16.length:Int) - 1)).bind fun s28=>((mustP (0≤s28∧s28.toNat≤xs16.length)).bind fun _=>((getI xs15 x22).bind fun x37=>(bif x37 then (rec1 xs15 (xs16.take s28.toNat)) else ((getI xs15 x22).bind fun x44=>((getI d0.heap x22).bind fun x54=>((mustP ((xs16.take s28.toNat).length+x54.closure.env.length≤4294967296)).bind fun _=>(rec1 (setI xs15 x22 true) ((xs16.take s28.toNat) ++ x54.closure.env))))))))))) else (K1 xs15))
noncomputable def m_spec_l09Mark_L1 (d0:DNeed) (K1:List Bool→Option (List Bool)):Nat→List Bool→List Int→Option (List Bool)
  |0,_,_=>none
  |g+1,xs15,xs16=>m_spec_l09Mark_B1 d0 (m_spec_l09Mark_L1 d0 K1 g) K1 xs15 xs16
noncomputable def m_spec_l09Mark (d0:DNeed) (d1:List Bool) (d2:List Int):Option (List Bool):=
  ((m_spec_l00Own d2).bind fun y6=>(m_spec_l09Mark_L1 d0 m_spec_l09Mark_A1 ((envs d0+d2.length)+2) d1 y6))
set_option maxHeartbeats 2000000 in
theorem c_m_spec_l09Mark (d0:DNeed) (d1:List Bool) (d2:List Int) (r:List Bool) (hm:m_spec_l09Mark d0 d1 d2=some r) (v0:Value) (v2:Value) (v1:Value) (w ws:World) (hT0:Below w.heap.size w ws) (hv0:Pt needRd w v0 d0) (hv2:Sl intRd 1 ws v2 d2) (hv1:OwF 4 encB 1 ws w.heap.size v1 d1) :
    Calls Tryz.prog 113 #[v0,v1,v2] ws fun e w'=>e=.returned (.tuple #[])∧OwF 4 encB 1 w' w.heap.size v1 r∧KeepV v1 v1 ws w'∧Below w.heap.size w w':=by
  obtain ⟨ba0,oa0,csa0,rfl,hba0,hRa0,hca0⟩:=hv0
  have hSa0:=hRa0
  obtain ⟨A1,n1,c1,A2,n2,c2,A3,n3,c3,A4,n4,c4,A5,n5,c5,rfl,⟨h1,r1⟩,⟨h2,r2⟩,⟨h3,r3⟩,⟨h4,r4⟩,⟨h5,r5⟩⟩:=hRa0
  have e1:=h1.len; subst e1
  have q1:=len_le r1
  have e2:=h2.len; subst e2
  have q2:=len_le r2
  have e3:=h3.len; subst e3
  have q3:=len_le r3
  have e4:=h4.len; subst e4
  have q4:=len_le r4
  have e5:=h5.len; subst e5
  have q5:=len_le r5
  obtain ⟨Ap1,cp1,rfl⟩:=OwF.form hv1
  obtain ⟨Aa2,na2,ca2,rfl,ha2,ra2⟩:=hv2
  have ea2:=ha2.len; subst ea2
  have qa2:=len_le ra2
  have T:=hT0
  have LW:=hT0.size
  have K:=KeepV.refl (.slice Ap1 d1.length cp1) (.slice Ap1 d1.length cp1) ws
  unfold m_spec_l09Mark at hm
  refine enter 43 Tryz.func113 rfl rfl rfl ?_
  intro f hf
  have s0:f 0=.pointer (some ⟨ba0,oa0,none⟩):=hf 0 _ rfl
  have s1:f 1=.slice Ap1 d1.length cp1:=hf 1 _ rfl
  have s2:f 2=.slice Aa2 d2.length ca2:=hf 2 _ rfl
  refine wp_seq<|wp_rl rfl<|RL.y rfl (Y.move (v:=.slice Aa2 d2.length ca2) s2) ?_
  obtain ⟨y6,e7,hm⟩:=bnd hm
  refine RL.call rfl (am1 rfl) (by kernel_rfl) ((c_m_spec_l00Own d2 _ e7 _ _ (slArg intRd_ok ha2 ra2 (Below.refl _ _))).mono ?_)
  rintro _ w11 ⟨⟨v8,rfl,G9⟩,hb12⟩
  refine ⟨_,rfl,?_⟩
  have szw11:=hb12.size
  have T0w11:=K.size
  have Zo10_op1:=Ap.dj (Ap.new (OwF.flo G9) (OwF.fhi hv1))
  have hv1:=OwF.below hv1 hb12
  have K:=KeepV.below K hb12
  have T:=Tt T hb12
  replace G9:=OwF.mono G9 T0w11
  refine RL.y rfl (Y.assign (v:=v8) rfl)<|RL.nil<|then_n<|wp_block ?_
  obtain ⟨K1,hK1,hm⟩ :∃K,K=m_spec_l09Mark_A1∧m_spec_l09Mark_L1 d0 K ((envs d0+d2.length)+2) d1 y6=some r:=⟨_,rfl,hm⟩
  refine wp_loopX (fun g f w'=>∃(xs15:List Bool) (xs16:List Int) (uxs16:Value),f 0=.pointer (some ⟨ba0,oa0,none⟩)∧f 1=.slice Ap1 d1.length cp1∧OwF 4 encB 1 w' w.heap.size (.slice Ap1 d1.length cp1) xs15∧f 6=uxs16∧OwF 2 encI 1 w' ws.heap.size uxs16 xs16∧Dj uxs16 (.slice Ap1 d1.length cp1)∧KeepV (.slice Ap1 d1.length cp1) (.slice Ap1 d1.length cp1) ws w'∧Below w.heap.size w w'∧m_spec_l09Mark_L1 d0 K1 g xs15 xs16=some r) 0 (fun f w'=>∃(xs13:List Bool),f 1=.slice Ap1 d1.length cp1∧OwF 4 encB 1 w' w.heap.size (.slice Ap1 d1.length cp1) xs13∧KeepV (.slice Ap1 d1.length cp1) (.slice Ap1 d1.length cp1) ws w'∧Below w.heap.size w w'∧m_spec_l09Mark_A1 xs13=some r) ((envs d0+d2.length)+2) ⟨d1,y6,(v8),s0,s1,hv1,rfl,G9,(Ap.dj (Dj.ap Zo10_op1)),K,T,hm⟩ ?_ ?_
  ·rintro f w14 ⟨xs13,s1_1x,Gxs13,K,T,hm⟩
   unfold m_spec_l09Mark_A1 at hm
   obtain rfl:=sj hm
   exact (blk_hit (end0 rfl ⟨rfl,Gxs13,K,T⟩))
  rintro g f w17 ⟨xs15,xs16,uxs16,s0_1,s1_1,Gxs15,s6_1,Guxs16,Doxs16_op1,K,T,hm⟩
  rcases g with _|g
  ·simp only [m_spec_l09Mark_L1] at hm; cases hm
  obtain ⟨rec1,hrec1,hm⟩ :∃z,z=m_spec_l09Mark_L1 d0 K1 g∧m_spec_l09Mark_B1 d0 z K1 xs15 xs16=some r:=⟨_,rfl,hm⟩
  unfold m_spec_l09Mark_B1 at hm
  refine wp_seq<|wp_seq<|wp_rs rfl<|RQ.y rfl (Y.move (v:=uxs16) s6_1) ?_
  obtain ⟨A18,c19,rfl⟩:=OwF.form Guxs16
  have qbA18:=OwF.bound Guxs16
  refine RQ.y rfl (Y.len (by kernel_rfl) rfl)<|RQ.y rfl (Y.binI (v:=.bool (decide ((xs16.length:Int) > 0))) rfl rfl rfl)<|RQ.nil<|then_n ?_
  rcases bcases (decide ((xs16.length:Int) > 0)) with c20|c20
  ·replace hm:=cF c20 hm
   have pc20:=of_decide_eq_false c20
   refine cond_f rfl (vb rfl c20)<|wp_exit ?_
   exact (then_x (then_x (hit_x ⟨_,rfl,⟨xs15,s1_1,Gxs15,K,T,(by rw [hK1] at hm; exact hm)⟩⟩)))
  replace hm:=cT c20 hm
  have pc20:=of_decide_eq_true c20
  refine cond_t rfl (vb rfl c20)<|wp_skip<|then_n<|wp_block<|wp_seq<|wp_rs rfl<|RQ.y rfl (Y.move (v:=.slice A18 xs16.length c19) s6_1)<|RQ.y rfl (Y.move (v:=.slice A18 xs16.length c19) s6_1)<|RQ.y rfl (Y.len (by kernel_rfl) rfl) ?_
  obtain ⟨s21,ks21,hm⟩:=bnd hm
  replace ks21:=ck_some ks21
  refine RQ.y rfl (Y.binI (v:=.int .i64 s21) rfl rfl (by rw [binI_sub ks21.2,ks21.1])) ?_
  obtain ⟨x22,hx24,hm⟩:=bnd hm
  obtain ⟨k23,hk25,hl26,hx24⟩:=getI_some hx24
  obtain ⟨b27,rfl⟩:=OwF.addr0 Guxs16 (by omega)
  refine RQ.y rfl (Y.indexAddr (m:=k23) (sz:=1) rfl rfl hk25 hl26 (by kernel_rfl))<|RQ.y rfl (Y.load (v:=.int .i64 x22) rfl (by kernel_rfl) (eqC (OwF.cell fI Guxs16 hx24 (j:=0) rfl)))<|RQ.y rfl (Y.assign (v:=.int .i64 x22) rfl)<|RQ.nil<|then_n<|wp_seq<|wp_rs rfl<|RQ.y rfl (Y.move (v:=.slice (some ⟨b27,0,none⟩) xs16.length c19) s6_1)<|RQ.y rfl (Y.move (v:=.slice (some ⟨b27,0,none⟩) xs16.length c19) s6_1)<|RQ.y rfl (Y.len (by kernel_rfl) rfl) ?_
  obtain ⟨s28,ks28,hm⟩:=bnd hm
  replace ks28:=ck_some ks28
  refine RQ.y rfl (Y.binI (v:=.int .i64 s28) rfl rfl (by rw [binI_sub ks28.2,ks28.1])) ?_
  obtain ⟨_,m29,hm⟩:=bnd hm
  have hk30:=mustP_some m29
  obtain ⟨Av31,eA32⟩ :∃Av,(if c19=0 then (some ⟨b27,0,none⟩) else ((some ⟨b27,0,none⟩):Option Addr).map (·.add (0 * 1)))=Av:=⟨_,rfl⟩
  obtain ⟨ea33,la34,G35⟩:=OwF.takeV (sz:=1) (by exact fun _=>rfl) Guxs16 hk30.2 eA32
  rw [ea33] at eA32
  refine RQ.y rfl (Y.sliceH (A:=(some ⟨b27,0,none⟩)) (Av:=(some ⟨b27,0,none⟩)) (l:=(xs16.take s28.toNat).length) (sz:=1) rfl rfl (tkI hk30.1 hk30.2) (Nat.le_trans tkLe (Nat.le_of_eq (OwF.lenEq Guxs16).symm)) la34 (by kernel_rfl) eA32)<|RQ.y rfl (Y.assign (v:=.slice (some ⟨b27,0,none⟩) ((xs16.take s28.toNat).length) c19) rfl)<|RQ.nil<|then_n<|wp_seq<|wp_rs rfl<|RQ.y rfl (Y.move (v:=.slice Ap1 d1.length cp1) s1_1)<|RQ.y rfl (Y.move (v:=.int .i64 x22) rfl) ?_
  obtain ⟨x37,hx39,hm⟩:=bnd hm
  obtain ⟨k38,hk40,hl41,hx39⟩:=getI_some hx39
  obtain ⟨b42,rfl⟩:=OwF.addr0 Gxs15 (by have:=OwF.lenEq Gxs15; omega)
  refine RQ.y rfl (Y.indexAddr (m:=k38) (sz:=1) rfl rfl hk40 (by have:=OwF.lenEq Gxs15; omega) (by kernel_rfl))<|RQ.y rfl (Y.load (v:=.bool x37) rfl (by kernel_rfl) (eqC (OwF.cell fB Gxs15 hx39 (j:=0) rfl)))<|RQ.y rfl (Y.not (b':=(!x37)) rfl rfl)<|RQ.nil<|then_n ?_
  rcases bcases x37 with c43|c43
  ·replace hm:=cF c43 hm
   refine cond_t rfl (vbn rfl c43 rfl)<|wp_seq<|wp_rl rfl<|RL.y rfl (Y.move (v:=.slice (some ⟨b42,0,none⟩) d1.length cp1) s1_1)<|RL.y rfl (Y.move (v:=.int .i64 x22) rfl) ?_
   obtain ⟨x44,hx46,hm⟩:=bnd hm
   obtain ⟨k45,hk47,hl48,hx46⟩:=getI_some hx46
   refine RL.y rfl (Y.indexAddr (m:=k45) (sz:=1) rfl rfl hk47 (by have:=OwF.lenEq Gxs15; omega) (by kernel_rfl)) ?_
   refine RL.storeF (k:=k45) (a:=true) fB rfl rfl rfl Gxs15 hl48 rfl (by kernel_rfl) (fun w49 G50 ho51=>?_)
   have szw49:=ho51.size
   have G35:=OwF.only G35 ho51 (fun e=>Doxs16_op1 _ e rfl)
   have K:=KeepV.only1 K ho51 rfl
   have T:=T.trans (ho51.below (by intro b hb; simp at hb; subst hb; exact (id (OwF.lo_ Gxs15 _ rfl))))
   have G50:OwF 4 encB 1 w49 w.heap.size (.slice (some ⟨b42,0,none⟩) d1.length cp1) (setI xs15 x22 true):=by rw [setI_eq hk47]; exact G50
   have hx52:(setI xs15 x22 true)[k45]? = some true:=setI_at hk47 hl48
   have hl53:=lt_of_some hx52
   refine RL.nil<|then_n<|wp_rl rfl<|RL.y rfl (Y.move (v:=.slice (some ⟨b27,0,none⟩) ((xs16.take s28.toNat).length) c19) rfl)<|RL.y rfl (Y.move (v:=.pointer (some ⟨ba0,oa0,none⟩)) s0_1)<|RL.y rfl (Y.nilCheck rfl)<|RL.y rfl (Y.fieldAddr (off:=6) rfl (by kernel_rfl))<|RL.y rfl (Y.load (v:=.slice A5 d0.heap.length c5) rfl (by kernel_rfl) (eqC (cellT T (hca0 6 _ rfl))))<|RL.y rfl (Y.move (v:=.int .i64 x22) rfl) ?_
   obtain ⟨x54,hx57,hm⟩:=bnd hm
   obtain ⟨k55,hk58,hl59,hx57⟩:=getI_some hx57
   obtain ⟨b61,o62,rfl,hbb61⟩:=h5.addr (by omega)
   obtain ⟨cs56,hRcs56,hc60⟩:=h5.el hx57
   have hScs56:=hRcs56
   obtain ⟨A63,n63,c63,A64,n64,c64,A65,n65,c65,rfl,⟨h63,r63⟩,⟨h64,r64⟩,⟨h65,r65⟩⟩:=hRcs56
   have e63:=h63.len; subst e63
   have q63:=len_le r63
   have e64:=h64.len; subst e64
   have q64:=len_le r64
   have e65:=h65.len; subst e65
   have q65:=len_le r65
   refine RL.y rfl (Y.indexAddr (m:=k55) (sz:=6) rfl rfl hk58 hl59 (by kernel_rfl))<|RL.y rfl (Y.fieldAddr (off:=1) rfl (by kernel_rfl))<|RL.y rfl (Y.fieldAddr (off:=4) rfl (by kernel_rfl))<|RL.y rfl (Y.load (v:=.slice A65 x54.closure.env.length c65) rfl (by kernel_rfl) (eqC (cellT T (hc60 5 _ rfl)))) ?_
   obtain ⟨_,m66,hm⟩:=bnd hm
   have hk67:=mustP_some m66
   refine RL.append fI app_int64 rfl rfl rfl G35 (slArg intRd_ok h65 r65 T) K.size hk67 (fun v68 w69 G70 hgr71 hbl72 hnb73=>?_)
   have szw69:=hbl72.size
   have Do74_op1:=Dj.app Doxs16_op1 hnb73 (OwF.hi G50)
   have G50:=OwF.keptD G50 hgr71 (Dj.symm Doxs16_op1)
   have K:=KeepV.belowLo K hbl72
   have T:=T.trans (Below.weak LW hbl72)
   refine RL.y rfl (Y.assign (v:=v68) rfl)<|RL.nil ?_
   exact (blk_n (then_n ⟨g,_,Nat.lt_succ_self _,rfl,⟨(setI xs15 x22 true),((xs16.take s28.toNat) ++ x54.closure.env),(v68),s0_1,s1_1,G50,rfl,G70,(Ap.dj (Dj.ap Do74_op1)),K,T,(by rw [← hrec1]; exact hm)⟩⟩))
  replace hm:=cT c43 hm
  refine cond_f rfl (vbn rfl c43 rfl)<|wp_skip ?_
  exact (blk_n (then_n ⟨g,_,Nat.lt_succ_self _,rfl,⟨xs15,(xs16.take s28.toNat),(.slice (some ⟨b27,0,none⟩) ((xs16.take s28.toNat).length) c19),s0_1,s1_1,Gxs15,rfl,G35,(Ap.dj (Dj.ap Doxs16_op1)),K,T,(by rw [← hrec1]; exact hm)⟩⟩))
noncomputable def m_spec_l09Live_A1 (xs19:List Bool):Option (List Bool):=
  some xs19
noncomputable def m_spec_l09Live_B1 (d0:DNeed) (rec1:List Bool→Int→Option (List Bool)) (K1:List Bool→Option (List Bool)) (xs21:List Bool) (i22:Int):Option (List Bool):=
  (bif (decide (i22 < (d0.stack.length:Int))) then ((getI d0.stack i22).bind fun x25=>(bif (x25.kind==1) then ((m_spec_l09Mark d0 xs21 ([x25.value])).bind fun y74=>((m_spec_l09Mark d0 y74 x25.closure.env).bind fun y82=>(rec1 y82 (i22+1)))) else (bif (x25.kind==2) then ((m_spec_l09Mark d0 xs21 ([x25.value])).bind fun y54=>((m_spec_l09Mark d0 y54 x25.closure.env).bind fun y62=>(rec1 y62 (i22+1)))) else ((m_spec_l09Mark d0 xs21 x25.closure.env).bind fun y40=>(rec1 y40 (i22+1)))))) else (K1 xs21))
noncomputable def m_spec_l09Live_L1 (d0:DNeed) (K1:List Bool→Option (List Bool)):Nat→List Bool→Int→Option (List Bool)
  |0,_,_=>none
  |g+1,xs21,i22=>m_spec_l09Live_B1 d0 (m_spec_l09Live_L1 d0 K1 g) K1 xs21 i22
noncomputable def m_spec_l09Live (d0:DNeed):Option (List Bool):=
  ((mustP (d0.heap.length≤4294967296)).bind fun _=>((m_spec_l09Mark d0 (List.replicate d0.heap.length false) d0.control.env).bind fun y13=>(m_spec_l09Live_L1 d0 m_spec_l09Live_A1 (d0.stack.length+1) y13 0)))
set_option maxHeartbeats 2000000 in
theorem c_m_spec_l09Live (d0:DNeed) (r:List Bool) (hm:m_spec_l09Live d0=some r) (v0:Value) (w:World) (hv0:Pt needRd w v0 d0) :
    Calls Tryz.prog 58 #[v0] w fun e w'=>(∃(v0:Value),e=.returned (v0)∧OwF 4 encB 1 w' w.heap.size v0 r)∧Below w.heap.size w w':=by
  obtain ⟨ba0,oa0,csa0,rfl,hba0,hRa0,hca0⟩:=hv0
  have hSa0:=hRa0
  obtain ⟨A1,n1,c1,A2,n2,c2,A3,n3,c3,A4,n4,c4,A5,n5,c5,rfl,⟨h1,r1⟩,⟨h2,r2⟩,⟨h3,r3⟩,⟨h4,r4⟩,⟨h5,r5⟩⟩:=hRa0
  have e1:=h1.len; subst e1
  have q1:=len_le r1
  have e2:=h2.len; subst e2
  have q2:=len_le r2
  have e3:=h3.len; subst e3
  have q3:=len_le r3
  have e4:=h4.len; subst e4
  have q4:=len_le r4
  have e5:=h5.len; subst e5
  have q5:=len_le r5
  have T:=Below.refl w.heap.size w
  unfold m_spec_l09Live at hm
  refine enter 64 Tryz.func58 rfl rfl rfl ?_
  intro f hf
  have s0:f 0=.pointer (some ⟨ba0,oa0,none⟩):=hf 0 _ rfl
  refine wp_seq<|wp_rs rfl<|RQ.y rfl (Y.assign (v:=.slice none 0 0) rfl)<|RQ.nil<|then_n<|wp_seq<|wp_rl rfl<|RL.y rfl (Y.move (v:=.pointer (some ⟨ba0,oa0,none⟩)) s0)<|RL.y rfl (Y.nilCheck rfl)<|RL.y rfl (Y.fieldAddr (off:=6) rfl (by kernel_rfl))<|RL.y rfl (Y.load (v:=.slice A5 d0.heap.length c5) rfl (by kernel_rfl) (eqC (cellT T (hca0 6 _ rfl))))<|RL.y rfl (Y.len (by kernel_rfl) rfl) ?_
  obtain ⟨_,m6,hm⟩:=bnd hm
  have hk7:=mustP_some m6
  refine RL.make (enc:=encB) (z0:=false) (n:=d0.heap.length) app_bool (by decide) rfl rfl rfl rfl hk7 (fun w8 G9 hb10 szw8=>?_)
  replace G9:=OwF.mono G9 T.size
  have T:=Tt T hb10
  refine RL.y rfl (Y.assign (v:=.slice (some ⟨w.heap.size,0,none⟩) d0.heap.length d0.heap.length) rfl)<|RL.nil<|then_n<|wp_seq<|wp_rl rfl<|RL.y rfl (Y.move (v:=.pointer (some ⟨ba0,oa0,none⟩)) s0)<|RL.y rfl (Y.move (v:=.slice (some ⟨w.heap.size,0,none⟩) d0.heap.length d0.heap.length) rfl)<|RL.y rfl (Y.move (v:=.pointer (some ⟨ba0,oa0,none⟩)) s0)<|RL.y rfl (Y.nilCheck rfl)<|RL.y rfl (Y.fieldAddr (off:=0) rfl (by kernel_rfl))<|RL.y rfl (Y.fieldAddr (off:=4) rfl (by kernel_rfl))<|RL.y rfl (Y.load (v:=.slice A3 d0.control.env.length c3) rfl (by kernel_rfl) (eqC (cellT T (hca0 4 _ rfl)))) ?_
  obtain ⟨y13,e14,hm⟩:=bnd hm
  refine RL.call rfl (am3 rfl rfl rfl) (by kernel_rfl) ((c_m_spec_l09Mark d0 (List.replicate d0.heap.length false) d0.control.env _ e14 _ _ _ w w8 T (ptArg needRd_ok hba0 hSa0 hca0 (Below.refl _ _)) (slArg intRd_ok h3 r3 T) G9 ).mono ?_)
  rintro _ w15 ⟨rfl,G18,K16,hb17⟩
  refine ⟨_,rfl,?_⟩
  have szw15:=K16.size
  have T:=hb17
  refine RL.nil<|then_n<|wp_seq<|wp_seq<|wp_rs rfl<|RQ.y rfl (Y.assign (v:=.int .i64 0) rfl)<|RQ.nil<|then_n<|wp_block ?_
  obtain ⟨K1,hK1,hm⟩ :∃K,K=m_spec_l09Live_A1∧m_spec_l09Live_L1 d0 K (d0.stack.length+1) y13 0=some r:=⟨_,rfl,hm⟩
  refine wp_loopX (fun g f w'=>∃(xs21:List Bool) (i22:Int) (uxs21:Value),f 0=.pointer (some ⟨ba0,oa0,none⟩)∧f 3=uxs21∧OwF 4 encB 1 w' w.heap.size uxs21 xs21∧f 4=.int .i64 i22∧0≤i22∧Below w.heap.size w w'∧m_spec_l09Live_L1 d0 K1 g xs21 i22=some r) 0 (fun f w'=>∃(xs19:List Bool) (uxs19:Value),f 3=uxs19∧OwF 4 encB 1 w' w.heap.size uxs19 xs19∧Below w.heap.size w w'∧m_spec_l09Live_A1 xs19=some r) (d0.stack.length+1) ⟨y13,0,(.slice (some ⟨w.heap.size,0,none⟩) d0.heap.length d0.heap.length),s0,rfl,G18,rfl,(by omega),T,hm⟩ ?_ ?_
  ·rintro f w20 ⟨xs19,uxs19,s3_1x,Guxs19,T,hm⟩
   unfold m_spec_l09Live_A1 at hm
   refine blk_hit (then_n ?_)
   refine wp_seq<|wp_rs rfl<|RQ.y rfl (Y.move (v:=uxs19) s3_1x)<|RQ.y rfl (Y.assign (v:=uxs19) rfl)<|RQ.nil<|then_n<|wp_ret ?_
   obtain rfl:=sj hm
   exact (ret1 rfl rfl rfl ⟨⟨_,rfl,Guxs19⟩,T⟩)
  rintro g f w23 ⟨xs21,i22,uxs21,s0_1,s3_1,Guxs21,s4_1,nn4_1,T,hm⟩
  rcases g with _|g
  ·simp only [m_spec_l09Live_L1] at hm; cases hm
  obtain ⟨rec1,hrec1,hm⟩ :∃z,z=m_spec_l09Live_L1 d0 K1 g∧m_spec_l09Live_B1 d0 z K1 xs21 i22=some r:=⟨_,rfl,hm⟩
  unfold m_spec_l09Live_B1 at hm
  refine wp_seq<|wp_seq<|wp_rs rfl<|RQ.y rfl (Y.move (v:=.int .i64 i22) s4_1)<|RQ.y rfl (Y.move (v:=.pointer (some ⟨ba0,oa0,none⟩)) s0_1)<|RQ.y rfl (Y.nilCheck rfl)<|RQ.y rfl (Y.fieldAddr (off:=5) rfl (by kernel_rfl))<|RQ.y rfl (Y.load (v:=.slice A4 d0.stack.length c4) rfl (by kernel_rfl) (eqC (cellT T (hca0 5 _ rfl))))<|RQ.y rfl (Y.len (by kernel_rfl) rfl)<|RQ.y rfl (Y.binI (v:=.bool (decide (i22 < (d0.stack.length:Int)))) rfl rfl rfl)<|RQ.nil<|then_n ?_
  rcases bcases (decide (i22 < (d0.stack.length:Int))) with c24|c24
  ·replace hm:=cF c24 hm
   have pc24:=of_decide_eq_false c24
   refine cond_f rfl (vb rfl c24)<|wp_exit ?_
   exact (then_x (then_x (hit_x ⟨_,rfl,⟨xs21,(uxs21),s3_1,Guxs21,T,(by rw [hK1] at hm; exact hm)⟩⟩)))
  replace hm:=cT c24 hm
  have pc24:=of_decide_eq_true c24
  refine cond_t rfl (vb rfl c24)<|wp_skip<|then_n<|wp_seq<|wp_block<|wp_seq<|wp_rs rfl<|RQ.y rfl (Y.move (v:=.pointer (some ⟨ba0,oa0,none⟩)) s0_1)<|RQ.y rfl (Y.nilCheck rfl)<|RQ.y rfl (Y.fieldAddr (off:=5) rfl (by kernel_rfl))<|RQ.y rfl (Y.load (v:=.slice A4 d0.stack.length c4) rfl (by kernel_rfl) (eqC (cellT T (hca0 5 _ rfl))))<|RQ.y rfl (Y.move (v:=.int .i64 i22) s4_1) ?_
  obtain ⟨x25,hx28,hm⟩:=bnd hm
  obtain ⟨k26,hk29,hl30,hx28⟩:=getI_some hx28
  obtain ⟨b32,o33,rfl,hbb32⟩:=h4.addr (by omega)
  obtain ⟨cs27,hRcs27,hc31⟩:=h4.el hx28
  have hScs27:=hRcs27
  obtain ⟨A34,n34,c34,A35,n35,c35,A36,n36,c36,A37,n37,c37,rfl,⟨h34,r34⟩,⟨h35,r35⟩,⟨h36,r36⟩,⟨h37,r37⟩⟩:=hRcs27
  have e34:=h34.len; subst e34
  have q34:=len_le r34
  have e35:=h35.len; subst e35
  have q35:=len_le r35
  have e36:=h36.len; subst e36
  have q36:=len_le r36
  have e37:=h37.len; subst e37
  have q37:=len_le r37
  refine RQ.y rfl (Y.indexAddr (m:=k26) (sz:=8) rfl rfl hk29 hl30 (by kernel_rfl))<|RQ.y rfl (Y.assign (v:=.pointer (some ⟨b32,o33+k26 * 8,none⟩)) rfl)<|RQ.nil<|then_n<|wp_seq<|wp_seq<|wp_rs rfl<|RQ.y rfl (Y.move (v:=.pointer (some ⟨b32,o33+k26 * 8,none⟩)) rfl)<|RQ.y rfl (Y.nilCheck rfl)<|RQ.y rfl (Y.fieldAddr (off:=0) rfl (by kernel_rfl))<|RQ.y rfl (Y.load (v:=.int .i64 x25.kind) rfl (by kernel_rfl) (eqC (cellT T (hc31 0 _ rfl))))<|RQ.y rfl (Y.binI (v:=.bool (x25.kind==1)) rfl rfl rfl)<|RQ.y rfl (Y.move (v:=.bool (x25.kind==1)) rfl) ?_
  rcases bcases (x25.kind==1) with c38|c38
  ·replace hm:=cF c38 hm
   refine RQ.y (wantT (dj:=40) rfl (vb rfl c38)) (Y.move (v:=.pointer (some ⟨b32,o33+k26 * 8,none⟩)) rfl)<|RQ.y (wantT (dj:=40) rfl (vb rfl c38)) (Y.nilCheck rfl)<|RQ.y (wantT (dj:=40) rfl (vb rfl c38)) (Y.fieldAddr (off:=0) rfl (by kernel_rfl))<|RQ.y (wantT (dj:=40) rfl (vb rfl c38)) (Y.load (v:=.int .i64 x25.kind) rfl (by kernel_rfl) (eqC (cellT T (hc31 0 _ rfl))))<|RQ.y (wantT (dj:=40) rfl (vb rfl c38)) (Y.binI (v:=.bool (x25.kind==2)) rfl rfl rfl)<|RQ.y rfl (Y.pick (b:=false) (v:=.bool (x25.kind==2)) (vb rfl c38) rfl)<|RQ.nil<|then_n ?_
   rcases bcases (x25.kind==2) with c39|c39
   ·replace hm:=cF c39 hm
    refine cond_f rfl (vb rfl c39)<|wp_skip<|then_n<|wp_rl rfl<|RL.y rfl (Y.move (v:=.pointer (some ⟨ba0,oa0,none⟩)) s0_1)<|RL.y rfl (Y.move (v:=uxs21) s3_1)<|RL.y rfl (Y.move (v:=.pointer (some ⟨b32,o33+k26 * 8,none⟩)) rfl)<|RL.y rfl (Y.nilCheck rfl)<|RL.y rfl (Y.fieldAddr (off:=3) rfl (by kernel_rfl))<|RL.y rfl (Y.fieldAddr (off:=4) rfl (by kernel_rfl))<|RL.y rfl (Y.load (v:=.slice A37 x25.closure.env.length c37) rfl (by kernel_rfl) (eqC (cellT T (hc31 7 _ rfl)))) ?_
    obtain ⟨y40,e41,hm⟩:=bnd hm
    obtain ⟨A42,c43,rfl⟩:=OwF.form Guxs21
    have qbA42:=OwF.bound Guxs21
    refine RL.call rfl (am3 rfl rfl rfl) (by kernel_rfl) ((c_m_spec_l09Mark d0 xs21 x25.closure.env _ e41 _ _ _ w w23 T (ptArg needRd_ok hba0 hSa0 hca0 (Below.refl _ _)) (slArg intRd_ok h37 r37 T) Guxs21 ).mono ?_)
    rintro _ w44 ⟨rfl,G47,K45,hb46⟩
    refine ⟨_,rfl,?_⟩
    have szw44:=K45.size
    have T:=hb46
    refine RL.nil ?_
    refine blk_n (then_n ?_)
    refine wp_rs rfl<|RQ.y rfl (Y.move (v:=.int .i64 i22) s4_1)<|RQ.y rfl (Y.binI rfl rfl (binI_add (m:=i22) (by omega)))<|RQ.y rfl (Y.assign (v:=.int .i64 (i22+1)) rfl)<|RQ.nil ?_
    exact (then_n ⟨g,_,Nat.lt_succ_self _,rfl,⟨y40,(i22+1),(.slice A42 xs21.length c43),s0_1,s3_1,G47,rfl,(by omega),T,(by rw [← hrec1]; exact hm)⟩⟩)
   replace hm:=cT c39 hm
   refine cond_t rfl (vb rfl c39)<|wp_rl rfl<|RL.y rfl (Y.move (v:=.pointer (some ⟨ba0,oa0,none⟩)) s0_1)<|RL.y rfl (Y.move (v:=uxs21) s3_1)<|RL.y rfl (Y.move (v:=.pointer (some ⟨b32,o33+k26 * 8,none⟩)) rfl)<|RL.y rfl (Y.nilCheck rfl)<|RL.y rfl (Y.fieldAddr (off:=1) rfl (by kernel_rfl))<|RL.y rfl (Y.load (v:=.int .i64 x25.value) rfl (by kernel_rfl) (eqC (cellT T (hc31 1 _ rfl)))) ?_
   refine RL.bslice (e:=2) (cells:=#[.int .i64 x25.value]) rfl (pm1 rfl) (by kernel_rfl) (fun w48 B49 hb50 szw48=>?_)
   have ZB49:w.heap.size≤w23.heap.size:=T.size
   have Do51_oxs21:=Dj.new (v:=.slice (some ⟨w23.heap.size,0,none⟩) 1 1) litGe (OwF.hi Guxs21)
   have Guxs21:=OwF.below Guxs21 hb50
   have T:=Tt T hb50
   have G52:=OwF.lit (enc:=encI) (sz:=1) (xs:=[x25.value]) B49 ZB49 rfl rfl rfl rfl
   obtain ⟨y54,e55,hm⟩:=bnd hm
   obtain ⟨A56,c57,rfl⟩:=OwF.form Guxs21
   have qbA56:=OwF.bound Guxs21
   refine RL.call rfl (am3 rfl rfl rfl) (by kernel_rfl) ((c_m_spec_l09Mark d0 xs21 ([x25.value]) _ e55 _ _ _ w w48 T (ptArg needRd_ok hba0 hSa0 hca0 (Below.refl _ _)) (OwF.arg fI G52) Guxs21 ).mono ?_)
   rintro _ w58 ⟨rfl,G61,K59,hb60⟩
   refine ⟨_,rfl,?_⟩
   have szw58:=K59.size
   have G52:=OwF.keepV G52 K59 Do51_oxs21 Do51_oxs21
   have T:=hb60
   refine RL.nil<|then_n<|wp_rl rfl<|RL.y rfl (Y.move (v:=.pointer (some ⟨ba0,oa0,none⟩)) s0_1)<|RL.y rfl (Y.move (v:=.slice A56 xs21.length c57) s3_1)<|RL.y rfl (Y.move (v:=.pointer (some ⟨b32,o33+k26 * 8,none⟩)) rfl)<|RL.y rfl (Y.nilCheck rfl)<|RL.y rfl (Y.fieldAddr (off:=3) rfl (by kernel_rfl))<|RL.y rfl (Y.fieldAddr (off:=4) rfl (by kernel_rfl))<|RL.y rfl (Y.load (v:=.slice A37 x25.closure.env.length c37) rfl (by kernel_rfl) (eqC (cellT T (hc31 7 _ rfl)))) ?_
   obtain ⟨y62,e63,hm⟩:=bnd hm
   refine RL.call rfl (am3 rfl rfl rfl) (by kernel_rfl) ((c_m_spec_l09Mark d0 y54 x25.closure.env _ e63 _ _ _ w w58 T (ptArg needRd_ok hba0 hSa0 hca0 (Below.refl _ _)) (slArg intRd_ok h37 r37 T) G61 ).mono ?_)
   rintro _ w64 ⟨rfl,G67,K65,hb66⟩
   refine ⟨_,rfl,?_⟩
   have szw64:=K65.size
   have T:=hb66
   refine RL.nil ?_
   refine blk_n (then_n ?_)
   refine wp_rs rfl<|RQ.y rfl (Y.move (v:=.int .i64 i22) s4_1)<|RQ.y rfl (Y.binI rfl rfl (binI_add (m:=i22) (by omega)))<|RQ.y rfl (Y.assign (v:=.int .i64 (i22+1)) rfl)<|RQ.nil ?_
   exact (then_n ⟨g,_,Nat.lt_succ_self _,rfl,⟨y62,(i22+1),(.slice A56 xs21.length c57),s0_1,s3_1,G67,rfl,(by omega),T,(by rw [← hrec1]; exact hm)⟩⟩)
  replace hm:=cT c38 hm
  iterate 5 refine RQ.skip (wantN (dj:=40) rfl (vb rfl c38) rfl) ?_
  refine RQ.y rfl (Y.pick (b:=true) (v:=.bool true) (vb rfl c38) rfl)<|RQ.nil<|then_n<|cond_t rfl rfl<|wp_rl rfl<|RL.y rfl (Y.move (v:=.pointer (some ⟨ba0,oa0,none⟩)) s0_1)<|RL.y rfl (Y.move (v:=uxs21) s3_1)<|RL.y rfl (Y.move (v:=.pointer (some ⟨b32,o33+k26 * 8,none⟩)) rfl)<|RL.y rfl (Y.nilCheck rfl)<|RL.y rfl (Y.fieldAddr (off:=1) rfl (by kernel_rfl))<|RL.y rfl (Y.load (v:=.int .i64 x25.value) rfl (by kernel_rfl) (eqC (cellT T (hc31 1 _ rfl)))) ?_
  refine RL.bslice (e:=2) (cells:=#[.int .i64 x25.value]) rfl (pm1 rfl) (by kernel_rfl) (fun w68 B69 hb70 szw68=>?_)
  have ZB69:w.heap.size≤w23.heap.size:=T.size
  have Do71_oxs21:=Dj.new (v:=.slice (some ⟨w23.heap.size,0,none⟩) 1 1) litGe (OwF.hi Guxs21)
  have Guxs21:=OwF.below Guxs21 hb70
  have T:=Tt T hb70
  have G72:=OwF.lit (enc:=encI) (sz:=1) (xs:=[x25.value]) B69 ZB69 rfl rfl rfl rfl
  obtain ⟨y74,e75,hm⟩:=bnd hm
  obtain ⟨A76,c77,rfl⟩:=OwF.form Guxs21
  have qbA76:=OwF.bound Guxs21
  refine RL.call rfl (am3 rfl rfl rfl) (by kernel_rfl) ((c_m_spec_l09Mark d0 xs21 ([x25.value]) _ e75 _ _ _ w w68 T (ptArg needRd_ok hba0 hSa0 hca0 (Below.refl _ _)) (OwF.arg fI G72) Guxs21 ).mono ?_)
  rintro _ w78 ⟨rfl,G81,K79,hb80⟩
  refine ⟨_,rfl,?_⟩
  have szw78:=K79.size
  have G72:=OwF.keepV G72 K79 Do71_oxs21 Do71_oxs21
  have T:=hb80
  refine RL.nil<|then_n<|wp_rl rfl<|RL.y rfl (Y.move (v:=.pointer (some ⟨ba0,oa0,none⟩)) s0_1)<|RL.y rfl (Y.move (v:=.slice A76 xs21.length c77) s3_1)<|RL.y rfl (Y.move (v:=.pointer (some ⟨b32,o33+k26 * 8,none⟩)) rfl)<|RL.y rfl (Y.nilCheck rfl)<|RL.y rfl (Y.fieldAddr (off:=3) rfl (by kernel_rfl))<|RL.y rfl (Y.fieldAddr (off:=4) rfl (by kernel_rfl))<|RL.y rfl (Y.load (v:=.slice A37 x25.closure.env.length c37) rfl (by kernel_rfl) (eqC (cellT T (hc31 7 _ rfl)))) ?_
  obtain ⟨y82,e83,hm⟩:=bnd hm
  refine RL.call rfl (am3 rfl rfl rfl) (by kernel_rfl) ((c_m_spec_l09Mark d0 y74 x25.closure.env _ e83 _ _ _ w w78 T (ptArg needRd_ok hba0 hSa0 hca0 (Below.refl _ _)) (slArg intRd_ok h37 r37 T) G81 ).mono ?_)
  rintro _ w84 ⟨rfl,G87,K85,hb86⟩
  refine ⟨_,rfl,?_⟩
  have szw84:=K85.size
  have T:=hb86
  refine RL.nil ?_
  refine blk_n (then_n ?_)
  refine wp_rs rfl<|RQ.y rfl (Y.move (v:=.int .i64 i22) s4_1)<|RQ.y rfl (Y.binI rfl rfl (binI_add (m:=i22) (by omega)))<|RQ.y rfl (Y.assign (v:=.int .i64 (i22+1)) rfl)<|RQ.nil ?_
  exact (then_n ⟨g,_,Nat.lt_succ_self _,rfl,⟨y82,(i22+1),(.slice A76 xs21.length c77),s0_1,s3_1,G87,rfl,(by omega),T,(by rw [← hrec1]; exact hm)⟩⟩)
noncomputable def m_spec_LiveThunks_A1 (xs33:List Int):Option ((List Int) × Int):=
  some (xs33,0)
noncomputable def m_spec_LiveThunks_B1 (y26:List Bool) (rec1:List Int→Int→Option ((List Int) × Int)) (K1:List Int→Option ((List Int) × Int)) (xs35:List Int) (i36:Int):Option ((List Int) × Int):=
  (bif (decide (i36 < (y26.length:Int))) then ((getI y26 i36).bind fun x41=>(bif x41 then ((mustP (xs35.length+([i36]).length≤4294967296)).bind fun _=>(rec1 (xs35 ++ [i36]) (i36+1))) else (rec1 xs35 (i36+1)))) else (K1 xs35))
noncomputable def m_spec_LiveThunks_L1 (y26:List Bool) (K1:List Int→Option ((List Int) × Int)):Nat→List Int→Int→Option ((List Int) × Int)
  |0,_,_=>none
  |g+1,xs35,i36=>m_spec_LiveThunks_B1 y26 (m_spec_LiveThunks_L1 y26 K1 g) K1 xs35 i36
noncomputable def m_spec_LiveThunks (d0:DBook) (d1:DNeed):Option ((List Int) × Int):=
  ((m_spec_l09Ok d0 d1).bind fun y15=>(bif y15 then ((m_spec_l09Live d1).bind fun y26=>(m_spec_LiveThunks_L1 y26 m_spec_LiveThunks_A1 (y26.length+1) ([] : List Int) 0)) else some ([],1)))
set_option maxHeartbeats 2000000 in
theorem c_m_spec_LiveThunks (d0:DBook) (d1:DNeed) (r:(List Int) × Int) (hm:m_spec_LiveThunks d0 d1=some r) (v0:Value) (v1:Value) (w:World) (hv0:St bookRd w v0 d0) (hv1:St needRd w v1 d1) :
    Calls Tryz.prog 22 #[v0,v1] w fun e w'=>(∃(v0:Value),e=.returned (.tuple #[v0,.int .i64 r.2])∧OwF 2 encI 1 w' w.heap.size v0 r.1)∧Below w.heap.size w w':=by
  obtain ⟨csa0,rfl,⟨A1,n1,c1,rfl,⟨h1,r1⟩⟩⟩:=hv0
  have e1:=h1.len; subst e1
  have q1:=len_le r1
  obtain ⟨csa1,rfl,⟨A2,n2,c2,A3,n3,c3,A4,n4,c4,A5,n5,c5,A6,n6,c6,rfl,⟨h2,r2⟩,⟨h3,r3⟩,⟨h4,r4⟩,⟨h5,r5⟩,⟨h6,r6⟩⟩⟩:=hv1
  have e2:=h2.len; subst e2
  have q2:=len_le r2
  have e3:=h3.len; subst e3
  have q3:=len_le r3
  have e4:=h4.len; subst e4
  have q4:=len_le r4
  have e5:=h5.len; subst e5
  have q5:=len_le r5
  have e6:=h6.len; subst e6
  have q6:=len_le r6
  have T:=Below.refl w.heap.size w
  unfold m_spec_LiveThunks at hm
  refine enter 28 Tryz.func22 rfl rfl rfl ?_
  intro f hf
  have s0:f 0=.agg #[.slice A1 d0.defs.length c1]:=hf 0 _ rfl
  have s1:f 1=.agg #[.int .i64 d1.control.term.kind,.int .i64 d1.control.term.value,.slice A2 d1.control.term.data.length c2,.slice A3 d1.control.term.kids.length c3,.slice A4 d1.control.env.length c4,.slice A5 d1.stack.length c5,.slice A6 d1.heap.length c6]:=hf 1 _ rfl
  refine wp_seq<|wp_rl rfl ?_
  refine RL.box rfl s0 (fun w7 B8 hb9 szw7=>?_)
  replace B8:Blk w7 w.heap.size 75 #[.slice A1 d0.defs.length c1]:=B8
  have GB8:w.heap.size≤w.heap.size:=T.size
  have T:=Tt T hb9
  refine RL.box rfl s1 (fun w11 B12 hb13 szw11=>?_)
  replace B12:Blk w11 w7.heap.size 84 #[.int .i64 d1.control.term.kind,.int .i64 d1.control.term.value,.slice A2 d1.control.term.data.length c2,.slice A3 d1.control.term.kids.length c3,.slice A4 d1.control.env.length c4,.slice A5 d1.stack.length c5,.slice A6 d1.heap.length c6]:=B12
  have GB12:w.heap.size≤w7.heap.size:=T.size
  have Eob14_ob10:=Nat.ne_of_lt B8.lt
  have B8:=blkT B8 hb13
  have T:=Tt T hb13
  refine RL.y rfl (Y.assign (v:=.slice none 0 0) rfl)<|RL.y rfl (Y.assign (v:=.int .i64 0) rfl)<|RL.nil<|then_n<|wp_seq<|wp_seq<|wp_rb rfl ?_
  obtain ⟨y15,e16,hm⟩:=bnd hm
  refine RQ.call rfl (am2 rfl rfl) (by kernel_rfl) (v:=.bool y15) (bel (K:=fun _=>True) fun w' hb'=>(c_m_spec_l09Ok d0 d1 _ e16 _ _ w' (ptBox (R:=bookRd) (blkT B8 hb') ⟨_,_,_,rfl,⟨SlAt.now coreRd_ok h1 (Nat.le_refl _) (Tt T hb'),r1⟩⟩) (ptBox (R:=needRd) (blkT B12 hb') ⟨_,_,_,_,_,_,_,_,_,_,_,_,_,_,_,rfl,⟨SlAt.now intRd_ok h2 (Nat.le_refl _) (Tt T hb'),r2⟩,⟨SlAt.now coreRd_ok h3 (Nat.le_refl _) (Tt T hb'),r3⟩,⟨SlAt.now intRd_ok h4 (Nat.le_refl _) (Tt T hb'),r4⟩,⟨SlAt.now frameRd_ok h5 (Nat.le_refl _) (Tt T hb'),r5⟩,⟨SlAt.now thunkRd_ok h6 (Nat.le_refl _) (Tt T hb'),r6⟩⟩)))<|RQ.y rfl (Y.not (b':=(!y15)) rfl rfl)<|RQ.nil ?_
  intro w17 hb18
  have szw17:=hb18.size
  have B12:=blkT B12 hb18
  have T:=Tt T hb18
  refine then_n ?_
  rcases bcases y15 with c19|c19
  ·replace hm:=cF c19 hm
   refine cond_t rfl (vbn rfl c19 rfl)<|wp_seq<|wp_rs rfl<|RQ.y rfl (Y.assign (v:=.slice none 0 0) rfl)<|RQ.y rfl (Y.assign (v:=.int .i64 1) rfl)<|RQ.nil<|then_n<|wp_ret ?_
   obtain rfl:=sj hm
   exact (then_r (ret2 rfl rfl rfl rfl ⟨⟨_,rfl,OwF.nil⟩,T⟩))
  replace hm:=cT c19 hm
  refine cond_f rfl (vbn rfl c19 rfl)<|wp_skip<|then_n<|wp_seq<|wp_rl rfl ?_
  refine RL.bslice (e:=2) (cells:=#[]) rfl pm0 (by kernel_rfl) (fun w20 B21 hb22 szw20=>?_)
  have ZB21:w.heap.size≤w17.heap.size:=T.size
  have No23_ob14:=litNe (n:=0) (c:=0) B12.lt
  have B12:=blkT B12 hb22
  have T:=Tt T hb22
  have G24:=OwF.lit (enc:=encI) (sz:=1) (xs:=([] : List Int)) B21 ZB21 rfl rfl rfl rfl
  refine RL.y rfl (Y.assign (v:=.slice (some ⟨w17.heap.size,0,none⟩) 0 0) rfl)<|RL.nil<|then_n<|wp_seq<|wp_rl rfl ?_
  obtain ⟨y26,e27,hm⟩:=bnd hm
  refine RL.call rfl (am1 rfl) (by kernel_rfl) ((c_m_spec_l09Live d1 _ e27 _ _ (ptBox (R:=needRd) B12 ⟨_,_,_,_,_,_,_,_,_,_,_,_,_,_,_,rfl,⟨SlAt.now intRd_ok h2 (Nat.le_refl _) T,r2⟩,⟨SlAt.now coreRd_ok h3 (Nat.le_refl _) T,r3⟩,⟨SlAt.now intRd_ok h4 (Nat.le_refl _) T,r4⟩,⟨SlAt.now frameRd_ok h5 (Nat.le_refl _) T,r5⟩,⟨SlAt.now thunkRd_ok h6 (Nat.le_refl _) T,r6⟩⟩)).mono ?_)
  rintro _ w31 ⟨⟨v28,rfl,G29⟩,hb32⟩
  refine ⟨_,rfl,?_⟩
  have szw31:=hb32.size
  have T0w31:=T.size
  have Zo30_ob14:=ap_ne (Ap.new (OwF.flo G29) (one_hi B12.lt))
  have Zo30_o23:=Ap.dj (Ap.new (OwF.flo G29) (OwF.fhi G24))
  have B12:=blkT B12 hb32
  have G24:=OwF.below G24 hb32
  have T:=Tt T hb32
  replace G29:=OwF.mono G29 T0w31
  refine RL.y rfl (Y.assign (v:=v28) rfl)<|RL.nil<|then_n<|wp_seq<|wp_seq<|wp_rs rfl<|RQ.y rfl (Y.assign (v:=.int .i64 0) rfl)<|RQ.nil<|then_n<|wp_block ?_
  obtain ⟨K1,hK1,hm⟩ :∃K,K=m_spec_LiveThunks_A1∧m_spec_LiveThunks_L1 y26 K (y26.length+1) ([] : List Int) 0=some r:=⟨_,rfl,hm⟩
  refine wp_loopX (fun g f w'=>∃(xs35:List Int) (i36:Int) (uxs35:Value),f 7=v28∧f 6=uxs35∧OwF 2 encI 1 w' w.heap.size uxs35 xs35∧f 8=.int .i64 i36∧0≤i36∧Dj uxs35 v28∧OwF 4 encB 1 w' w.heap.size v28 y26∧Below w.heap.size w w'∧m_spec_LiveThunks_L1 y26 K1 g xs35 i36=some r) 0 (fun f w'=>∃(xs33:List Int) (uxs33:Value),f 6=uxs33∧OwF 2 encI 1 w' w.heap.size uxs33 xs33∧Below w.heap.size w w'∧m_spec_LiveThunks_A1 xs33=some r) (y26.length+1) ⟨([] : List Int),0,(.slice (some ⟨w17.heap.size,0,none⟩) 0 0),rfl,rfl,G24,rfl,(by omega),(Ap.dj (Ap.symm (Dj.ap Zo30_o23))),G29,T,hm⟩ ?_ ?_
  ·rintro f w34 ⟨xs33,uxs33,s6_1x,Guxs33,T,hm⟩
   unfold m_spec_LiveThunks_A1 at hm
   refine blk_hit (then_n ?_)
   refine wp_seq<|wp_rs rfl<|RQ.y rfl (Y.move (v:=uxs33) s6_1x)<|RQ.y rfl (Y.assign (v:=uxs33) rfl)<|RQ.y rfl (Y.assign (v:=.int .i64 0) rfl)<|RQ.nil<|then_n<|wp_ret ?_
   obtain rfl:=sj hm
   exact (ret2 rfl rfl rfl rfl ⟨⟨_,rfl,Guxs33⟩,T⟩)
  rintro g f w37 ⟨xs35,i36,uxs35,s7_1,s6_1,Guxs35,s8_1,nn8_1,Doxs35_o30,G29,T,hm⟩
  rcases g with _|g
  ·simp only [m_spec_LiveThunks_L1] at hm; cases hm
  obtain ⟨rec1,hrec1,hm⟩ :∃z,z=m_spec_LiveThunks_L1 y26 K1 g∧m_spec_LiveThunks_B1 y26 z K1 xs35 i36=some r:=⟨_,rfl,hm⟩
  unfold m_spec_LiveThunks_B1 at hm
  refine wp_seq<|wp_seq<|wp_rs rfl<|RQ.y rfl (Y.move (v:=.int .i64 i36) s8_1)<|RQ.y rfl (Y.move (v:=v28) s7_1) ?_
  obtain ⟨A38,c39,rfl⟩:=OwF.form G29
  have qbA38:=OwF.bound G29
  refine RQ.y rfl (Y.len (by kernel_rfl) rfl)<|RQ.y rfl (Y.binI (v:=.bool (decide (i36 < (y26.length:Int)))) rfl rfl rfl)<|RQ.nil<|then_n ?_
  rcases bcases (decide (i36 < (y26.length:Int))) with c40|c40
  ·replace hm:=cF c40 hm
   have pc40:=of_decide_eq_false c40
   refine cond_f rfl (vb rfl c40)<|wp_exit ?_
   exact (then_x (then_x (hit_x ⟨_,rfl,⟨xs35,(uxs35),s6_1,Guxs35,T,(by rw [hK1] at hm; exact hm)⟩⟩)))
  replace hm:=cT c40 hm
  have pc40:=of_decide_eq_true c40
  refine cond_t rfl (vb rfl c40)<|wp_skip<|then_n<|wp_seq<|wp_block<|wp_seq<|wp_rs rfl<|RQ.y rfl (Y.move (v:=.slice A38 y26.length c39) s7_1)<|RQ.y rfl (Y.move (v:=.int .i64 i36) s8_1) ?_
  obtain ⟨x41,hx43,hm⟩:=bnd hm
  obtain ⟨k42,hk44,hl45,hx43⟩:=getI_some hx43
  obtain ⟨b46,rfl⟩:=OwF.addr0 G29 (by omega)
  refine RQ.y rfl (Y.indexAddr (m:=k42) (sz:=1) rfl rfl hk44 hl45 (by kernel_rfl))<|RQ.y rfl (Y.load (v:=.bool x41) rfl (by kernel_rfl) (eqC (OwF.cell fB G29 hx43 (j:=0) rfl)))<|RQ.nil<|then_n ?_
  rcases bcases x41 with c47|c47
  ·replace hm:=cF c47 hm
   refine cond_f rfl (vb rfl c47)<|wp_skip ?_
   refine blk_n (then_n ?_)
   refine wp_rs rfl<|RQ.y rfl (Y.move (v:=.int .i64 i36) s8_1)<|RQ.y rfl (Y.binI rfl rfl (binI_add (m:=i36) (by omega)))<|RQ.y rfl (Y.assign (v:=.int .i64 (i36+1)) rfl)<|RQ.nil ?_
   exact (then_n ⟨g,_,Nat.lt_succ_self _,rfl,⟨xs35,(i36+1),(uxs35),s7_1,s6_1,Guxs35,rfl,(by omega),(Ap.dj (Dj.ap Doxs35_o30)),G29,T,(by rw [← hrec1]; exact hm)⟩⟩)
  replace hm:=cT c47 hm
  refine cond_t rfl (vb rfl c47)<|wp_rl rfl<|RL.y rfl (Y.move (v:=uxs35) s6_1)<|RL.y rfl (Y.move (v:=.int .i64 i36) s8_1) ?_
  refine RL.bslice (e:=2) (cells:=#[.int .i64 i36]) rfl (pm1 rfl) (by kernel_rfl) (fun w48 B49 hb50 szw48=>?_)
  have ZB49:w.heap.size≤w37.heap.size:=T.size
  have Do51_o30:=Dj.new (v:=.slice (some ⟨w37.heap.size,0,none⟩) 1 1) litGe (OwF.hi G29)
  have Do51_oxs35:=Dj.new (v:=.slice (some ⟨w37.heap.size,0,none⟩) 1 1) litGe (OwF.hi Guxs35)
  have G29:=OwF.below G29 hb50
  have Guxs35:=OwF.below Guxs35 hb50
  have T:=Tt T hb50
  have G52:=OwF.lit (enc:=encI) (sz:=1) (xs:=[i36]) B49 ZB49 rfl rfl rfl rfl
  obtain ⟨_,m54,hm⟩:=bnd hm
  have hk55:=mustP_some m54
  refine RL.append fI app_int64 rfl rfl rfl Guxs35 (OwF.arg fI G52) T.size hk55 (fun v56 w57 G58 hgr59 hbl60 hnb61=>?_)
  have szw57:=hbl60.size
  have Do62_o30:=Dj.app Doxs35_o30 hnb61 (OwF.hi G29)
  have G29:=OwF.keptD G29 hgr59 (Dj.symm Doxs35_o30)
  have T:=T.trans hbl60
  refine RL.y rfl (Y.assign (v:=v56) rfl)<|RL.nil ?_
  refine blk_n (then_n ?_)
  refine wp_rs rfl<|RQ.y rfl (Y.move (v:=.int .i64 i36) s8_1)<|RQ.y rfl (Y.binI rfl rfl (binI_add (m:=i36) (by omega)))<|RQ.y rfl (Y.assign (v:=.int .i64 (i36+1)) rfl)<|RQ.nil ?_
  exact (then_n ⟨g,_,Nat.lt_succ_self _,rfl,⟨(xs35 ++ [i36]),(i36+1),(v56),s7_1,rfl,G58,rfl,(by omega),(Ap.dj (Dj.ap Do62_o30)),G29,T,(by rw [← hrec1]; exact hm)⟩⟩)
end
section
open Go.RowKit
/-- A cell that holds a pointer to what R reads. -/
def ptRd {α:Type} (R:Rd α):Rd α:=fun w B cs x=>∃b o cs',cs=[.pointer (some ⟨b,o,none⟩)]∧b < B∧R w B cs' x∧∀j v,cs'[j]? = some v→w.cell? ⟨b,o+j,none⟩=some v
theorem ptRd_of {α:Type} {R:Rd α} {w:World} {v:Value} {x:α} (h:Pt R w v x):ptRd R w w.heap.size [v] x:=by
  obtain ⟨b,o,cs,rfl,hb,hR,hc⟩:=h
  exact ⟨b,o,cs,rfl,hb,hR,hc⟩
section
variable {C : World → Prop} {b o : Nat} {v0 v1 v2 v3 v4 v5 v6 v7 : Value}
theorem cells6 (h0:CellIn C ⟨b,o+0,none⟩ v0) (h1:CellIn C ⟨b,o+1,none⟩ v1) (h2:CellIn C ⟨b,o+2,none⟩ v2) (h3:CellIn C ⟨b,o+3,none⟩ v3) (h4:CellIn C ⟨b,o+4,none⟩ v4) (h5:CellIn C ⟨b,o+5,none⟩ v5):CellsIn C b o [v0,v1,v2,v3,v4,v5]:=fun w hw j v hj=>by
  rcases j with _|_|_|_|_|_|j <;> simp at hj <;> subst hj
  · exact h0 w hw
  · exact h1 w hw
  · exact h2 w hw
  · exact h3 w hw
  · exact h4 w hw
  · exact h5 w hw
theorem cells7 (h0:CellIn C ⟨b,o+0,none⟩ v0) (h1:CellIn C ⟨b,o+1,none⟩ v1) (h2:CellIn C ⟨b,o+2,none⟩ v2) (h3:CellIn C ⟨b,o+3,none⟩ v3) (h4:CellIn C ⟨b,o+4,none⟩ v4) (h5:CellIn C ⟨b,o+5,none⟩ v5) (h6:CellIn C ⟨b,o+6,none⟩ v6):CellsIn C b o [v0,v1,v2,v3,v4,v5,v6]:=fun w hw j v hj=>by
  rcases j with _|_|_|_|_|_|_|j <;> simp at hj <;> subst hj
  · exact h0 w hw
  · exact h1 w hw
  · exact h2 w hw
  · exact h3 w hw
  · exact h4 w hw
  · exact h5 w hw
  · exact h6 w hw
theorem cells8 (h0:CellIn C ⟨b,o+0,none⟩ v0) (h1:CellIn C ⟨b,o+1,none⟩ v1) (h2:CellIn C ⟨b,o+2,none⟩ v2) (h3:CellIn C ⟨b,o+3,none⟩ v3) (h4:CellIn C ⟨b,o+4,none⟩ v4) (h5:CellIn C ⟨b,o+5,none⟩ v5) (h6:CellIn C ⟨b,o+6,none⟩ v6) (h7:CellIn C ⟨b,o+7,none⟩ v7):CellsIn C b o [v0,v1,v2,v3,v4,v5,v6,v7]:=fun w hw j v hj=>by
  rcases j with _|_|_|_|_|_|_|_|j <;> simp at hj <;> subst hj
  · exact h0 w hw
  · exact h1 w hw
  · exact h2 w hw
  · exact h3 w hw
  · exact h4 w hw
  · exact h5 w hw
  · exact h6 w hw
  · exact h7 w hw
end
theorem app_impl_Frame:AppT Tryz.prog 81 145 (.agg #[.int .i64 0,.int .i64 0,.slice none 0 0,.int .i64 0,.int .i64 0,.slice none 0 0,.slice none 0 0,.slice none 0 0]) 8 128:=⟨by kernel_rfl,by kernel_rfl,rfl,by decide⟩
theorem app_impl_Thunk:AppT Tryz.prog 82 141 (.agg #[.bool false,.int .i64 0,.int .i64 0,.slice none 0 0,.slice none 0 0,.slice none 0 0]) 6 96:=⟨by kernel_rfl,by kernel_rfl,rfl,by decide⟩
end
end Go.Proofs.YtpbobilkejblgaaGreat
