/- Lemmas of the proof of CollectNeed, part 3. No condition. -/
import Derived.Test.YtkfmlehhbanopaaGreatZCollectNeed2
namespace Go.Proofs.YtkfmlehhbanopaaGreat
set_option linter.unusedVariables false
set_option linter.unusedSimpArgs false
section
open Go.RowKit
set_option maxRecDepth 100000
noncomputable def bM (d0:Int):Option Bool:=
  ((uq d0).bind fun y1=>some (!y1))
set_option maxHeartbeats 2000000 in
theorem fU (d0:Int) (r:Bool) (hm:bM d0=some r)  (w:World)  :
    Calls Tryz.prog 128 #[.int .i64 d0] w fun e w'=>e=.returned (.bool r)∧Below w.heap.size w w':=by
  have T:=Below.refl w.heap.size w;unfold bM at hm;refine enter 6 Tryz.func128 rfl rfl rfl ?_;intro f hf;have s0:f 0=.int .i64 d0:=hf 0 _ rfl;refine wp_seq<|au rfl<|aW (.bool false)<|RQ.nil<|ah<|wp_seq<|cZ rfl<|aT s0 ?_;obtain ⟨y1,e2,hm⟩:=bnd hm;refine RQ.call rfl (qZ rfl) (by kernel_rfl) (v:=.bool y1) (bel (K:=fun _=>True) fun w' hb'=>(Md d0 _ e2  w' ))<|RQ.y rfl (Y.not (b':=(!y1)) rfl rfl)<|aW (.bool (!y1))<|RQ.nil ?_;intro w3 hb4;have T:=Tt T hb4;refine ah<|wp_ret ?_
  cases hm
  exact (aV rfl rfl rfl ⟨rfl,T⟩)
noncomputable def tV (d0:ak):Option Bool:=
  (bif (d0.kind==1) then (bif (decide (d0.value ≥ 0)) then (bif (decide (d0.value≤255)) then (bif ((d0.data.length:Int)==0) then (bif ((d0.kids.length:Int)==0) then ((bg d0.data (fun x0=>bM x0)).bind fun axD=>some (!axD)) else some false) else some false) else some false) else some false) else (bif (d0.kind==2) then ((Bl d0.value).bind fun as6=>(bif as6 then (bif ((d0.data.length:Int)==0) then (bif ((d0.kids.length:Int)==0) then ((bg d0.data (fun x0=>bM x0)).bind fun y160=>some (!y160)) else some false) else some false) else some false)) else (bif (d0.kind==3) then ((lK d0.value).bind fun as7=>(bif as7 then (bif ((d0.data.length:Int)==0) then (bif ((d0.kids.length:Int)==2) then ((bg d0.data (fun x0=>bM x0)).bind fun axE=>some (!axE)) else some false) else some false) else some false)) else (bif (d0.kind==4) then (bif (d0.value==0) then (bif ((d0.data.length:Int)==0) then (bif ((d0.kids.length:Int)==1) then ((bg d0.data (fun x0=>bM x0)).bind fun axF=>some (!axF)) else some false) else some false) else some false) else (bif (d0.kind==6) then (bif (d0.value==0) then (bif ((d0.data.length:Int)==0) then (bif ((d0.kids.length:Int)==1) then ((bg d0.data (fun x0=>bM x0)).bind fun y113=>some (!y113)) else some false) else some false) else some false) else (bif (d0.kind==5) then (bif (d0.value==0) then (bif ((d0.data.length:Int)==0) then (bif ((d0.kids.length:Int)==2) then ((bg d0.data (fun x0=>bM x0)).bind fun axG=>some (!axG)) else some false) else some false) else some false) else (bif (d0.kind==7) then (bif (d0.value==0) then (bif ((d0.data.length:Int)==0) then (bif ((d0.kids.length:Int)==2) then ((bg d0.data (fun x0=>bM x0)).bind fun y87=>some (!y87)) else some false) else some false) else some false) else (bif (d0.kind==8) then (bif ((d0.data.length:Int)==0) then (bif (decide (d0.value ≥ 0)) then (bif (decide (d0.value < 4)) then some (decide ((d0.kids.length:Int)≤3)) else some false) else some false) else some false) else (bif (d0.kind==9) then (bif (decide ((d0.data.length:Int) ≥ 1)) then (bif (d0.value==0) then (bif (decide ((d0.data.length:Int)≤4)) then (bif ((d0.kids.length:Int)==1) then ((bg d0.data (fun x0=>bM x0)).bind fun y71=>some (!y71)) else some false) else some false) else some false) else (bif (d0.value==0) then some false else some false)) else (bif (d0.kind==10) then (bif (d0.value==0) then (bif ((d0.data.length:Int)==2) then (bif ((d0.kids.length:Int)==1) then ((bg d0.data (fun x0=>bM x0)).bind fun y48=>some (!y48)) else some false) else some false) else some false) else (bif (d0.kind==11) then ((uq d0.value).bind fun y20=>(bif y20 then (bif ((d0.data.length:Int)==0) then (bif ((d0.kids.length:Int)==0) then ((bg d0.data (fun x0=>bM x0)).bind fun Uj=>some (!Uj)) else some false) else some false) else some false)) else some false)))))))))))
set_option maxHeartbeats 2000000 in
theorem Um (d0:ak) (r:Bool) (hm:tV d0=some r) (v0:Value) (w:World) (hv0:St bf w v0 d0) :
    Calls Tryz.prog 125 #[v0] w fun e w'=>e=.returned (.bool r)∧Below w.heap.size w w':=by
  obtain ⟨lg,rfl,hRR0⟩:=hv0;obtain ⟨A1,n1,c1,A2,n2,c2,rfl,⟨h1,r1⟩,⟨h2,r2⟩⟩:=(bG hRR0);obtain ⟨rfl,q1⟩:=bI h1 r1;obtain ⟨rfl,q2⟩:=bI h2 r2;have T:=Below.refl w.heap.size w;unfold tV at hm;refine enter 109 Tryz.func125 rfl rfl rfl ?_;intro f hf;have s0:f 0=.agg #[.int .i64 d0.kind,.int .i64 d0.value,.slice A1 d0.data.length c1,.slice A2 d0.kids.length c2]:=hf 0 _ rfl;refine wp_seq<|bF rfl ?_;refine RL.box rfl s0 (fun w3 B4 hb5 LP=>?_);replace B4:dD w3 w.heap.size 38 #[.int .i64 d0.kind,.int .i64 d0.value,.slice A1 d0.data.length c1,.slice A2 d0.kids.length c2]:=B4;have GB4:w.heap.size≤w.heap.size:=T.size;have T:=Tt T hb5;refine Ez (.bool false)<|RL.nil<|ah<|wp_seq<|au rfl<|gy 3 rfl<|gZ (.slice A2 d0.kids.length c2) rfl (cu (aj B4 (i:=3) rfl))<|yH rfl<|aW (.int .i64 (d0.kids.length:Int))<|RQ.nil<|ah<|wp_seq<|FC (by kernel_rfl) (by kernel_rfl)<|gy 2 rfl<|gZ (.slice A1 d0.data.length c1) rfl (bV (aj B4 (i:=2) rfl))<|yH rfl<|iq (.bool ((d0.data.length:Int)==0))<|aW (.bool true)<|aW (.bool ((d0.data.length:Int)==0))<|RQ.nil ?_;intro w7 hb8;have B4:=aX B4 hb8;have T:=Tt T hb8;refine ah<|wp_seq<|au rfl<|aW (.int .i64 0)<|RQ.nil<|ah<|wp_seq<|wp_seq<|au rfl<|gy 0 rfl<|gZ (.int .i64 d0.kind) rfl (cu (aj B4 (i:=0) rfl))<|RQ.nil<|ah<|wp_block<|wp_seq<|au rfl<|iq (.bool (d0.kind==1))<|aW (.bool (d0.kind==1))<|RQ.nil<|ah ?_;rcases aB (d0.kind==1) with c9|c9
  ·replace hm:=cF c9 hm;refine iH c9<|wp_seq<|au rfl<|iq (.bool (d0.kind==2))<|aW (.bool (d0.kind==2))<|RQ.nil<|ah ?_;rcases aB (d0.kind==2) with c10|c10
   ·replace hm:=cF c10 hm;refine iH c10<|wp_seq<|au rfl<|iq (.bool (d0.kind==3))<|aW (.bool (d0.kind==3))<|RQ.nil<|ah ?_;rcases aB (d0.kind==3) with c11|c11
    ·replace hm:=cF c11 hm;refine iH c11<|wp_seq<|wp_seq<|au rfl<|iq (.bool (d0.kind==4))<|aW (.bool (d0.kind==4))<|RQ.nil<|ah ?_;rcases aB (d0.kind==4) with c12|c12
     ·replace hm:=cF c12 hm;refine iH c12<|au rfl<|iq (.bool (d0.kind==6))<|aW (.bool (d0.kind==6))<|RQ.nil<|ah ?_;rcases aB (d0.kind==6) with c13|c13
      ·replace hm:=cF c13 hm;refine iH c13<|wp_seq<|wp_seq<|au rfl<|iq (.bool (d0.kind==5))<|aW (.bool (d0.kind==5))<|RQ.nil<|ah ?_;rcases aB (d0.kind==5) with c14|c14
       ·replace hm:=cF c14 hm;refine iH c14<|au rfl<|iq (.bool (d0.kind==7))<|aW (.bool (d0.kind==7))<|RQ.nil<|ah ?_;rcases aB (d0.kind==7) with c15|c15
        ·replace hm:=cF c15 hm;refine iH c15<|wp_seq<|au rfl<|iq (.bool (d0.kind==8))<|aW (.bool (d0.kind==8))<|RQ.nil<|ah ?_;rcases aB (d0.kind==8) with c16|c16
         ·replace hm:=cF c16 hm;refine iH c16<|wp_seq<|au rfl<|iq (.bool (d0.kind==9))<|aW (.bool (d0.kind==9))<|RQ.nil<|ah ?_;rcases aB (d0.kind==9) with c17|c17
          ·replace hm:=cF c17 hm;refine iH c17<|wp_seq<|au rfl<|iq (.bool (d0.kind==10))<|aW (.bool (d0.kind==10))<|RQ.nil<|ah ?_;rcases aB (d0.kind==10) with c18|c18
           ·replace hm:=cF c18 hm;refine iH c18<|wp_seq<|au rfl<|iq (.bool (d0.kind==11))<|aW (.bool (d0.kind==11))<|RQ.nil<|ah ?_;rcases aB (d0.kind==11) with c19|c19
            ·replace hm:=cF c19 hm;refine iH c19<|wp_seq<|au rfl<|aW (.bool false)<|RQ.nil<|ah<|wp_ret ?_
             cases hm
             exact (bC (aF (aV rfl rfl rfl ⟨rfl,T⟩)))
            replace hm:=cT c19 hm;refine ig c19<|cZ rfl<|gy 1 rfl<|gZ (.int .i64 d0.value) rfl (bV (aj B4 (i:=1) rfl)) ?_;obtain ⟨y20,e21,hm⟩:=bnd hm;refine RQ.call rfl (qZ rfl) (by kernel_rfl) (v:=.bool y20) (bel (K:=fun _=>True) fun w' hb'=>(Md d0.value _ e21  w' ))<|aW (.bool y20)<|RQ.nil ?_;intro MO LU;have B4:=aX B4 LU;have T:=Tt T LU;refine eF (ah ?_);refine wp_seq<|cZ rfl<|dF (.bool y20)<|dF (.bool y20) ?_;rcases aB y20 with c24|c24
            ·replace hm:=cF c24 hm;refine RQ.skip (oL 95 c24)<|dN false (.bool false) (vb rfl c24)<|dF (.bool false) ?_;iterate 3 refine RQ.skip (zZ 98) ?_
             refine dN false (.bool false) rfl<|dF (.bool false) ?_;iterate 4 refine RQ.skip (zZ 103) ?_
             refine dN false (.bool false) rfl<|aW (.bool false)<|RQ.nil ?_;intro w25 abl;have T:=Tt T abl;refine ah<|wp_ret ?_
             cases hm
             exact (aV rfl rfl rfl ⟨rfl,T⟩)
            replace hm:=cT c24 hm;refine RQ.y (bT 95 c24) (Y.move (v:=.bool ((d0.data.length:Int)==0)) rfl)<|dN true (.bool ((d0.data.length:Int)==0)) (vb rfl c24)<|dF (.bool ((d0.data.length:Int)==0)) ?_;rcases aB ((d0.data.length:Int)==0) with Vx|Vx
            ·replace hm:=cF Vx hm;iterate 3 refine RQ.skip (oL 98 Vx) ?_
             refine dN false (.bool false) (vb rfl Vx)<|dF (.bool false) ?_;iterate 4 refine RQ.skip (zZ 103) ?_
             refine dN false (.bool false) rfl<|aW (.bool false)<|RQ.nil ?_;intro w28 aj3;have T:=Tt T aj3;refine ah<|wp_ret ?_
             cases hm
             exact (aV rfl rfl rfl ⟨rfl,T⟩)
            replace hm:=cT Vx hm;refine RQ.y (bT 98 Vx) (Y.move (v:=.int .i64 (d0.kids.length:Int)) rfl)<|RQ.y (bT 98 Vx) (Y.move (v:=.int .i64 0) rfl)<|RQ.y (bT 98 Vx) (Y.dS (v:=.bool ((d0.kids.length:Int)==0)) rfl rfl rfl)<|dN true (.bool ((d0.kids.length:Int)==0)) (vb rfl Vx)<|dF (.bool ((d0.kids.length:Int)==0)) ?_;rcases aB ((d0.kids.length:Int)==0) with PU|PU
            ·replace hm:=cF PU hm;iterate 4 refine RQ.skip (oL 103 PU) ?_
             refine dN false (.bool false) (vb rfl PU)<|aW (.bool false)<|RQ.nil ?_;intro w31 Wh;have T:=Tt T Wh;refine ah<|wp_ret ?_
             cases hm
             exact (aV rfl rfl rfl ⟨rfl,T⟩)
            replace hm:=cT PU hm;refine RQ.y (bT 103 PU) (Y.fieldAddr (off:=2) rfl (by kernel_rfl))<|RQ.y (bT 103 PU) (Y.load (v:=.slice A1 d0.data.length c1) rfl (by kernel_rfl) (bV (aj B4 (i:=2) rfl))) ?_;obtain ⟨Uj,e34,hm⟩:=bnd hm;refine RQ.call (bT 103 PU) (qV rfl rfl) (by kernel_rfl) (v:=.bool Uj) (bel (K:=fun _=>True) fun w' hb'=>(bP d0.data (fun x0=>bM x0) _ e34 _ _ _ w' (eY aG h1 r1 (Tt T hb')) (by kernel_rfl) (fun x0 b hx w1 hb1=>Calls.arr (by simp) (fU x0 _ hx   w1  ))))<|RQ.y (bT 103 PU) (Y.not (b':=(!Uj)) rfl rfl)<|dN true (.bool (!Uj)) (vb rfl PU)<|aW (.bool (!Uj))<|RQ.nil ?_;intro w35 Jl;have T:=Tt T Jl;refine ah<|wp_ret ?_
            cases hm
            exact (aV rfl rfl rfl ⟨rfl,T⟩)
           replace hm:=cT c18 hm;refine ig c18<|FC (by kernel_rfl) (by kernel_rfl)<|gy 1 rfl<|gZ (.int .i64 d0.value) rfl (bV (aj B4 (i:=1) rfl))<|iq (.bool (d0.value==0))<|gy 2 rfl<|gZ (.slice A1 d0.data.length c1) rfl (bV (aj B4 (i:=2) rfl))<|yH rfl<|iq (.bool ((d0.data.length:Int)==2))<|aW (.bool (d0.value==0))<|aW (.int .i64 1)<|aW (.bool ((d0.data.length:Int)==2))<|RQ.nil ?_;intro w37 afX;have B4:=aX B4 afX;have T:=Tt T afX;refine eF (ah ?_);refine wp_seq<|cZ rfl<|dF (.bool (d0.value==0))<|dF (.bool (d0.value==0)) ?_;rcases aB (d0.value==0) with Vy|Vy
           ·replace hm:=cF Vy hm;refine RQ.skip (oL 95 Vy)<|dN false (.bool false) (vb rfl Vy)<|dF (.bool false) ?_;iterate 3 refine RQ.skip (zZ 98) ?_
            refine dN false (.bool false) rfl<|dF (.bool false) ?_;iterate 4 refine RQ.skip (zZ 103) ?_
            refine dN false (.bool false) rfl<|aW (.bool false)<|RQ.nil ?_;intro w40 adS;have T:=Tt T adS;refine ah<|wp_ret ?_
            cases hm
            exact (aV rfl rfl rfl ⟨rfl,T⟩)
           replace hm:=cT Vy hm;refine RQ.y (bT 95 Vy) (Y.move (v:=.bool ((d0.data.length:Int)==2)) rfl)<|dN true (.bool ((d0.data.length:Int)==2)) (vb rfl Vy)<|dF (.bool ((d0.data.length:Int)==2)) ?_;rcases aB ((d0.data.length:Int)==2) with MQ|MQ
           ·replace hm:=cF MQ hm;iterate 3 refine RQ.skip (oL 98 MQ) ?_
            refine dN false (.bool false) (vb rfl MQ)<|dF (.bool false) ?_;iterate 4 refine RQ.skip (zZ 103) ?_
            refine dN false (.bool false) rfl<|aW (.bool false)<|RQ.nil ?_;intro Sr as8;have T:=Tt T as8;refine ah<|wp_ret ?_
            cases hm
            exact (aV rfl rfl rfl ⟨rfl,T⟩)
           replace hm:=cT MQ hm;refine RQ.y (bT 98 MQ) (Y.move (v:=.int .i64 (d0.kids.length:Int)) rfl)<|RQ.y (bT 98 MQ) (Y.move (v:=.int .i64 1) rfl)<|RQ.y (bT 98 MQ) (Y.dS (v:=.bool ((d0.kids.length:Int)==1)) rfl rfl rfl)<|dN true (.bool ((d0.kids.length:Int)==1)) (vb rfl MQ)<|dF (.bool ((d0.kids.length:Int)==1)) ?_;rcases aB ((d0.kids.length:Int)==1) with ZF|ZF
           ·replace hm:=cF ZF hm;iterate 4 refine RQ.skip (oL 103 ZF) ?_
            refine dN false (.bool false) (vb rfl ZF)<|aW (.bool false)<|RQ.nil ?_;intro w46 abm;have T:=Tt T abm;refine ah<|wp_ret ?_
            cases hm
            exact (aV rfl rfl rfl ⟨rfl,T⟩)
           replace hm:=cT ZF hm;refine RQ.y (bT 103 ZF) (Y.fieldAddr (off:=2) rfl (by kernel_rfl))<|RQ.y (bT 103 ZF) (Y.load (v:=.slice A1 d0.data.length c1) rfl (by kernel_rfl) (bV (aj B4 (i:=2) rfl))) ?_;obtain ⟨y48,e49,hm⟩:=bnd hm;refine RQ.call (bT 103 ZF) (qV rfl rfl) (by kernel_rfl) (v:=.bool y48) (bel (K:=fun _=>True) fun w' hb'=>(bP d0.data (fun x0=>bM x0) _ e49 _ _ _ w' (eY aG h1 r1 (Tt T hb')) (by kernel_rfl) (fun x0 b hx w1 hb1=>Calls.arr (by simp) (fU x0 _ hx   w1  ))))<|RQ.y (bT 103 ZF) (Y.not (b':=(!y48)) rfl rfl)<|dN true (.bool (!y48)) (vb rfl ZF)<|aW (.bool (!y48))<|RQ.nil ?_;intro w50 aYk;have T:=Tt T aYk;refine ah<|wp_ret ?_
           cases hm
           exact (aV rfl rfl rfl ⟨rfl,T⟩)
          replace hm:=cT c17 hm;refine ig c17<|FC (by kernel_rfl) (by kernel_rfl)<|gy 1 rfl<|gZ (.int .i64 d0.value) rfl (bV (aj B4 (i:=1) rfl))<|iq (.bool (d0.value==0))<|gy 2 rfl<|gZ (.slice A1 d0.data.length c1) rfl (bV (aj B4 (i:=2) rfl))<|yH rfl<|iq (.bool (decide ((d0.data.length:Int) ≥ 1)))<|dF (.bool (decide ((d0.data.length:Int) ≥ 1))) ?_;rcases aB (decide ((d0.data.length:Int) ≥ 1)) with JR|JR
          ·replace hm:=cF JR hm;have aKV:=of_decide_eq_false JR;iterate 4 refine RQ.skip (oL 74 JR) ?_
           refine dN false (.bool false) (vb rfl JR)<|aW (.bool (d0.value==0))<|aW (.int .i64 1)<|aW (.bool false)<|RQ.nil ?_;intro w53 aQv;have B4:=aX B4 aQv;have T:=Tt T aQv;refine eF (ah ?_);refine wp_seq<|cZ rfl<|dF (.bool (d0.value==0))<|dF (.bool (d0.value==0)) ?_;rcases aB (d0.value==0) with c55|c55
           ·replace hm:=cF c55 hm;refine RQ.skip (oL 95 c55)<|dN false (.bool false) (vb rfl c55)<|dF (.bool false) ?_;iterate 3 refine RQ.skip (zZ 98) ?_
            refine dN false (.bool false) rfl<|dF (.bool false) ?_;iterate 4 refine RQ.skip (zZ 103) ?_
            refine dN false (.bool false) rfl<|aW (.bool false)<|RQ.nil ?_;intro w56 aj6;have T:=Tt T aj6;refine ah<|wp_ret ?_
            cases hm
            exact (aV rfl rfl rfl ⟨rfl,T⟩)
           replace hm:=cT c55 hm;refine RQ.y (bT 95 c55) (Y.move (v:=.bool false) rfl)<|dN true (.bool false) (vb rfl c55)<|dF (.bool false) ?_;iterate 3 refine RQ.skip (zZ 98) ?_
           refine dN false (.bool false) rfl<|dF (.bool false) ?_;iterate 4 refine RQ.skip (zZ 103) ?_
           refine dN false (.bool false) rfl<|aW (.bool false)<|RQ.nil ?_;intro w58 adT;have T:=Tt T adT;refine ah<|wp_ret ?_
           cases hm
           exact (aV rfl rfl rfl ⟨rfl,T⟩)
          replace hm:=cT JR hm;have aKV:=of_decide_eq_true JR;refine RQ.y (bT 74 JR) (Y.fieldAddr (off:=2) rfl (by kernel_rfl))<|RQ.y (bT 74 JR) (Y.load (v:=.slice A1 d0.data.length c1) rfl (by kernel_rfl) (bV (aj B4 (i:=2) rfl)))<|RQ.y (bT 74 JR) (Y.len (by kernel_rfl) rfl)<|RQ.y (bT 74 JR) (Y.dS (v:=.bool (decide ((d0.data.length:Int)≤4))) rfl rfl rfl)<|dN true (.bool (decide ((d0.data.length:Int)≤4))) (vb rfl JR)<|aW (.bool (d0.value==0))<|aW (.int .i64 1)<|aW (.bool (decide ((d0.data.length:Int)≤4)))<|RQ.nil ?_;intro w60 GL;have B4:=aX B4 GL;have T:=Tt T GL;refine eF (ah ?_);refine wp_seq<|cZ rfl<|dF (.bool (d0.value==0))<|dF (.bool (d0.value==0)) ?_;rcases aB (d0.value==0) with c62|c62
          ·replace hm:=cF c62 hm;refine RQ.skip (oL 95 c62)<|dN false (.bool false) (vb rfl c62)<|dF (.bool false) ?_;iterate 3 refine RQ.skip (zZ 98) ?_
           refine dN false (.bool false) rfl<|dF (.bool false) ?_;iterate 4 refine RQ.skip (zZ 103) ?_
           refine dN false (.bool false) rfl<|aW (.bool false)<|RQ.nil ?_;intro w63 hb64;have T:=Tt T hb64;refine ah<|wp_ret ?_
           cases hm
           exact (aV rfl rfl rfl ⟨rfl,T⟩)
          replace hm:=cT c62 hm;refine RQ.y (bT 95 c62) (Y.move (v:=.bool (decide ((d0.data.length:Int)≤4))) rfl)<|dN true (.bool (decide ((d0.data.length:Int)≤4))) (vb rfl c62)<|dF (.bool (decide ((d0.data.length:Int)≤4))) ?_;rcases aB (decide ((d0.data.length:Int)≤4)) with c65|c65
          ·replace hm:=cF c65 hm;have aKL:=of_decide_eq_false c65;iterate 3 refine RQ.skip (oL 98 c65) ?_
           refine dN false (.bool false) (vb rfl c65)<|dF (.bool false) ?_;iterate 4 refine RQ.skip (zZ 103) ?_
           refine dN false (.bool false) rfl<|aW (.bool false)<|RQ.nil ?_;intro w66 aYl;have T:=Tt T aYl;refine ah<|wp_ret ?_
           cases hm
           exact (aV rfl rfl rfl ⟨rfl,T⟩)
          replace hm:=cT c65 hm;have aKL:=of_decide_eq_true c65;refine RQ.y (bT 98 c65) (Y.move (v:=.int .i64 (d0.kids.length:Int)) rfl)<|RQ.y (bT 98 c65) (Y.move (v:=.int .i64 1) rfl)<|RQ.y (bT 98 c65) (Y.dS (v:=.bool ((d0.kids.length:Int)==1)) rfl rfl rfl)<|dN true (.bool ((d0.kids.length:Int)==1)) (vb rfl c65)<|dF (.bool ((d0.kids.length:Int)==1)) ?_;rcases aB ((d0.kids.length:Int)==1) with c68|c68
          ·replace hm:=cF c68 hm;iterate 4 refine RQ.skip (oL 103 c68) ?_
           refine dN false (.bool false) (vb rfl c68)<|aW (.bool false)<|RQ.nil ?_;intro w69 aGz;have T:=Tt T aGz;refine ah<|wp_ret ?_
           cases hm
           exact (aV rfl rfl rfl ⟨rfl,T⟩)
          replace hm:=cT c68 hm;refine RQ.y (bT 103 c68) (Y.fieldAddr (off:=2) rfl (by kernel_rfl))<|RQ.y (bT 103 c68) (Y.load (v:=.slice A1 d0.data.length c1) rfl (by kernel_rfl) (bV (aj B4 (i:=2) rfl))) ?_;obtain ⟨y71,e72,hm⟩:=bnd hm;refine RQ.call (bT 103 c68) (qV rfl rfl) (by kernel_rfl) (v:=.bool y71) (bel (K:=fun _=>True) fun w' hb'=>(bP d0.data (fun x0=>bM x0) _ e72 _ _ _ w' (eY aG h1 r1 (Tt T hb')) (by kernel_rfl) (fun x0 b hx w1 hb1=>Calls.arr (by simp) (fU x0 _ hx   w1  ))))<|RQ.y (bT 103 c68) (Y.not (b':=(!y71)) rfl rfl)<|dN true (.bool (!y71)) (vb rfl c68)<|aW (.bool (!y71))<|RQ.nil ?_;intro w73 aYm;have T:=Tt T aYm;refine ah<|wp_ret ?_
          cases hm
          exact (aV rfl rfl rfl ⟨rfl,T⟩)
         replace hm:=cT c16 hm;refine ig c16<|wp_seq<|au rfl<|dF (.bool ((d0.data.length:Int)==0))<|dF (.bool ((d0.data.length:Int)==0)) ?_;rcases aB ((d0.data.length:Int)==0) with c75|c75
         ·replace hm:=cF c75 hm;iterate 3 refine RQ.skip (oL 51 c75) ?_
          refine dN false (.bool false) (vb rfl c75)<|dF (.bool false) ?_;iterate 3 refine RQ.skip (zZ 56) ?_
          refine dN false (.bool false) rfl<|dF (.bool false)<|RQ.skip (zZ 61)<|RQ.skip (zZ 61)<|dN false (.bool false) rfl<|aW (.bool false)<|RQ.nil<|ah<|wp_ret ?_
          cases hm
          exact (bC (aF (aV rfl rfl rfl ⟨rfl,T⟩)))
         replace hm:=cT c75 hm;refine RQ.y (bT 51 c75) (Y.fieldAddr (off:=1) rfl (by kernel_rfl))<|RQ.y (bT 51 c75) (Y.load (v:=.int .i64 d0.value) rfl (by kernel_rfl) (cu (aj B4 (i:=1) rfl)))<|RQ.y (bT 51 c75) (Y.dS (v:=.bool (decide (d0.value ≥ 0))) rfl rfl rfl)<|dN true (.bool (decide (d0.value ≥ 0))) (vb rfl c75)<|dF (.bool (decide (d0.value ≥ 0))) ?_;rcases aB (decide (d0.value ≥ 0)) with c76|c76
         ·replace hm:=cF c76 hm;have aYn:=of_decide_eq_false c76;iterate 3 refine RQ.skip (oL 56 c76) ?_
          refine dN false (.bool false) (vb rfl c76)<|dF (.bool false)<|RQ.skip (zZ 61)<|RQ.skip (zZ 61)<|dN false (.bool false) rfl<|aW (.bool false)<|RQ.nil<|ah<|wp_ret ?_
          cases hm
          exact (bC (aF (aV rfl rfl rfl ⟨rfl,T⟩)))
         replace hm:=cT c76 hm;have aYn:=of_decide_eq_true c76;refine RQ.y (bT 56 c76) (Y.fieldAddr (off:=1) rfl (by kernel_rfl))<|RQ.y (bT 56 c76) (Y.load (v:=.int .i64 d0.value) rfl (by kernel_rfl) (cu (aj B4 (i:=1) rfl)))<|RQ.y (bT 56 c76) (Y.dS (v:=.bool (decide (d0.value < 4))) rfl rfl rfl)<|dN true (.bool (decide (d0.value < 4))) (vb rfl c76)<|dF (.bool (decide (d0.value < 4))) ?_;rcases aB (decide (d0.value < 4)) with c77|c77
         ·replace hm:=cF c77 hm;have aYo:=of_decide_eq_false c77;refine RQ.skip (oL 61 c77)<|RQ.skip (oL 61 c77)<|dN false (.bool false) (vb rfl c77)<|aW (.bool false)<|RQ.nil<|ah<|wp_ret ?_
          cases hm
          exact (bC (aF (aV rfl rfl rfl ⟨rfl,T⟩)))
         replace hm:=cT c77 hm;have aYo:=of_decide_eq_true c77;refine RQ.y (bT 61 c77) (Y.move (v:=.int .i64 (d0.kids.length:Int)) rfl)<|RQ.y (bT 61 c77) (Y.dS (v:=.bool (decide ((d0.kids.length:Int)≤3))) rfl rfl rfl)<|dN true (.bool (decide ((d0.kids.length:Int)≤3))) (vb rfl c77)<|aW (.bool (decide ((d0.kids.length:Int)≤3)))<|RQ.nil<|ah<|wp_ret ?_
         cases hm
         exact (bC (aF (aV rfl rfl rfl ⟨rfl,T⟩)))
        replace hm:=cT c15 hm;refine ig c15<|au rfl<|gy 1 rfl<|gZ (.int .i64 d0.value) rfl (cu (aj B4 (i:=1) rfl))<|iq (.bool (d0.value==0))<|aW (.bool (d0.value==0))<|aW (.int .i64 2)<|RQ.nil ?_;refine eF (ah ?_);refine wp_seq<|cZ rfl<|dF (.bool (d0.value==0))<|dF (.bool (d0.value==0)) ?_;rcases aB (d0.value==0) with c78|c78
        ·replace hm:=cF c78 hm;refine RQ.skip (oL 95 c78)<|dN false (.bool false) (vb rfl c78)<|dF (.bool false) ?_;iterate 3 refine RQ.skip (zZ 98) ?_
         refine dN false (.bool false) rfl<|dF (.bool false) ?_;iterate 4 refine RQ.skip (zZ 103) ?_
         refine dN false (.bool false) rfl<|aW (.bool false)<|RQ.nil ?_;intro w79 aK9;have T:=Tt T aK9;refine ah<|wp_ret ?_
         cases hm
         exact (aV rfl rfl rfl ⟨rfl,T⟩)
        replace hm:=cT c78 hm;refine RQ.y (bT 95 c78) (Y.move (v:=.bool ((d0.data.length:Int)==0)) rfl)<|dN true (.bool ((d0.data.length:Int)==0)) (vb rfl c78)<|dF (.bool ((d0.data.length:Int)==0)) ?_;rcases aB ((d0.data.length:Int)==0) with c81|c81
        ·replace hm:=cF c81 hm;iterate 3 refine RQ.skip (oL 98 c81) ?_
         refine dN false (.bool false) (vb rfl c81)<|dF (.bool false) ?_;iterate 4 refine RQ.skip (zZ 103) ?_
         refine dN false (.bool false) rfl<|aW (.bool false)<|RQ.nil ?_;intro w82 aGB;have T:=Tt T aGB;refine ah<|wp_ret ?_
         cases hm
         exact (aV rfl rfl rfl ⟨rfl,T⟩)
        replace hm:=cT c81 hm;refine RQ.y (bT 98 c81) (Y.move (v:=.int .i64 (d0.kids.length:Int)) rfl)<|RQ.y (bT 98 c81) (Y.move (v:=.int .i64 2) rfl)<|RQ.y (bT 98 c81) (Y.dS (v:=.bool ((d0.kids.length:Int)==2)) rfl rfl rfl)<|dN true (.bool ((d0.kids.length:Int)==2)) (vb rfl c81)<|dF (.bool ((d0.kids.length:Int)==2)) ?_;rcases aB ((d0.kids.length:Int)==2) with c84|c84
        ·replace hm:=cF c84 hm;iterate 4 refine RQ.skip (oL 103 c84) ?_
         refine dN false (.bool false) (vb rfl c84)<|aW (.bool false)<|RQ.nil ?_;intro w85 aK_;have T:=Tt T aK_;refine ah<|wp_ret ?_
         cases hm
         exact (aV rfl rfl rfl ⟨rfl,T⟩)
        replace hm:=cT c84 hm;refine RQ.y (bT 103 c84) (Y.fieldAddr (off:=2) rfl (by kernel_rfl))<|RQ.y (bT 103 c84) (Y.load (v:=.slice A1 d0.data.length c1) rfl (by kernel_rfl) (bV (aj B4 (i:=2) rfl))) ?_;obtain ⟨y87,e88,hm⟩:=bnd hm;refine RQ.call (bT 103 c84) (qV rfl rfl) (by kernel_rfl) (v:=.bool y87) (bel (K:=fun _=>True) fun w' hb'=>(bP d0.data (fun x0=>bM x0) _ e88 _ _ _ w' (eY aG h1 r1 (Tt T hb')) (by kernel_rfl) (fun x0 b hx w1 hb1=>Calls.arr (by simp) (fU x0 _ hx   w1  ))))<|RQ.y (bT 103 c84) (Y.not (b':=(!y87)) rfl rfl)<|dN true (.bool (!y87)) (vb rfl c84)<|aW (.bool (!y87))<|RQ.nil ?_;intro w89 aGC;have T:=Tt T aGC;refine ah<|wp_ret ?_
        cases hm
        exact (aV rfl rfl rfl ⟨rfl,T⟩)
       replace hm:=cT c14 hm;refine ig c14<|wp_skip<|ah<|ig c14<|au rfl<|gy 1 rfl<|gZ (.int .i64 d0.value) rfl (cu (aj B4 (i:=1) rfl))<|iq (.bool (d0.value==0))<|aW (.bool (d0.value==0))<|aW (.int .i64 2)<|RQ.nil ?_;refine eF (ah ?_);refine wp_seq<|cZ rfl<|dF (.bool (d0.value==0))<|dF (.bool (d0.value==0)) ?_;rcases aB (d0.value==0) with c91|c91
       ·replace hm:=cF c91 hm;refine RQ.skip (oL 95 c91)<|dN false (.bool false) (vb rfl c91)<|dF (.bool false) ?_;iterate 3 refine RQ.skip (zZ 98) ?_
        refine dN false (.bool false) rfl<|dF (.bool false) ?_;iterate 4 refine RQ.skip (zZ 103) ?_
        refine dN false (.bool false) rfl<|aW (.bool false)<|RQ.nil ?_;intro w92 aYp;have T:=Tt T aYp;refine ah<|wp_ret ?_
        cases hm
        exact (aV rfl rfl rfl ⟨rfl,T⟩)
       replace hm:=cT c91 hm;refine RQ.y (bT 95 c91) (Y.move (v:=.bool ((d0.data.length:Int)==0)) rfl)<|dN true (.bool ((d0.data.length:Int)==0)) (vb rfl c91)<|dF (.bool ((d0.data.length:Int)==0)) ?_;rcases aB ((d0.data.length:Int)==0) with c94|c94
       ·replace hm:=cF c94 hm;iterate 3 refine RQ.skip (oL 98 c94) ?_
        refine dN false (.bool false) (vb rfl c94)<|dF (.bool false) ?_;iterate 4 refine RQ.skip (zZ 103) ?_
        refine dN false (.bool false) rfl<|aW (.bool false)<|RQ.nil ?_;intro w95 afY;have T:=Tt T afY;refine ah<|wp_ret ?_
        cases hm
        exact (aV rfl rfl rfl ⟨rfl,T⟩)
       replace hm:=cT c94 hm;refine RQ.y (bT 98 c94) (Y.move (v:=.int .i64 (d0.kids.length:Int)) rfl)<|RQ.y (bT 98 c94) (Y.move (v:=.int .i64 2) rfl)<|RQ.y (bT 98 c94) (Y.dS (v:=.bool ((d0.kids.length:Int)==2)) rfl rfl rfl)<|dN true (.bool ((d0.kids.length:Int)==2)) (vb rfl c94)<|dF (.bool ((d0.kids.length:Int)==2)) ?_;rcases aB ((d0.kids.length:Int)==2) with c97|c97
       ·replace hm:=cF c97 hm;iterate 4 refine RQ.skip (oL 103 c97) ?_
        refine dN false (.bool false) (vb rfl c97)<|aW (.bool false)<|RQ.nil ?_;intro w98 aYq;have T:=Tt T aYq;refine ah<|wp_ret ?_
        cases hm
        exact (aV rfl rfl rfl ⟨rfl,T⟩)
       replace hm:=cT c97 hm;refine RQ.y (bT 103 c97) (Y.fieldAddr (off:=2) rfl (by kernel_rfl))<|RQ.y (bT 103 c97) (Y.load (v:=.slice A1 d0.data.length c1) rfl (by kernel_rfl) (bV (aj B4 (i:=2) rfl))) ?_;obtain ⟨axG,aYr,hm⟩:=bnd hm;refine RQ.call (bT 103 c97) (qV rfl rfl) (by kernel_rfl) (v:=.bool axG) (bel (K:=fun _=>True) fun w' hb'=>(bP d0.data (fun x0=>bM x0) _ aYr _ _ _ w' (eY aG h1 r1 (Tt T hb')) (by kernel_rfl) (fun x0 b hx w1 hb1=>Calls.arr (by simp) (fU x0 _ hx   w1  ))))<|RQ.y (bT 103 c97) (Y.not (b':=(!axG)) rfl rfl)<|dN true (.bool (!axG)) (vb rfl c97)<|aW (.bool (!axG))<|RQ.nil ?_;intro aQw aQx;have T:=Tt T aQx;refine ah<|wp_ret ?_
       cases hm
       exact (aV rfl rfl rfl ⟨rfl,T⟩)
      replace hm:=cT c13 hm;refine ig c13<|au rfl<|gy 1 rfl<|gZ (.int .i64 d0.value) rfl (cu (aj B4 (i:=1) rfl))<|iq (.bool (d0.value==0))<|aW (.bool (d0.value==0))<|aW (.int .i64 1)<|RQ.nil ?_;refine eF (ah ?_);refine wp_seq<|cZ rfl<|dF (.bool (d0.value==0))<|dF (.bool (d0.value==0)) ?_;rcases aB (d0.value==0) with adX|adX
      ·replace hm:=cF adX hm;refine RQ.skip (oL 95 adX)<|dN false (.bool false) (vb rfl adX)<|dF (.bool false) ?_;iterate 3 refine RQ.skip (zZ 98) ?_
       refine dN false (.bool false) rfl<|dF (.bool false) ?_;iterate 4 refine RQ.skip (zZ 103) ?_
       refine dN false (.bool false) rfl<|aW (.bool false)<|RQ.nil ?_;intro baA aQy;have T:=Tt T aQy;refine ah<|wp_ret ?_
       cases hm
       exact (aV rfl rfl rfl ⟨rfl,T⟩)
      replace hm:=cT adX hm;refine RQ.y (bT 95 adX) (Y.move (v:=.bool ((d0.data.length:Int)==0)) rfl)<|dN true (.bool ((d0.data.length:Int)==0)) (vb rfl adX)<|dF (.bool ((d0.data.length:Int)==0)) ?_;rcases aB ((d0.data.length:Int)==0) with c107|c107
      ·replace hm:=cF c107 hm;iterate 3 refine RQ.skip (oL 98 c107) ?_
       refine dN false (.bool false) (vb rfl c107)<|dF (.bool false) ?_;iterate 4 refine RQ.skip (zZ 103) ?_
       refine dN false (.bool false) rfl<|aW (.bool false)<|RQ.nil ?_;intro baB aQA;have T:=Tt T aQA;refine ah<|wp_ret ?_
       cases hm
       exact (aV rfl rfl rfl ⟨rfl,T⟩)
      replace hm:=cT c107 hm;refine RQ.y (bT 98 c107) (Y.move (v:=.int .i64 (d0.kids.length:Int)) rfl)<|RQ.y (bT 98 c107) (Y.move (v:=.int .i64 1) rfl)<|RQ.y (bT 98 c107) (Y.dS (v:=.bool ((d0.kids.length:Int)==1)) rfl rfl rfl)<|dN true (.bool ((d0.kids.length:Int)==1)) (vb rfl c107)<|dF (.bool ((d0.kids.length:Int)==1)) ?_;rcases aB ((d0.kids.length:Int)==1) with aj7|aj7
      ·replace hm:=cF aj7 hm;iterate 4 refine RQ.skip (oL 103 aj7) ?_
       refine dN false (.bool false) (vb rfl aj7)<|aW (.bool false)<|RQ.nil ?_;intro aYs aQB;have T:=Tt T aQB;refine ah<|wp_ret ?_
       cases hm
       exact (aV rfl rfl rfl ⟨rfl,T⟩)
      replace hm:=cT aj7 hm;refine RQ.y (bT 103 aj7) (Y.fieldAddr (off:=2) rfl (by kernel_rfl))<|RQ.y (bT 103 aj7) (Y.load (v:=.slice A1 d0.data.length c1) rfl (by kernel_rfl) (bV (aj B4 (i:=2) rfl))) ?_;obtain ⟨y113,aYt,hm⟩:=bnd hm;refine RQ.call (bT 103 aj7) (qV rfl rfl) (by kernel_rfl) (v:=.bool y113) (bel (K:=fun _=>True) fun w' hb'=>(bP d0.data (fun x0=>bM x0) _ aYt _ _ _ w' (eY aG h1 r1 (Tt T hb')) (by kernel_rfl) (fun x0 b hx w1 hb1=>Calls.arr (by simp) (fU x0 _ hx   w1  ))))<|RQ.y (bT 103 aj7) (Y.not (b':=(!y113)) rfl rfl)<|dN true (.bool (!y113)) (vb rfl aj7)<|aW (.bool (!y113))<|RQ.nil ?_;intro baC aQC;have T:=Tt T aQC;refine ah<|wp_ret ?_
      cases hm
      exact (aV rfl rfl rfl ⟨rfl,T⟩)
     replace hm:=cT c12 hm;refine ig c12<|wp_skip<|ah<|ig c12<|au rfl<|gy 1 rfl<|gZ (.int .i64 d0.value) rfl (cu (aj B4 (i:=1) rfl))<|iq (.bool (d0.value==0))<|aW (.bool (d0.value==0))<|aW (.int .i64 1)<|RQ.nil ?_;refine eF (ah ?_);refine wp_seq<|cZ rfl<|dF (.bool (d0.value==0))<|dF (.bool (d0.value==0)) ?_;rcases aB (d0.value==0) with c117|c117
     ·replace hm:=cF c117 hm;refine RQ.skip (oL 95 c117)<|dN false (.bool false) (vb rfl c117)<|dF (.bool false) ?_;iterate 3 refine RQ.skip (zZ 98) ?_
      refine dN false (.bool false) rfl<|dF (.bool false) ?_;iterate 4 refine RQ.skip (zZ 103) ?_
      refine dN false (.bool false) rfl<|aW (.bool false)<|RQ.nil ?_;intro baD aQD;have T:=Tt T aQD;refine ah<|wp_ret ?_
      cases hm
      exact (aV rfl rfl rfl ⟨rfl,T⟩)
     replace hm:=cT c117 hm;refine RQ.y (bT 95 c117) (Y.move (v:=.bool ((d0.data.length:Int)==0)) rfl)<|dN true (.bool ((d0.data.length:Int)==0)) (vb rfl c117)<|dF (.bool ((d0.data.length:Int)==0)) ?_;rcases aB ((d0.data.length:Int)==0) with aj8|aj8
     ·replace hm:=cF aj8 hm;iterate 3 refine RQ.skip (oL 98 aj8) ?_
      refine dN false (.bool false) (vb rfl aj8)<|dF (.bool false) ?_;iterate 4 refine RQ.skip (zZ 103) ?_
      refine dN false (.bool false) rfl<|aW (.bool false)<|RQ.nil ?_;intro baE afm;have T:=Tt T afm;refine ah<|wp_ret ?_
      cases hm
      exact (aV rfl rfl rfl ⟨rfl,T⟩)
     replace hm:=cT aj8 hm;refine RQ.y (bT 98 aj8) (Y.move (v:=.int .i64 (d0.kids.length:Int)) rfl)<|RQ.y (bT 98 aj8) (Y.move (v:=.int .i64 1) rfl)<|RQ.y (bT 98 aj8) (Y.dS (v:=.bool ((d0.kids.length:Int)==1)) rfl rfl rfl)<|dN true (.bool ((d0.kids.length:Int)==1)) (vb rfl aj8)<|dF (.bool ((d0.kids.length:Int)==1)) ?_;rcases aB ((d0.kids.length:Int)==1) with Zg|Zg
     ·replace hm:=cF Zg hm;iterate 4 refine RQ.skip (oL 103 Zg) ?_
      refine dN false (.bool false) (vb rfl Zg)<|aW (.bool false)<|RQ.nil ?_;intro baF aQE;have T:=Tt T aQE;refine ah<|wp_ret ?_
      cases hm
      exact (aV rfl rfl rfl ⟨rfl,T⟩)
     replace hm:=cT Zg hm;refine RQ.y (bT 103 Zg) (Y.fieldAddr (off:=2) rfl (by kernel_rfl))<|RQ.y (bT 103 Zg) (Y.load (v:=.slice A1 d0.data.length c1) rfl (by kernel_rfl) (bV (aj B4 (i:=2) rfl))) ?_;obtain ⟨axF,e127,hm⟩:=bnd hm;refine RQ.call (bT 103 Zg) (qV rfl rfl) (by kernel_rfl) (v:=.bool axF) (bel (K:=fun _=>True) fun w' hb'=>(bP d0.data (fun x0=>bM x0) _ e127 _ _ _ w' (eY aG h1 r1 (Tt T hb')) (by kernel_rfl) (fun x0 b hx w1 hb1=>Calls.arr (by simp) (fU x0 _ hx   w1  ))))<|RQ.y (bT 103 Zg) (Y.not (b':=(!axF)) rfl rfl)<|dN true (.bool (!axF)) (vb rfl Zg)<|aW (.bool (!axF))<|RQ.nil ?_;intro baG aQF;have T:=Tt T aQF;refine ah<|wp_ret ?_
     cases hm
     exact (aV rfl rfl rfl ⟨rfl,T⟩)
    replace hm:=cT c11 hm;refine ig c11<|cZ rfl<|gy 1 rfl<|gZ (.int .i64 d0.value) rfl (bV (aj B4 (i:=1) rfl)) ?_;obtain ⟨as7,aYu,hm⟩:=bnd hm;refine RQ.call rfl (qZ rfl) (by kernel_rfl) (v:=.bool as7) (bel (K:=fun _=>True) fun w' hb'=>(u_ d0.value _ aYu  w' ))<|aW (.bool as7)<|aW (.int .i64 2)<|RQ.nil ?_;intro baH aI8;have B4:=aX B4 aI8;have T:=Tt T aI8;refine eF (ah ?_);refine wp_seq<|cZ rfl<|dF (.bool as7)<|dF (.bool as7) ?_;rcases aB as7 with Wn|Wn
    ·replace hm:=cF Wn hm;refine RQ.skip (oL 95 Wn)<|dN false (.bool false) (vb rfl Wn)<|dF (.bool false) ?_;iterate 3 refine RQ.skip (zZ 98) ?_
     refine dN false (.bool false) rfl<|dF (.bool false) ?_;iterate 4 refine RQ.skip (zZ 103) ?_
     refine dN false (.bool false) rfl<|aW (.bool false)<|RQ.nil ?_;intro aYv awp;have T:=Tt T awp;refine ah<|wp_ret ?_
     cases hm
     exact (aV rfl rfl rfl ⟨rfl,T⟩)
    replace hm:=cT Wn hm;refine RQ.y (bT 95 Wn) (Y.move (v:=.bool ((d0.data.length:Int)==0)) rfl)<|dN true (.bool ((d0.data.length:Int)==0)) (vb rfl Wn)<|dF (.bool ((d0.data.length:Int)==0)) ?_;rcases aB ((d0.data.length:Int)==0) with QD|QD
    ·replace hm:=cF QD hm;iterate 3 refine RQ.skip (oL 98 QD) ?_
     refine dN false (.bool false) (vb rfl QD)<|dF (.bool false) ?_;iterate 4 refine RQ.skip (zZ 103) ?_
     refine dN false (.bool false) rfl<|aW (.bool false)<|RQ.nil ?_;intro aQG awq;have T:=Tt T awq;refine ah<|wp_ret ?_
     cases hm
     exact (aV rfl rfl rfl ⟨rfl,T⟩)
    replace hm:=cT QD hm;refine RQ.y (bT 98 QD) (Y.move (v:=.int .i64 (d0.kids.length:Int)) rfl)<|RQ.y (bT 98 QD) (Y.move (v:=.int .i64 2) rfl)<|RQ.y (bT 98 QD) (Y.dS (v:=.bool ((d0.kids.length:Int)==2)) rfl rfl rfl)<|dN true (.bool ((d0.kids.length:Int)==2)) (vb rfl QD)<|dF (.bool ((d0.kids.length:Int)==2)) ?_;rcases aB ((d0.kids.length:Int)==2) with abo|abo
    ·replace hm:=cF abo hm;iterate 4 refine RQ.skip (oL 103 abo) ?_
     refine dN false (.bool false) (vb rfl abo)<|aW (.bool false)<|RQ.nil ?_;intro baI aQH;have T:=Tt T aQH;refine ah<|wp_ret ?_
     cases hm
     exact (aV rfl rfl rfl ⟨rfl,T⟩)
    replace hm:=cT abo hm;refine RQ.y (bT 103 abo) (Y.fieldAddr (off:=2) rfl (by kernel_rfl))<|RQ.y (bT 103 abo) (Y.load (v:=.slice A1 d0.data.length c1) rfl (by kernel_rfl) (bV (aj B4 (i:=2) rfl))) ?_;obtain ⟨axE,aYw,hm⟩:=bnd hm;refine RQ.call (bT 103 abo) (qV rfl rfl) (by kernel_rfl) (v:=.bool axE) (bel (K:=fun _=>True) fun w' hb'=>(bP d0.data (fun x0=>bM x0) _ aYw _ _ _ w' (eY aG h1 r1 (Tt T hb')) (by kernel_rfl) (fun x0 b hx w1 hb1=>Calls.arr (by simp) (fU x0 _ hx   w1  ))))<|RQ.y (bT 103 abo) (Y.not (b':=(!axE)) rfl rfl)<|dN true (.bool (!axE)) (vb rfl abo)<|aW (.bool (!axE))<|RQ.nil ?_;intro baJ SL;have T:=Tt T SL;refine ah<|wp_ret ?_
    cases hm
    exact (aV rfl rfl rfl ⟨rfl,T⟩)
   replace hm:=cT c10 hm;refine ig c10<|cZ rfl<|gy 1 rfl<|gZ (.int .i64 d0.value) rfl (bV (aj B4 (i:=1) rfl)) ?_;obtain ⟨as6,aYx,hm⟩:=bnd hm;refine RQ.call rfl (qZ rfl) (by kernel_rfl) (v:=.bool as6) (bel (K:=fun _=>True) fun w' hb'=>(Nz d0.value _ aYx  w' ))<|aW (.bool as6)<|RQ.nil ?_;intro aYy aI9;have B4:=aX B4 aI9;have T:=Tt T aI9;refine eF (ah ?_);refine wp_seq<|cZ rfl<|dF (.bool as6)<|dF (.bool as6) ?_;rcases aB as6 with as9|as9
   ·replace hm:=cF as9 hm;refine RQ.skip (oL 95 as9)<|dN false (.bool false) (vb rfl as9)<|dF (.bool false) ?_;iterate 3 refine RQ.skip (zZ 98) ?_
    refine dN false (.bool false) rfl<|dF (.bool false) ?_;iterate 4 refine RQ.skip (zZ 103) ?_
    refine dN false (.bool false) rfl<|aW (.bool false)<|RQ.nil ?_;intro baK aQI;have T:=Tt T aQI;refine ah<|wp_ret ?_
    cases hm
    exact (aV rfl rfl rfl ⟨rfl,T⟩)
   replace hm:=cT as9 hm;refine RQ.y (bT 95 as9) (Y.move (v:=.bool ((d0.data.length:Int)==0)) rfl)<|dN true (.bool ((d0.data.length:Int)==0)) (vb rfl as9)<|dF (.bool ((d0.data.length:Int)==0)) ?_;rcases aB ((d0.data.length:Int)==0) with c154|c154
   ·replace hm:=cF c154 hm;iterate 3 refine RQ.skip (oL 98 c154) ?_
    refine dN false (.bool false) (vb rfl c154)<|dF (.bool false) ?_;iterate 4 refine RQ.skip (zZ 103) ?_
    refine dN false (.bool false) rfl<|aW (.bool false)<|RQ.nil ?_;intro aQJ aQK;have T:=Tt T aQK;refine ah<|wp_ret ?_
    cases hm
    exact (aV rfl rfl rfl ⟨rfl,T⟩)
   replace hm:=cT c154 hm;refine RQ.y (bT 98 c154) (Y.move (v:=.int .i64 (d0.kids.length:Int)) rfl)<|RQ.y (bT 98 c154) (Y.move (v:=.int .i64 0) rfl)<|RQ.y (bT 98 c154) (Y.dS (v:=.bool ((d0.kids.length:Int)==0)) rfl rfl rfl)<|dN true (.bool ((d0.kids.length:Int)==0)) (vb rfl c154)<|dF (.bool ((d0.kids.length:Int)==0)) ?_;rcases aB ((d0.kids.length:Int)==0) with c157|c157
   ·replace hm:=cF c157 hm;iterate 4 refine RQ.skip (oL 103 c157) ?_
    refine dN false (.bool false) (vb rfl c157)<|aW (.bool false)<|RQ.nil ?_;intro baL aQL;have T:=Tt T aQL;refine ah<|wp_ret ?_
    cases hm
    exact (aV rfl rfl rfl ⟨rfl,T⟩)
   replace hm:=cT c157 hm;refine RQ.y (bT 103 c157) (Y.fieldAddr (off:=2) rfl (by kernel_rfl))<|RQ.y (bT 103 c157) (Y.load (v:=.slice A1 d0.data.length c1) rfl (by kernel_rfl) (bV (aj B4 (i:=2) rfl))) ?_;obtain ⟨y160,e161,hm⟩:=bnd hm;refine RQ.call (bT 103 c157) (qV rfl rfl) (by kernel_rfl) (v:=.bool y160) (bel (K:=fun _=>True) fun w' hb'=>(bP d0.data (fun x0=>bM x0) _ e161 _ _ _ w' (eY aG h1 r1 (Tt T hb')) (by kernel_rfl) (fun x0 b hx w1 hb1=>Calls.arr (by simp) (fU x0 _ hx   w1  ))))<|RQ.y (bT 103 c157) (Y.not (b':=(!y160)) rfl rfl)<|dN true (.bool (!y160)) (vb rfl c157)<|aW (.bool (!y160))<|RQ.nil ?_;intro baM aQM;have T:=Tt T aQM;refine ah<|wp_ret ?_
   cases hm
   exact (aV rfl rfl rfl ⟨rfl,T⟩)
  replace hm:=cT c9 hm;refine ig c9<|au rfl<|gy 1 rfl<|gZ (.int .i64 d0.value) rfl (cu (aj B4 (i:=1) rfl))<|iq (.bool (decide (d0.value ≥ 0)))<|dF (.bool (decide (d0.value ≥ 0))) ?_;rcases aB (decide (d0.value ≥ 0)) with c164|c164
  ·replace hm:=cF c164 hm;have pc164:=of_decide_eq_false c164;iterate 3 refine RQ.skip (oL 21 c164) ?_
   refine dN false (.bool false) (vb rfl c164)<|aW (.bool false)<|RQ.nil ?_;refine eF (ah ?_);refine wp_seq<|cZ rfl<|dF (.bool false)<|dF (.bool false)<|RQ.skip (zZ 95)<|dN false (.bool false) rfl<|dF (.bool false) ?_;iterate 3 refine RQ.skip (zZ 98) ?_
   refine dN false (.bool false) rfl<|dF (.bool false) ?_;iterate 4 refine RQ.skip (zZ 103) ?_
   refine dN false (.bool false) rfl<|aW (.bool false)<|RQ.nil ?_;intro baN aQN;have T:=Tt T aQN;refine ah<|wp_ret ?_
   cases hm
   exact (aV rfl rfl rfl ⟨rfl,T⟩)
  replace hm:=cT c164 hm;have pc164:=of_decide_eq_true c164;refine RQ.y (bT 21 c164) (Y.fieldAddr (off:=1) rfl (by kernel_rfl))<|RQ.y (bT 21 c164) (Y.load (v:=.int .i64 d0.value) rfl (by kernel_rfl) (cu (aj B4 (i:=1) rfl)))<|RQ.y (bT 21 c164) (Y.dS (v:=.bool (decide (d0.value≤255))) rfl rfl rfl)<|dN true (.bool (decide (d0.value≤255))) (vb rfl c164)<|aW (.bool (decide (d0.value≤255)))<|RQ.nil ?_;refine eF (ah ?_);refine wp_seq<|cZ rfl<|dF (.bool (decide (d0.value≤255)))<|dF (.bool (decide (d0.value≤255))) ?_;rcases aB (decide (d0.value≤255)) with c167|c167
  ·replace hm:=cF c167 hm;have pc167:=of_decide_eq_false c167;refine RQ.skip (oL 95 c167)<|dN false (.bool false) (vb rfl c167)<|dF (.bool false) ?_;iterate 3 refine RQ.skip (zZ 98) ?_
   refine dN false (.bool false) rfl<|dF (.bool false) ?_;iterate 4 refine RQ.skip (zZ 103) ?_
   refine dN false (.bool false) rfl<|aW (.bool false)<|RQ.nil ?_;intro aYz awr;have T:=Tt T awr;refine ah<|wp_ret ?_
   cases hm
   exact (aV rfl rfl rfl ⟨rfl,T⟩)
  replace hm:=cT c167 hm;have pc167:=of_decide_eq_true c167;refine RQ.y (bT 95 c167) (Y.move (v:=.bool ((d0.data.length:Int)==0)) rfl)<|dN true (.bool ((d0.data.length:Int)==0)) (vb rfl c167)<|dF (.bool ((d0.data.length:Int)==0)) ?_;rcases aB ((d0.data.length:Int)==0) with ahk|ahk
  ·replace hm:=cF ahk hm;iterate 3 refine RQ.skip (oL 98 ahk) ?_
   refine dN false (.bool false) (vb rfl ahk)<|dF (.bool false) ?_;iterate 4 refine RQ.skip (zZ 103) ?_
   refine dN false (.bool false) rfl<|aW (.bool false)<|RQ.nil ?_;intro baO aQO;have T:=Tt T aQO;refine ah<|wp_ret ?_
   cases hm
   exact (aV rfl rfl rfl ⟨rfl,T⟩)
  replace hm:=cT ahk hm;refine RQ.y (bT 98 ahk) (Y.move (v:=.int .i64 (d0.kids.length:Int)) rfl)<|RQ.y (bT 98 ahk) (Y.move (v:=.int .i64 0) rfl)<|RQ.y (bT 98 ahk) (Y.dS (v:=.bool ((d0.kids.length:Int)==0)) rfl rfl rfl)<|dN true (.bool ((d0.kids.length:Int)==0)) (vb rfl ahk)<|dF (.bool ((d0.kids.length:Int)==0)) ?_;rcases aB ((d0.kids.length:Int)==0) with c173|c173
  ·replace hm:=cF c173 hm;iterate 4 refine RQ.skip (oL 103 c173) ?_
   refine dN false (.bool false) (vb rfl c173)<|aW (.bool false)<|RQ.nil ?_;intro baP aQP;have T:=Tt T aQP;refine ah<|wp_ret ?_
   cases hm
   exact (aV rfl rfl rfl ⟨rfl,T⟩)
  replace hm:=cT c173 hm;refine RQ.y (bT 103 c173) (Y.fieldAddr (off:=2) rfl (by kernel_rfl))<|RQ.y (bT 103 c173) (Y.load (v:=.slice A1 d0.data.length c1) rfl (by kernel_rfl) (bV (aj B4 (i:=2) rfl))) ?_;obtain ⟨axD,aYA,hm⟩:=bnd hm;refine RQ.call (bT 103 c173) (qV rfl rfl) (by kernel_rfl) (v:=.bool axD) (bel (K:=fun _=>True) fun w' hb'=>(bP d0.data (fun x0=>bM x0) _ aYA _ _ _ w' (eY aG h1 r1 (Tt T hb')) (by kernel_rfl) (fun x0 b hx w1 hb1=>Calls.arr (by simp) (fU x0 _ hx   w1  ))))<|RQ.y (bT 103 c173) (Y.not (b':=(!axD)) rfl rfl)<|dN true (.bool (!axD)) (vb rfl c173)<|aW (.bool (!axD))<|RQ.nil ?_;intro ap6 Me;have T:=Tt T Me;refine ah<|wp_ret ?_
  cases hm
  exact (aV rfl rfl rfl ⟨rfl,T⟩)
noncomputable def vF (i12:Int) (i13:Int):Option (Int × Int × Bool):=
  some (i12,i13,true)
noncomputable def EH (d0:ak) (self:ak→Option (Int × Int × Bool)) (eU:Int→Int→Int→Option (Int × Int × Bool)) (K1:Int→Int→Option (Int × Int × Bool)) (i15:Int) (i16:Int) (i17:Int):Option (Int × Int × Bool):=
  (bif (decide (i17 < (d0.kids.length:Int))) then ((fC d0.kids i17).bind fun x20=>((self x20).bind fun y38=>(bif y38.2.2 then ((ck (y38.1+1)).bind fun s43=>((ck (i16+y38.2.1)).bind fun s44=>(eU (if s43 > i15 then s43 else i15) s44 (i17+1)))) else some (0,0,false)))) else (K1 i15 i16))
noncomputable def nO (d0:ak) (self:ak→Option (Int × Int × Bool)) (K1:Int→Int→Option (Int × Int × Bool)):Nat→Int→Int→Int→Option (Int × Int × Bool)
  |0,_,_,_=>none
  |g+1,i15,i16,i17=>EH d0 self (nO d0 self K1 g) K1 i15 i16 i17
noncomputable def wO (self:ak→Option (Int × Int × Bool)) (d0:ak):Option (Int × Int × Bool):=
  ((tV d0).bind fun y7=>(bif y7 then (nO d0 self vF (d0.kids.length+1) 1 1 0) else some (0,0,false)))
noncomputable def oZ:Nat→ak→Option (Int × Int × Bool)
  |0,_=>none
  |dJ+1,d0=>wO (oZ dJ) d0
set_option maxHeartbeats 2000000 in
theorem aav :∀(dJ:Nat) (d0:ak) (r:Int × Int × Bool) (hm:oZ dJ d0=some r) (v0:Value) (w:World) (hv0:St bf w v0 d0),
    Calls Tryz.prog 119 #[v0] w fun e w'=>e=.returned (.tuple #[.int .i64 r.1,.int .i64 r.2.1,.bool r.2.2])∧Below w.heap.size w w':=by
  intro dJ;induction dJ with
  |zero=>
   intro d0 r hm v0 w hv0
   cases hm
  |succ dJ ih=>
   intro d0 r hm v0 w hv0;obtain ⟨lg,rfl,hRR0⟩:=hv0;obtain ⟨A1,n1,c1,A2,n2,c2,rfl,⟨h1,r1⟩,⟨h2,r2⟩⟩:=(bG hRR0);obtain ⟨rfl,q1⟩:=bI h1 r1;obtain ⟨rfl,q2⟩:=bI h2 r2;have T:=Below.refl w.heap.size w;obtain ⟨self,hself,hm⟩ :∃s,s=oZ dJ∧wO s d0=some r:=⟨_,rfl,hm⟩;unfold wO at hm;refine enter 38 Tryz.func119 rfl rfl rfl ?_;intro f hf;have s0:f 0=.agg #[.int .i64 d0.kind,.int .i64 d0.value,.slice A1 d0.data.length c1,.slice A2 d0.kids.length c2]:=hf 0 _ rfl;refine wp_seq<|bF rfl ?_;refine RL.box rfl s0 (fun w3 B4 hb5 LP=>?_);replace B4:dD w3 w.heap.size 38 #[.int .i64 d0.kind,.int .i64 d0.value,.slice A1 d0.data.length c1,.slice A2 d0.kids.length c2]:=B4;have GB4:w.heap.size≤w.heap.size:=T.size;have T:=Tt T hb5;refine Ez (.int .i64 0)<|Ez (.int .i64 0)<|Ez (.bool false)<|RL.nil<|ah<|wp_seq<|wp_seq<|cZ rfl<|LC [.int .i64 d0.kind,.int .i64 d0.value,.slice A1 d0.data.length c1,.slice A2 d0.kids.length c2] rfl (cells4 (bV (aj B4 (i:=0) rfl)) (bV (aj B4 (i:=1) rfl)) (bV (aj B4 (i:=2) rfl)) (bV (aj B4 (i:=3) rfl))) ?_;obtain ⟨y7,e8,hm⟩:=bnd hm;refine RQ.call rfl (qZ rfl) (by kernel_rfl) (v:=.bool y7) (bel (K:=fun _=>True) fun w' hb'=>(Um d0 _ e8 _ w' (fE (R:=bf) (dR ⟨_,_,_,_,_,_,rfl,⟨aY.now aG h1 (dB) (Tt T hb'),r1⟩,⟨aY.now aK h2 (dB) (Tt T hb'),r2⟩⟩))))<|RQ.y rfl (Y.not (b':=(!y7)) rfl rfl)<|RQ.nil ?_;intro w9 Au;have axA:=Au.size;have B4:=aX B4 Au;have T:=Tt T Au;refine ah ?_;rcases aB y7 with c11|c11
   ·replace hm:=cF c11 hm;refine dX rfl (gQ rfl c11 rfl)<|wp_seq<|au rfl<|aW (.int .i64 0)<|aW (.int .i64 0)<|aW (.bool false)<|RQ.nil<|ah<|wp_ret ?_;obtain rfl:=sj hm;exact (aF (aKm rfl rfl rfl rfl rfl ⟨rfl,T⟩))
   replace hm:=cT c11 hm;refine gU rfl (gQ rfl c11 rfl)<|wp_skip<|ah<|wp_seq<|au rfl<|aW (.int .i64 1)<|aW (.int .i64 1)<|RQ.nil<|ah<|wp_seq<|wp_seq<|au rfl<|gy 3 rfl<|gZ (.slice A2 d0.kids.length c2) rfl (cu (aj B4 (i:=3) rfl))<|yH rfl<|dF (.int .i64 0)<|RQ.nil<|ah<|wp_block ?_;obtain ⟨K1,hK1,hm⟩ :∃K,K=vF∧nO d0 self K (d0.kids.length+1) 1 1 0=some r:=⟨_,rfl,hm⟩;refine dG (fun g f w'=>∃(i15:Int) (i16:Int) (i17:Int),f 14=.slice A2 d0.kids.length c2∧f 15=.int .i64 (d0.kids.length:Int)∧f 2=.int .i64 i15∧f 3=.int .i64 i16∧f 16=.int .i64 i17∧0≤i17∧Below w.heap.size w w'∧nO d0 self K1 g i15 i16 i17=some r) 0 (fun f w'=>∃(i12:Int) (i13:Int),f 2=.int .i64 i12∧f 3=.int .i64 i13∧Below w.heap.size w w'∧vF i12 i13=some r) (d0.kids.length+1) ⟨1,1,0,rfl,rfl,rfl,rfl,rfl,(by omega),T,hm⟩ ?_ ?_
   ·rintro f WQ ⟨i12,i13,Ho,Bg,T,hm⟩;unfold vF at hm;refine dW (ah ?_);refine wp_seq<|au rfl<|aT Ho<|aT Bg<|aW (.int .i64 i12)<|aW (.int .i64 i13)<|aW (.bool true)<|RQ.nil<|ah<|wp_ret ?_;obtain rfl:=sj hm;exact (aKm rfl rfl rfl rfl rfl ⟨rfl,T⟩)
   rintro g f w18 ⟨i15,i16,i17,ap7,Jc,yT,jE,NU,aYB,T,hm⟩;rcases g with _|g
   ·simp only [nO] at hm; cases hm
   obtain ⟨eU,d_,hm⟩ :∃z,z=nO d0 self K1 g∧EH d0 self z K1 i15 i16 i17=some r:=⟨_,rfl,hm⟩;unfold EH at hm;refine wp_seq<|au rfl<|uZ (.bool (decide (i17 < (d0.kids.length:Int)))) NU Jc rfl<|RQ.nil<|ah<|wp_seq ?_;rcases aB (decide (i17 < (d0.kids.length:Int))) with c19|c19
   ·replace hm:=cF c19 hm;have aAY:=of_decide_eq_false c19;refine iH c19<|wp_exit ?_;exact (bQ (bQ (iW ⟨_,rfl,⟨i15,i16,yT,jE,T,(by rw [hK1] at hm; exact hm)⟩⟩)))
   replace hm:=cT c19 hm;have aAY:=of_decide_eq_true c19;refine ig c19<|wp_skip<|ah<|wp_seq<|wp_block<|wp_seq<|bF rfl ?_;obtain ⟨x20,ata,hm⟩:=bnd hm;obtain ⟨k21,aLd,aLe,ata⟩:=aU ata;obtain ⟨b27,o28,rfl,a9m⟩:=h2.addr (by omega);obtain ⟨aYC,ahl,axH⟩:=h2.el ata;have aLh:=ahl;obtain ⟨A29,n29,c29,A30,n30,PU,rfl,⟨h29,r29⟩,⟨h30,r30⟩⟩:=(bG ahl);obtain ⟨rfl,q29⟩:=bI h29 r29;obtain ⟨rfl,q30⟩:=bI h30 r30;refine RL.y rfl (Y.indexAddr (m:=k21) (sz:=4) ap7 NU aLd aLe (by kernel_rfl))<|Sm [.int .i64 x20.kind,.int .i64 x20.value,.slice A29 x20.data.length c29,.slice A30 x20.kids.length PU] rfl (cells4 (cu (cellT T (axH 0 _ rfl))) (cu (cellT T (axH 1 _ rfl))) (cu (cellT T (axH 2 _ rfl))) (cu (cellT T (axH 3 _ rfl)))) ?_;refine RL.alloc (z:=.agg #[.int .i64 0,.int .i64 0,.slice none 0 0,.slice none 0 0]) rfl (by kernel_rfl) (fun w31 B32 aj9 apV=>?_);replace B32:dD w31 w18.heap.size 38 #[.int .i64 0,.int .i64 0,.slice none 0 0,.slice none 0 0]:=B32;have baQ:w.heap.size≤w18.heap.size:=T.size;have T:=Tt T aj9;refine RL.store (v:=.agg #[.int .i64 x20.kind,.int .i64 x20.value,.slice A29 x20.data.length c29,.slice A30 x20.kids.length PU]) (cs':=#[.int .i64 x20.kind,.int .i64 x20.value,.slice A29 x20.data.length c29,.slice A30 x20.kids.length PU]) rfl rfl rfl B32 (by kernel_rfl) (by rfl) (by rfl) (by rfl) (fun w35 B36 ap8=>?_);have ap2:=ap8.size;have T:=T.trans (ap8.below (by first|(simp; done)|(simp; omega)));refine RL.nil<|ah<|wp_seq<|cZ rfl<|LC [.int .i64 x20.kind,.int .i64 x20.value,.slice A29 x20.data.length c29,.slice A30 x20.kids.length PU] rfl (cells4 (bV (aj B36 (i:=0) rfl)) (bV (aj B36 (i:=1) rfl)) (bV (aj B36 (i:=2) rfl)) (bV (aj B36 (i:=3) rfl))) ?_;obtain ⟨y38,e39,hm⟩:=bnd hm;refine RQ.call rfl (qZ rfl) (by kernel_rfl) (v:=.tuple #[.int .i64 y38.1,.int .i64 y38.2.1,.bool y38.2.2]) (bel (K:=fun _=>True) fun w' hb'=>(ih x20 _ (by rw [← hself]; exact e39) _ w' (fE (R:=bf) (dR ⟨_,_,_,_,_,_,rfl,⟨aY.now aG h29 (dB) (Tt T hb'),r29⟩,⟨aY.now aK h30 (dB) (Tt T hb'),r30⟩⟩))))<|dF (.tuple #[.int .i64 y38.1,.int .i64 y38.2.1,.bool y38.2.2])<|RQ.y rfl (Y.extract (i:=0) rfl rfl)<|RQ.y rfl (Y.extract (i:=1) rfl rfl)<|RQ.y rfl (Y.extract (i:=2) rfl rfl)<|aW (.int .i64 y38.1)<|aW (.int .i64 y38.2.1)<|aW (.bool y38.2.2)<|RQ.nil ?_;intro w40 adS;have aAD:=adS.size;have T:=Tt T adS;refine ah<|wp_seq<|wp_seq<|au rfl<|dF (.bool y38.2.2)<|RQ.y rfl (Y.not (b':=(!y38.2.2)) rfl rfl)<|RQ.nil<|ah ?_
   rcases aB y38.2.2 with MQ|MQ
   ·replace hm:=cF MQ hm;refine dX rfl (gQ rfl MQ rfl)<|wp_seq<|au rfl<|aW (.int .i64 0)<|aW (.int .i64 0)<|aW (.bool false)<|RQ.nil<|ah<|wp_ret ?_;obtain rfl:=sj hm;exact (aF (bC (aF (aF (jG (bC (aF (aKm rfl rfl rfl rfl rfl ⟨rfl,T⟩))))))))
   replace hm:=cT MQ hm;refine gU rfl (gQ rfl MQ rfl)<|wp_skip<|ah<|au rfl<|aT yT<|dF (.int .i64 y38.1) ?_;obtain ⟨s43,aGD,hm⟩:=bnd hm;replace aGD:=jg aGD;refine uZ (.int .i64 s43) rfl rfl (by rw [bn aGD.2,aGD.1])<|RQ.y rfl (Y.max rfl rfl)<|aT jE<|dF (.int .i64 y38.2.1) ?_;obtain ⟨s44,anC,hm⟩:=bnd hm;replace anC:=jg anC;refine uZ (.int .i64 s44) rfl rfl (by rw [bn anC.2,anC.1])<|aW (.int .i64 (if s43 > i15 then s43 else i15))<|aW (.int .i64 s44)<|RQ.nil ?_;refine eF (ah ?_);refine au rfl<|RQ.y rfl (Y.dS NU rfl (bn (m:=i17) (by omega)))<|dF (.int .i64 (i17+1))<|RQ.nil ?_;exact (ah ⟨g,_,Nat.lt_succ_self _,rfl,⟨(if s43 > i15 then s43 else i15),s44,(i17+1),ap7,Jc,rfl,rfl,rfl,(by omega),T,(by rw [← d_]; exact hm)⟩⟩)
noncomputable def o8 (i7:Int) (i8:Int):Option (Int × Int):=
  some (i7,i8)
noncomputable def Dz (d0:ak) (self:ak→Option (Int × Int)) (eU:Int→Int→Int→Option (Int × Int)) (K1:Int→Int→Option (Int × Int)) (ZG:Int) (i11:Int) (i12:Int):Option (Int × Int):=
  (bif (decide (i12 < (d0.kids.length:Int))) then ((fC d0.kids i12).bind fun x15=>((self x15).bind fun Uj=>((ck (Uj.1+1)).bind fun s37=>((ck (i11+Uj.2)).bind fun s38=>(eU (if s37 > ZG then s37 else ZG) s38 (i12+1)))))) else (K1 ZG i11))
noncomputable def mJ (d0:ak) (self:ak→Option (Int × Int)) (K1:Int→Int→Option (Int × Int)):Nat→Int→Int→Int→Option (Int × Int)
  |0,_,_,_=>none
  |g+1,ZG,i11,i12=>Dz d0 self (mJ d0 self K1 g) K1 ZG i11 i12
noncomputable def vG (self:ak→Option (Int × Int)) (d0:ak):Option (Int × Int):=
  (mJ d0 self o8 (d0.kids.length+1) 1 1 0)
noncomputable def nU:Nat→ak→Option (Int × Int)
  |0,_=>none
  |dJ+1,d0=>vG (nU dJ) d0
set_option maxHeartbeats 2000000 in
theorem Zh :∀(dJ:Nat) (d0:ak) (r:Int × Int) (hm:nU dJ d0=some r) (v0:Value) (w:World) (hv0:St bf w v0 d0),
    Calls Tryz.prog 126 #[v0] w fun e w'=>e=.returned (.tuple #[.int .i64 r.1,.int .i64 r.2])∧Below w.heap.size w w':=by
  intro dJ;induction dJ with
  |zero=>
   intro d0 r hm v0 w hv0
   cases hm
  |succ dJ ih=>
   intro d0 r hm v0 w hv0;obtain ⟨lg,rfl,hRR0⟩:=hv0;obtain ⟨A1,n1,c1,A2,n2,c2,rfl,⟨h1,r1⟩,⟨h2,r2⟩⟩:=(bG hRR0);obtain ⟨rfl,q1⟩:=bI h1 r1;obtain ⟨rfl,q2⟩:=bI h2 r2;have T:=Below.refl w.heap.size w;obtain ⟨self,hself,hm⟩ :∃s,s=nU dJ∧vG s d0=some r:=⟨_,rfl,hm⟩;unfold vG at hm;refine enter 30 Tryz.func126 rfl rfl rfl ?_;intro f hf;have s0:f 0=.agg #[.int .i64 d0.kind,.int .i64 d0.value,.slice A1 d0.data.length c1,.slice A2 d0.kids.length c2]:=hf 0 _ rfl;refine wp_seq<|bF rfl ?_;refine RL.box rfl s0 (fun w3 B4 hb5 LP=>?_);replace B4:dD w3 w.heap.size 38 #[.int .i64 d0.kind,.int .i64 d0.value,.slice A1 d0.data.length c1,.slice A2 d0.kids.length c2]:=B4;have GB4:w.heap.size≤w.heap.size:=T.size;have T:=Tt T hb5;refine Ez (.int .i64 0)<|Ez (.int .i64 0)<|RL.nil<|ah<|wp_seq<|au rfl<|aW (.int .i64 1)<|aW (.int .i64 1)<|RQ.nil<|ah<|wp_seq<|wp_seq<|au rfl<|gy 3 rfl<|gZ (.slice A2 d0.kids.length c2) rfl (cu (aj B4 (i:=3) rfl))<|yH rfl<|dF (.int .i64 0)<|RQ.nil<|ah<|wp_block ?_;obtain ⟨K1,hK1,hm⟩ :∃K,K=o8∧mJ d0 self K (d0.kids.length+1) 1 1 0=some r:=⟨_,rfl,hm⟩;refine dG (fun g f w'=>∃(ZG:Int) (i11:Int) (i12:Int),f 9=.slice A2 d0.kids.length c2∧f 10=.int .i64 (d0.kids.length:Int)∧f 2=.int .i64 ZG∧f 3=.int .i64 i11∧f 11=.int .i64 i12∧0≤i12∧Below w.heap.size w w'∧mJ d0 self K1 g ZG i11 i12=some r) 0 (fun f w'=>∃(i7:Int) (i8:Int),f 2=.int .i64 i7∧f 3=.int .i64 i8∧Below w.heap.size w w'∧o8 i7 i8=some r) (d0.kids.length+1) ⟨1,1,0,rfl,rfl,rfl,rfl,rfl,(by omega),T,hm⟩ ?_ ?_
   ·rintro f w9 ⟨i7,i8,Ho,Bg,T,hm⟩;unfold o8 at hm;refine dW (ah ?_);refine wp_seq<|au rfl<|aT Ho<|aT Bg<|aW (.int .i64 i7)<|aW (.int .i64 i8)<|RQ.nil<|ah<|wp_ret ?_;obtain rfl:=sj hm;exact (aXs rfl rfl rfl rfl ⟨rfl,T⟩)
   rintro g f w13 ⟨ZG,i11,i12,aQQ,aI_,yT,jE,ag6,aKC,T,hm⟩;rcases g with _|g
   ·simp only [mJ] at hm; cases hm
   obtain ⟨eU,d_,hm⟩ :∃z,z=mJ d0 self K1 g∧Dz d0 self z K1 ZG i11 i12=some r:=⟨_,rfl,hm⟩;unfold Dz at hm;refine wp_seq<|au rfl<|uZ (.bool (decide (i12 < (d0.kids.length:Int)))) ag6 aI_ rfl<|RQ.nil<|ah<|wp_seq ?_;rcases aB (decide (i12 < (d0.kids.length:Int))) with c14|c14
   ·replace hm:=cF c14 hm;have atb:=of_decide_eq_false c14;refine iH c14<|wp_exit ?_;exact (bQ (bQ (iW ⟨_,rfl,⟨ZG,i11,yT,jE,T,(by rw [hK1] at hm; exact hm)⟩⟩)))
   replace hm:=cT c14 hm;have atb:=of_decide_eq_true c14;refine ig c14<|wp_skip<|ah<|wp_seq<|wp_block<|wp_seq<|bF rfl ?_;obtain ⟨x15,aar,hm⟩:=bnd hm;obtain ⟨k16,asT,asU,aar⟩:=aU aar;obtain ⟨b22,o23,rfl,aAj⟩:=h2.addr (by omega);obtain ⟨aKv,NJ,hc21⟩:=h2.el aar;have asV:=NJ;obtain ⟨A24,n24,c24,A25,n25,c25,rfl,⟨h24,r24⟩,⟨h25,r25⟩⟩:=(bG NJ);obtain ⟨rfl,q24⟩:=bI h24 r24;obtain ⟨rfl,q25⟩:=bI h25 r25;refine RL.y rfl (Y.indexAddr (m:=k16) (sz:=4) aQQ ag6 asT asU (by kernel_rfl))<|Sm [.int .i64 x15.kind,.int .i64 x15.value,.slice A24 x15.data.length c24,.slice A25 x15.kids.length c25] rfl (cells4 (cu (cellT T (hc21 0 _ rfl))) (cu (cellT T (hc21 1 _ rfl))) (cu (cellT T (hc21 2 _ rfl))) (cu (cellT T (hc21 3 _ rfl)))) ?_;refine RL.alloc (z:=.agg #[.int .i64 0,.int .i64 0,.slice none 0 0,.slice none 0 0]) rfl (by kernel_rfl) (fun PS B27 aGE aws=>?_);replace B27:dD PS w13.heap.size 38 #[.int .i64 0,.int .i64 0,.slice none 0 0,.slice none 0 0]:=B27;have aYD:w.heap.size≤w13.heap.size:=T.size;have T:=Tt T aGE;refine RL.store (v:=.agg #[.int .i64 x15.kind,.int .i64 x15.value,.slice A24 x15.data.length c24,.slice A25 x15.kids.length c25]) (cs':=#[.int .i64 x15.kind,.int .i64 x15.value,.slice A24 x15.data.length c24,.slice A25 x15.kids.length c25]) rfl rfl rfl B27 (by kernel_rfl) (by rfl) (by rfl) (by rfl) (fun w30 B31 afZ=>?_);have ahm:=afZ.size;have T:=T.trans (afZ.below (by first|(simp; done)|(simp; omega)));refine RL.nil<|ah<|wp_seq<|cZ rfl<|LC [.int .i64 x15.kind,.int .i64 x15.value,.slice A24 x15.data.length c24,.slice A25 x15.kids.length c25] rfl (cells4 (bV (aj B31 (i:=0) rfl)) (bV (aj B31 (i:=1) rfl)) (bV (aj B31 (i:=2) rfl)) (bV (aj B31 (i:=3) rfl))) ?_;obtain ⟨Uj,e34,hm⟩:=bnd hm;refine RQ.call rfl (qZ rfl) (by kernel_rfl) (v:=.tuple #[.int .i64 Uj.1,.int .i64 Uj.2]) (bel (K:=fun _=>True) fun w' hb'=>(ih x15 _ (by rw [← hself]; exact e34) _ w' (fE (R:=bf) (dR ⟨_,_,_,_,_,_,rfl,⟨aY.now aG h24 (dB) (Tt T hb'),r24⟩,⟨aY.now aK h25 (dB) (Tt T hb'),r25⟩⟩))))<|dF (.tuple #[.int .i64 Uj.1,.int .i64 Uj.2])<|RQ.y rfl (Y.extract (i:=0) rfl rfl)<|RQ.y rfl (Y.extract (i:=1) rfl rfl)<|aW (.int .i64 Uj.1)<|aW (.int .i64 Uj.2)<|RQ.nil ?_;intro w35 Jl;have ap2:=Jl.size;have T:=Tt T Jl;refine ah<|au rfl<|aT yT<|dF (.int .i64 Uj.1) ?_;obtain ⟨s37,aGF,hm⟩:=bnd hm;replace aGF:=jg aGF;refine uZ (.int .i64 s37) rfl rfl (by rw [bn aGF.2,aGF.1])<|RQ.y rfl (Y.max rfl rfl)<|aT jE<|dF (.int .i64 Uj.2) ?_
   obtain ⟨s38,anz,hm⟩:=bnd hm;replace anz:=jg anz;refine uZ (.int .i64 s38) rfl rfl (by rw [bn anz.2,anz.1])<|aW (.int .i64 (if s37 > ZG then s37 else ZG))<|aW (.int .i64 s38)<|RQ.nil ?_;refine eF (ah ?_);refine au rfl<|RQ.y rfl (Y.dS ag6 rfl (bn (m:=i12) (by omega)))<|dF (.int .i64 (i12+1))<|RQ.nil ?_;exact (ah ⟨g,_,Nat.lt_succ_self _,rfl,⟨(if s37 > ZG then s37 else ZG),s38,(i12+1),aQQ,aI_,rfl,rfl,rfl,(by omega),T,(by rw [← d_]; exact hm)⟩⟩)
noncomputable def EZ (d0:ak):Option Bool:=
  ((nU (SizeOf.sizeOf d0) d0).bind fun y7=>(bif (decide (y7.1≤80)) then some (decide (y7.2≤400)) else some false))
set_option maxHeartbeats 2000000 in
theorem abp (d0:ak) (r:Bool) (hm:EZ d0=some r) (v0:Value) (w:World) (hv0:St bf w v0 d0) :
    Calls Tryz.prog 120 #[v0] w fun e w'=>e=.returned (.bool r)∧Below w.heap.size w w':=by
  obtain ⟨lg,rfl,hRR0⟩:=hv0;obtain ⟨A1,n1,c1,A2,n2,c2,rfl,⟨h1,r1⟩,⟨h2,r2⟩⟩:=(bG hRR0);obtain ⟨rfl,q1⟩:=bI h1 r1;obtain ⟨rfl,q2⟩:=bI h2 r2;have T:=Below.refl w.heap.size w;unfold EZ at hm;refine enter 16 Tryz.func120 rfl rfl rfl ?_;intro f hf;have s0:f 0=.agg #[.int .i64 d0.kind,.int .i64 d0.value,.slice A1 d0.data.length c1,.slice A2 d0.kids.length c2]:=hf 0 _ rfl;refine wp_seq<|bF rfl ?_;refine RL.box rfl s0 (fun w3 B4 hb5 LP=>?_);replace B4:dD w3 w.heap.size 38 #[.int .i64 d0.kind,.int .i64 d0.value,.slice A1 d0.data.length c1,.slice A2 d0.kids.length c2]:=B4;have GB4:w.heap.size≤w.heap.size:=T.size;have T:=Tt T hb5;refine Ez (.bool false)<|RL.nil<|ah<|wp_seq<|cZ rfl<|LC [.int .i64 d0.kind,.int .i64 d0.value,.slice A1 d0.data.length c1,.slice A2 d0.kids.length c2] rfl (cells4 (bV (aj B4 (i:=0) rfl)) (bV (aj B4 (i:=1) rfl)) (bV (aj B4 (i:=2) rfl)) (bV (aj B4 (i:=3) rfl))) ?_;obtain ⟨y7,e8,hm⟩:=bnd hm;refine RQ.call rfl (qZ rfl) (by kernel_rfl) (v:=.tuple #[.int .i64 y7.1,.int .i64 y7.2]) (bel (K:=fun _=>True) fun w' hb'=>(Zh (SizeOf.sizeOf d0) d0 _ e8 _ w' (fE (R:=bf) (dR ⟨_,_,_,_,_,_,rfl,⟨aY.now aG h1 (dB) (Tt T hb'),r1⟩,⟨aY.now aK h2 (dB) (Tt T hb'),r2⟩⟩))))<|dF (.tuple #[.int .i64 y7.1,.int .i64 y7.2])<|RQ.y rfl (Y.extract (i:=0) rfl rfl)<|RQ.y rfl (Y.extract (i:=1) rfl rfl)<|aW (.int .i64 y7.1)<|aW (.int .i64 y7.2)<|RQ.nil ?_;intro w9 Au;have T:=Tt T Au;refine ah<|wp_seq<|au rfl<|dF (.int .i64 y7.1)<|iq (.bool (decide (y7.1≤80)))<|dF (.bool (decide (y7.1≤80))) ?_;rcases aB (decide (y7.1≤80)) with c11|c11
  ·replace hm:=cF c11 hm;have atc:=of_decide_eq_false c11;refine RQ.skip (oL 12 c11)<|RQ.skip (oL 12 c11)<|dN false (.bool false) (vb rfl c11)<|aW (.bool false)<|RQ.nil<|ah<|wp_ret ?_
   cases hm
   exact (aV rfl rfl rfl ⟨rfl,T⟩)
  replace hm:=cT c11 hm;have atc:=of_decide_eq_true c11;refine RQ.y (bT 12 c11) (Y.move (v:=.int .i64 y7.2) rfl)<|RQ.y (bT 12 c11) (Y.dS (v:=.bool (decide (y7.2≤400))) rfl rfl rfl)<|dN true (.bool (decide (y7.2≤400))) (vb rfl c11)<|aW (.bool (decide (y7.2≤400)))<|RQ.nil<|ah<|wp_ret ?_
  cases hm
  exact (aV rfl rfl rfl ⟨rfl,T⟩)
noncomputable def vY (d0:ak):Option Bool:=
  ((oZ (SizeOf.sizeOf d0) d0).bind fun y7=>(bif y7.2.2 then ((EZ d0).bind fun uN=>some uN) else some false))
set_option maxHeartbeats 2000000 in
theorem NV (d0:ak) (r:Bool) (hm:vY d0=some r) (v0:Value) (w:World) (hv0:St bf w v0 d0) :
    Calls Tryz.prog 108 #[v0] w fun e w'=>e=.returned (.bool r)∧Below w.heap.size w w':=by
  obtain ⟨lg,rfl,hRR0⟩:=hv0;obtain ⟨A1,n1,c1,A2,n2,c2,rfl,⟨h1,r1⟩,⟨h2,r2⟩⟩:=(bG hRR0);obtain ⟨rfl,q1⟩:=bI h1 r1;obtain ⟨rfl,q2⟩:=bI h2 r2;have T:=Below.refl w.heap.size w;unfold vY at hm;refine enter 17 Tryz.func108 rfl rfl rfl ?_;intro f hf;have s0:f 0=.agg #[.int .i64 d0.kind,.int .i64 d0.value,.slice A1 d0.data.length c1,.slice A2 d0.kids.length c2]:=hf 0 _ rfl;refine wp_seq<|bF rfl ?_;refine RL.box rfl s0 (fun w3 B4 hb5 LP=>?_);replace B4:dD w3 w.heap.size 38 #[.int .i64 d0.kind,.int .i64 d0.value,.slice A1 d0.data.length c1,.slice A2 d0.kids.length c2]:=B4;have GB4:w.heap.size≤w.heap.size:=T.size;have T:=Tt T hb5;refine Ez (.bool false)<|RL.nil<|ah<|wp_seq<|cZ rfl<|LC [.int .i64 d0.kind,.int .i64 d0.value,.slice A1 d0.data.length c1,.slice A2 d0.kids.length c2] rfl (cells4 (bV (aj B4 (i:=0) rfl)) (bV (aj B4 (i:=1) rfl)) (bV (aj B4 (i:=2) rfl)) (bV (aj B4 (i:=3) rfl))) ?_;obtain ⟨y7,e8,hm⟩:=bnd hm;refine RQ.call rfl (qZ rfl) (by kernel_rfl) (v:=.tuple #[.int .i64 y7.1,.int .i64 y7.2.1,.bool y7.2.2]) (bel (K:=fun _=>True) fun w' hb'=>(aav (SizeOf.sizeOf d0) d0 _ e8 _ w' (fE (R:=bf) (dR ⟨_,_,_,_,_,_,rfl,⟨aY.now aG h1 (dB) (Tt T hb'),r1⟩,⟨aY.now aK h2 (dB) (Tt T hb'),r2⟩⟩))))<|dF (.tuple #[.int .i64 y7.1,.int .i64 y7.2.1,.bool y7.2.2])<|RQ.y rfl (Y.extract (i:=0) rfl rfl)<|RQ.y rfl (Y.extract (i:=1) rfl rfl)<|RQ.y rfl (Y.extract (i:=2) rfl rfl)<|aW (.int .i64 y7.1)<|aW (.int .i64 y7.2.1)<|aW (.bool y7.2.2)<|RQ.nil ?_;intro w9 Au;have B4:=aX B4 Au;have T:=Tt T Au;refine ah<|wp_seq<|cZ rfl<|dF (.bool y7.2.2)<|dF (.bool y7.2.2) ?_;rcases aB y7.2.2 with c11|c11
  ·replace hm:=cF c11 hm;refine RQ.skip (oL 13 c11)<|RQ.skip (oL 13 c11)<|dN false (.bool false) (vb rfl c11)<|aW (.bool false)<|RQ.nil ?_;intro w12 Ad;have T:=Tt T Ad;refine ah<|wp_ret ?_
   cases hm
   exact (aV rfl rfl rfl ⟨rfl,T⟩)
  replace hm:=cT c11 hm;refine RQ.y (bT 13 c11) (Y.wH (cs:=[.int .i64 d0.kind,.int .i64 d0.value,.slice A1 d0.data.length c1,.slice A2 d0.kids.length c2]) rfl (by kernel_rfl) (cells4 (bV (aj B4 (i:=0) rfl)) (bV (aj B4 (i:=1) rfl)) (bV (aj B4 (i:=2) rfl)) (bV (aj B4 (i:=3) rfl)))) ?_;obtain ⟨uN,e15,hm⟩:=bnd hm;refine RQ.call (bT 13 c11) (qZ rfl) (by kernel_rfl) (v:=.bool uN) (bel (K:=fun _=>True) fun w' hb'=>(abp d0 _ e15 _ w' (fE (R:=bf) (dR ⟨_,_,_,_,_,_,rfl,⟨aY.now aG h1 (dB) (Tt T hb'),r1⟩,⟨aY.now aK h2 (dB) (Tt T hb'),r2⟩⟩))))<|dN true (.bool uN) (vb rfl c11)<|aW (.bool uN)<|RQ.nil ?_;intro w16 Dq;have T:=Tt T Dq;refine ah<|wp_ret ?_
  cases hm
  exact (aV rfl rfl rfl ⟨rfl,T⟩)
noncomputable def dK:Option Bool:=
  some true
noncomputable def f_ (d0:List ak) (d1:List ak) (d2:ak→ak→Option Bool) (eU:Int→Option Bool) (K1:Option Bool) (i3:Int):Option Bool:=
  (bif (decide (i3 < (d0.length:Int))) then ((fC d0 i3).bind fun x6=>((fC d1 i3).bind fun x24=>((d2 x6 x24).bind fun y42=>(bif y42 then (eU (i3+1)) else some false)))) else (K1))
noncomputable def bU (d0:List ak) (d1:List ak) (d2:ak→ak→Option Bool) (K1:Option Bool):Nat→Int→Option Bool
  |0,_=>none
  |g+1,i3=>f_ d0 d1 d2 (bU d0 d1 d2 K1 g) K1 i3
noncomputable def eX (d0:List ak) (d1:List ak) (d2:ak→ak→Option Bool):Option Bool:=
  (bif ((d0.length:Int) != (d1.length:Int)) then some false else (bU d0 d1 d2 dK (d0.length+1) 0))
set_option maxHeartbeats 2000000 in
theorem rD (d0:List ak) (d1:List ak) (d2:ak→ak→Option Bool) (r:Bool) (hm:eX d0 d1 d2=some r) (v0:Value) (v1:Value) (gf2:FuncId) (awt:Array Value) (w:World) (hv0:Sl bf 4 w v0 d0) (hv1:Sl bf 4 w v1 d1) (aYE:isGo Tryz.prog gf2=true) (hf2 :∀(x0:ak) (x1:ak) (b:Bool),d2 x0 x1=some b→∀w1,Below w.heap.size w w1→∀y0,St bf w1 y0 x0→∀y1,St bf w1 y1 x1→Calls Tryz.prog gf2 (#[y0,y1] ++ awt) w1 fun e w2=>e=.returned (.bool b)∧Below w1.heap.size w1 w2) :
    Calls Tryz.prog 124 #[v0,v1,.func (.func gf2) #[] awt] w fun e w'=>e=.returned (.bool r)∧Below w.heap.size w w':=by
  obtain ⟨Bc,na0,ca0,rfl,ha0,GN⟩:=hv0;obtain ⟨rfl,qa0⟩:=bI ha0 GN;obtain ⟨Aa1,na1,ca1,rfl,ha1,ra1⟩:=hv1;obtain ⟨rfl,qa1⟩:=bI ha1 ra1;have T:=Below.refl w.heap.size w;unfold eX at hm;refine enter 32 Tryz.func124 rfl rfl rfl ?_;intro f hf;have s0:f 0=.slice Bc d0.length ca0:=hf 0 _ rfl;have s1:f 1=.slice Aa1 d1.length ca1:=hf 1 _ rfl;have s2:f 2=.func (.func gf2) #[] awt:=hf 2 _ rfl;refine wp_seq<|au rfl<|aW (.bool false)<|RQ.nil<|ah<|wp_seq<|wp_seq<|au rfl<|aT s0<|yH rfl<|aT s1<|yH rfl<|iq (.bool ((d0.length:Int) != (d1.length:Int)))<|RQ.nil<|ah ?_;rcases aB ((d0.length:Int) != (d1.length:Int)) with c1|c1
  ·replace hm:=cF c1 hm;refine iH c1<|wp_skip<|ah<|wp_seq<|wp_seq<|au rfl<|aT s0<|yH rfl<|dF (.int .i64 0)<|RQ.nil<|ah<|wp_block ?_;obtain ⟨K1,hK1,hm⟩ :∃K,K=dK∧bU d0 d1 d2 K (d0.length+1) 0=some r:=⟨_,rfl,hm⟩;refine dG (fun g f w'=>∃(i3:Int),f 1=.slice Aa1 d1.length ca1∧f 2=.func (.func gf2) #[] awt∧f 15=.slice Bc d0.length ca0∧f 16=.int .i64 (d0.length:Int)∧f 17=.int .i64 i3∧0≤i3∧Below w.heap.size w w'∧bU d0 d1 d2 K1 g i3=some r) 0 (fun f w'=>Below w.heap.size w w'∧dK  = some r) (d0.length+1) ⟨0,s1,s2,rfl,rfl,rfl,(by omega),T,hm⟩ ?_ ?_
   ·rintro f w2 ⟨T,hm⟩;unfold dK at hm;refine dW (ah ?_);refine wp_seq<|au rfl<|aW (.bool true)<|RQ.nil<|ah<|wp_ret ?_
    cases hm
    exact (aV rfl rfl rfl ⟨rfl,T⟩)
   rintro g f w4 ⟨i3,iF,yT,Jc,NU,Gx,atd,T,hm⟩;rcases g with _|g
   ·simp only [bU] at hm; cases hm
   obtain ⟨eU,d_,hm⟩ :∃z,z=bU d0 d1 d2 K1 g∧f_ d0 d1 d2 z K1 i3=some r:=⟨_,rfl,hm⟩;unfold f_ at hm;refine wp_seq<|au rfl<|uZ (.bool (decide (i3 < (d0.length:Int)))) Gx NU rfl<|RQ.nil<|ah<|wp_seq ?_;rcases aB (decide (i3 < (d0.length:Int))) with c5|c5
   ·replace hm:=cF c5 hm;have pc5:=of_decide_eq_false c5;refine iH c5<|wp_exit ?_;exact (bQ (bQ (iW ⟨_,rfl,⟨T,(by rw [hK1] at hm; exact hm)⟩⟩)))
   replace hm:=cT c5 hm;have pc5:=of_decide_eq_true c5;refine ig c5<|wp_skip<|ah<|wp_seq<|wp_block<|wp_seq<|bF rfl<|kE Gx ?_;obtain ⟨x6,hx9,hm⟩:=bnd hm;obtain ⟨k7,hk10,adO,hx9⟩:=aU hx9;obtain ⟨b13,o14,rfl,aml⟩:=ha0.addr (by omega);obtain ⟨cs8,Gv,hc12⟩:=ha0.el hx9;have amm:=Gv;obtain ⟨A15,n15,c15,A16,n16,c16,rfl,⟨h15,r15⟩,⟨h16,r16⟩⟩:=(bG Gv);obtain ⟨rfl,q15⟩:=bI h15 r15;obtain ⟨rfl,q16⟩:=bI h16 r16;refine RL.y rfl (Y.indexAddr (m:=k7) (sz:=4) Jc Gx hk10 adO (by kernel_rfl))<|Sm [.int .i64 x6.kind,.int .i64 x6.value,.slice A15 x6.data.length c15,.slice A16 x6.kids.length c16] rfl (cells4 (cu (cellT T (hc12 0 _ rfl))) (cu (cellT T (hc12 1 _ rfl))) (cu (cellT T (hc12 2 _ rfl))) (cu (cellT T (hc12 3 _ rfl)))) ?_;refine RL.alloc (z:=.agg #[.int .i64 0,.int .i64 0,.slice none 0 0,.slice none 0 0]) rfl (by kernel_rfl) (fun w17 B18 EP awh=>?_);replace B18:dD w17 w4.heap.size 38 #[.int .i64 0,.int .i64 0,.slice none 0 0,.slice none 0 0]:=B18;have aYF:w.heap.size≤w4.heap.size:=T.size;have T:=Tt T EP;refine Ez (.int .i64 i3) ?_;refine RL.store (v:=.agg #[.int .i64 x6.kind,.int .i64 x6.value,.slice A15 x6.data.length c15,.slice A16 x6.kids.length c16]) (cs':=#[.int .i64 x6.kind,.int .i64 x6.value,.slice A15 x6.data.length c15,.slice A16 x6.kids.length c16]) rfl rfl rfl B18 (by kernel_rfl) (by rfl) (by rfl) (by rfl) (fun w21 B22 ate=>?_);have awk:=ate.size;have T:=T.trans (ate.below (by first|(simp; done)|(simp; omega)));refine RL.nil<|ah<|wp_seq<|bF rfl<|kE iF<|aLm (.int .i64 i3) ?_;obtain ⟨x24,hx27,hm⟩:=bnd hm;obtain ⟨k25,anv,asZ,hx27⟩:=aU hx27;obtain ⟨b31,o32,rfl,aAM⟩:=ha1.addr (by omega);obtain ⟨aX_,ahh,ap4⟩:=ha1.el hx27;have aKU:=ahh;obtain ⟨A33,n33,LH,A34,n34,c34,rfl,⟨h33,r33⟩,⟨h34,r34⟩⟩:=(bG ahh);obtain ⟨rfl,q33⟩:=bI h33 r33;obtain ⟨rfl,q34⟩:=bI h34 r34;refine RL.y rfl (Y.indexAddr (m:=k25) (sz:=4) rfl rfl anv asZ (by kernel_rfl))<|Sm [.int .i64 x24.kind,.int .i64 x24.value,.slice A33 x24.data.length LH,.slice A34 x24.kids.length c34] rfl (cells4 (cu (cellT T (ap4 0 _ rfl))) (cu (cellT T (ap4 1 _ rfl))) (cu (cellT T (ap4 2 _ rfl))) (cu (cellT T (ap4 3 _ rfl)))) ?_;refine RL.alloc (z:=.agg #[.int .i64 0,.int .i64 0,.slice none 0 0,.slice none 0 0]) rfl (by kernel_rfl) (fun w35 B36 ap1 ap2=>?_);replace B36:dD w35 w21.heap.size 38 #[.int .i64 0,.int .i64 0,.slice none 0 0,.slice none 0 0]:=B36;have baR:w.heap.size≤w21.heap.size:=T.size
   have atf:=Nat.ne_of_lt B22.lt;have B22:=aX B22 ap1;have T:=Tt T ap1;refine RL.store (v:=.agg #[.int .i64 x24.kind,.int .i64 x24.value,.slice A33 x24.data.length LH,.slice A34 x24.kids.length c34]) (cs':=#[.int .i64 x24.kind,.int .i64 x24.value,.slice A33 x24.data.length LH,.slice A34 x24.kids.length c34]) rfl rfl rfl B36 (by kernel_rfl) (by rfl) (by rfl) (by rfl) (fun w39 B40 ahn=>?_);have ap5:=ahn.size;have B22:=B22.bK ahn (by intro hin; simp at hin; exact atf hin);have T:=T.trans (ahn.below (by first|(simp; done)|(simp; omega)));refine RL.nil<|ah<|wp_seq<|cZ rfl<|aT yT<|LC [.int .i64 x6.kind,.int .i64 x6.value,.slice A15 x6.data.length c15,.slice A16 x6.kids.length c16] rfl (cells4 (bV (aj B22 (i:=0) rfl)) (bV (aj B22 (i:=1) rfl)) (bV (aj B22 (i:=2) rfl)) (bV (aj B22 (i:=3) rfl)))<|LC [.int .i64 x24.kind,.int .i64 x24.value,.slice A33 x24.data.length LH,.slice A34 x24.kids.length c34] rfl (cells4 (bV (aj B40 (i:=0) rfl)) (bV (aj B40 (i:=1) rfl)) (bV (aj B40 (i:=2) rfl)) (bV (aj B40 (i:=3) rfl))) ?_;obtain ⟨y42,e43,hm⟩:=bnd hm;refine RQ.Jb rfl rfl (qV rfl rfl) aYE (v:=.bool y42) (bel (K:=fun _=>True) fun w' hb'=>hf2 x6 x24 y42 e43 w' (Tt T hb') _ (fE (R:=bf) (dR ⟨_,_,_,_,_,_,rfl,⟨aY.now aG h15 (dB) (Tt T hb'),r15⟩,⟨aY.now aK h16 (dB) (Tt T hb'),r16⟩⟩)) _ (fE (R:=bf) (dR ⟨_,_,_,_,_,_,rfl,⟨aY.now aG h33 (dB) (Tt T hb'),r33⟩,⟨aY.now aK h34 (dB) (Tt T hb'),r34⟩⟩)))<|RQ.y rfl (Y.not (b':=(!y42)) rfl rfl)<|RQ.nil ?_;intro w44 aAE;have aI3:=aAE.size;have T:=Tt T aAE;refine ah ?_;rcases aB y42 with c46|c46
   ·replace hm:=cF c46 hm;refine dX rfl (gQ rfl c46 rfl)<|wp_seq<|au rfl<|aW (.bool false)<|RQ.nil<|ah<|wp_ret ?_
    cases hm
    exact (bC (aF (aF (jG (bC (aF (aV rfl rfl rfl ⟨rfl,T⟩)))))))
   replace hm:=cT c46 hm;refine gU rfl (gQ rfl c46 rfl)<|wp_skip ?_;refine eF (ah ?_);refine au rfl<|RQ.y rfl (Y.dS Gx rfl (bn (m:=i3) (by omega)))<|dF (.int .i64 (i3+1))<|RQ.nil ?_;exact (ah ⟨g,_,Nat.lt_succ_self _,rfl,⟨(i3+1),iF,yT,Jc,NU,rfl,(by omega),T,(by rw [← d_]; exact hm)⟩⟩)
  replace hm:=cT c1 hm;refine ig c1<|wp_seq<|au rfl<|aW (.bool false)<|RQ.nil<|ah<|wp_ret ?_
  cases hm
  exact (aF (aV rfl rfl rfl ⟨rfl,T⟩))
noncomputable def zn (self:ak→ak→Option Bool) (d0:ak) (d1:ak):Option Bool:=
  (bif (d0.kind==d1.kind) then (bif (d0.value==d1.value) then ((mG d0.data d1.data).bind fun Dv=>(bif Dv then ((eX d0.kids d1.kids (fun x0 x1=>self x0 x1)).bind fun y24=>some y24) else some false)) else some false) else some false)
noncomputable def uT:Nat→ak→ak→Option Bool
  |0,_,_=>none
  |dJ+1,d0,d1=>zn (uT dJ) d0 d1
set_option maxHeartbeats 2000000 in
theorem abq :∀(dJ:Nat) (d0:ak) (d1:ak) (r:Bool) (hm:uT dJ d0 d1=some r) (v0:Value) (v1:Value) (w:World) (hv0:St bf w v0 d0) (hv1:St bf w v1 d1),
    Calls Tryz.prog 115 #[v0,v1] w fun e w'=>e=.returned (.bool r)∧Below w.heap.size w w':=by
  intro dJ;induction dJ with
  |zero=>
   intro d0 d1 r hm v0 v1 w hv0 hv1
   cases hm
  |succ dJ ih=>
   intro d0 d1 r hm v0 v1 w hv0 hv1;obtain ⟨lg,rfl,hRR0⟩:=hv0;obtain ⟨A1,n1,c1,A2,n2,c2,rfl,⟨h1,r1⟩,⟨h2,r2⟩⟩:=(bG hRR0);obtain ⟨rfl,q1⟩:=bI h1 r1;obtain ⟨rfl,q2⟩:=bI h2 r2;obtain ⟨SG,rfl,aLi⟩:=hv1;obtain ⟨A3,n3,c3,A4,n4,c4,rfl,⟨h3,r3⟩,⟨h4,r4⟩⟩:=(bG aLi);obtain ⟨rfl,q3⟩:=bI h3 r3;obtain ⟨rfl,q4⟩:=bI h4 r4;have T:=Below.refl w.heap.size w;obtain ⟨self,hself,hm⟩ :∃s,s=uT dJ∧zn s d0 d1=some r:=⟨_,rfl,hm⟩;unfold zn at hm;refine enter 31 Tryz.func115 rfl rfl rfl ?_;intro f hf;have s0:f 0=.agg #[.int .i64 d0.kind,.int .i64 d0.value,.slice A1 d0.data.length c1,.slice A2 d0.kids.length c2]:=hf 0 _ rfl;have s1:f 1=.agg #[.int .i64 d1.kind,.int .i64 d1.value,.slice A3 d1.data.length c3,.slice A4 d1.kids.length c4]:=hf 1 _ rfl;refine wp_seq<|bF rfl ?_;refine RL.box rfl s0 (fun w5 B6 hb7 aAn=>?_);replace B6:dD w5 w.heap.size 38 #[.int .i64 d0.kind,.int .i64 d0.value,.slice A1 d0.data.length c1,.slice A2 d0.kids.length c2]:=B6;have GB6:w.heap.size≤w.heap.size:=T.size;have T:=Tt T hb7;refine RL.box rfl s1 (fun w9 B10 Bo axA=>?_);replace B10:dD w9 w5.heap.size 38 #[.int .i64 d1.kind,.int .i64 d1.value,.slice A3 d1.data.length c3,.slice A4 d1.kids.length c4]:=B10;have aLj:w.heap.size≤w5.heap.size:=T.size;have amq:=Nat.ne_of_lt B6.lt;have B6:=aX B6 Bo;have T:=Tt T Bo;refine Ez (.bool false)<|RL.nil<|ah<|wp_seq<|cZ rfl<|gy 0 rfl<|gZ (.int .i64 d0.kind) rfl (bV (aj B6 (i:=0) rfl))<|gy 0 rfl<|gZ (.int .i64 d1.kind) rfl (bV (aj B10 (i:=0) rfl))<|iq (.bool (d0.kind==d1.kind))<|dF (.bool (d0.kind==d1.kind)) ?_;rcases aB (d0.kind==d1.kind) with c13|c13
   ·replace hm:=cF c13 hm;iterate 5 refine RQ.skip (oL 10 c13) ?_
    refine dN false (.bool false) (vb rfl c13)<|dF (.bool false) ?_;iterate 5 refine RQ.skip (zZ 17) ?_
    refine dN false (.bool false) rfl<|dF (.bool false) ?_;iterate 5 refine RQ.skip (zZ 24) ?_
    refine dN false (.bool false) rfl<|aW (.bool false)<|RQ.nil ?_;intro WQ PL;have T:=Tt T PL;refine ah<|wp_ret ?_
    cases hm
    exact (aV rfl rfl rfl ⟨rfl,T⟩)
   replace hm:=cT c13 hm;refine RQ.y (bT 10 c13) (Y.fieldAddr (off:=1) rfl (by kernel_rfl))<|RQ.y (bT 10 c13) (Y.load (v:=.int .i64 d0.value) rfl (by kernel_rfl) (bV (aj B6 (i:=1) rfl)))<|RQ.y (bT 10 c13) (Y.fieldAddr (off:=1) rfl (by kernel_rfl))<|RQ.y (bT 10 c13) (Y.load (v:=.int .i64 d1.value) rfl (by kernel_rfl) (bV (aj B10 (i:=1) rfl)))<|RQ.y (bT 10 c13) (Y.dS (v:=.bool (d0.value==d1.value)) rfl rfl rfl)<|dN true (.bool (d0.value==d1.value)) (vb rfl c13)<|dF (.bool (d0.value==d1.value)) ?_;rcases aB (d0.value==d1.value) with c16|c16
   ·replace hm:=cF c16 hm;iterate 5 refine RQ.skip (oL 17 c16) ?_
    refine dN false (.bool false) (vb rfl c16)<|dF (.bool false) ?_;iterate 5 refine RQ.skip (zZ 24) ?_
    refine dN false (.bool false) rfl<|aW (.bool false)<|RQ.nil ?_;intro w17 PN;have T:=Tt T PN;refine ah<|wp_ret ?_
    cases hm
    exact (aV rfl rfl rfl ⟨rfl,T⟩)
   replace hm:=cT c16 hm;refine RQ.y (bT 17 c16) (Y.fieldAddr (off:=2) rfl (by kernel_rfl))<|RQ.y (bT 17 c16) (Y.load (v:=.slice A1 d0.data.length c1) rfl (by kernel_rfl) (bV (aj B6 (i:=2) rfl)))<|RQ.y (bT 17 c16) (Y.fieldAddr (off:=2) rfl (by kernel_rfl))<|RQ.y (bT 17 c16) (Y.load (v:=.slice A3 d1.data.length c3) rfl (by kernel_rfl) (bV (aj B10 (i:=2) rfl))) ?_;obtain ⟨Dv,e20,hm⟩:=bnd hm;refine RQ.call (bT 17 c16) (qV rfl rfl) (by kernel_rfl) (v:=.bool Dv) (bel (K:=fun _=>True) fun w' hb'=>(LM d0.data d1.data _ e20 _ _ w' (eY aG h1 r1 (Tt T hb')) (eY aG h3 r3 (Tt T hb'))))<|dN true (.bool Dv) (vb rfl c16)<|dF (.bool Dv) ?_;rcases aB Dv with c21|c21
   ·replace hm:=cF c21 hm;iterate 5 refine RQ.skip (oL 24 c21) ?_
    refine dN false (.bool false) (vb rfl c21)<|aW (.bool false)<|RQ.nil ?_;intro MO LU;have T:=Tt T LU;refine ah<|wp_ret ?_
    cases hm
    exact (aV rfl rfl rfl ⟨rfl,T⟩)
   replace hm:=cT c21 hm;refine RQ.y (bT 24 c21) (Y.fieldAddr (off:=3) rfl (by kernel_rfl))<|RQ.y (bT 24 c21) (Y.load (v:=.slice A2 d0.kids.length c2) rfl (by kernel_rfl) (bV (aj B6 (i:=3) rfl)))<|RQ.y (bT 24 c21) (Y.fieldAddr (off:=3) rfl (by kernel_rfl))<|RQ.y (bT 24 c21) (Y.load (v:=.slice A4 d1.kids.length c4) rfl (by kernel_rfl) (bV (aj B10 (i:=3) rfl))) ?_;obtain ⟨y24,e25,hm⟩:=bnd hm;refine RQ.call (bT 24 c21) (Vu rfl rfl rfl) (by kernel_rfl) (v:=.bool y24) (bel (K:=fun _=>True) fun w' hb'=>(rD d0.kids d1.kids (fun x0 x1=>self x0 x1) _ e25 _ _ _ _ w' (eY aK h2 r2 (Tt T hb')) (eY aK h4 r4 (Tt T hb')) (by kernel_rfl) (fun x0 x1 b hx w1 hb1 y0 hy0 y1 hy1=>Calls.arr (by simp) (ih x0 x1 _ (by rw [← hself]; exact hx) _ _  w1 hy0 hy1 ))))<|dN true (.bool y24) (vb rfl c21)<|aW (.bool y24)<|RQ.nil ?_;intro PS Wp;have T:=Tt T Wp;refine ah<|wp_ret ?_
   cases hm
   exact (aV rfl rfl rfl ⟨rfl,T⟩)
noncomputable def uH (d0:ak) (d1:Int):Option Int:=
  (bif (d0.kind==4) then ((D5 true).bind fun y17=>some y17) else (bif (d0.kind==7) then ((D5 (d1==1)).bind fun y13=>some y13) else ((D5 false).bind fun y9=>some y9)))
set_option maxHeartbeats 2000000 in
theorem MB (d0:ak) (d1:Int) (r:Int) (hm:uH d0 d1=some r) (v0:Value) (w:World) (hv0:St bf w v0 d0) :
    Calls Tryz.prog 113 #[v0,.int .i64 d1] w fun e w'=>e=.returned (.int .i64 r)∧Below w.heap.size w w':=by
  obtain ⟨lg,rfl,hRR0⟩:=hv0;obtain ⟨A1,n1,c1,A2,n2,c2,rfl,⟨h1,r1⟩,⟨h2,r2⟩⟩:=(bG hRR0);obtain ⟨rfl,q1⟩:=bI h1 r1;obtain ⟨rfl,q2⟩:=bI h2 r2;have T:=Below.refl w.heap.size w;unfold uH at hm;refine enter 18 Tryz.func113 rfl rfl rfl ?_;intro f hf;have s0:f 0=.agg #[.int .i64 d0.kind,.int .i64 d0.value,.slice A1 d0.data.length c1,.slice A2 d0.kids.length c2]:=hf 0 _ rfl;have s1:f 1=.int .i64 d1:=hf 1 _ rfl;refine wp_seq<|bF rfl ?_;refine RL.box rfl s0 (fun w3 B4 hb5 LP=>?_);replace B4:dD w3 w.heap.size 38 #[.int .i64 d0.kind,.int .i64 d0.value,.slice A1 d0.data.length c1,.slice A2 d0.kids.length c2]:=B4;have GB4:w.heap.size≤w.heap.size:=T.size;have T:=Tt T hb5;refine Ez (.int .i64 0)<|RL.nil<|ah<|wp_seq<|cZ rfl<|gy 0 rfl<|gZ (.int .i64 d0.kind) rfl (bV (aj B4 (i:=0) rfl))<|iq (.bool (d0.kind==4))<|dF (.bool (d0.kind==4)) ?_;rcases aB (d0.kind==4) with c7|c7
  ·replace hm:=cF c7 hm;refine RQ.y (bT 8 c7) (Y.fieldAddr (off:=0) rfl (by kernel_rfl))<|RQ.y (bT 8 c7) (Y.load (v:=.int .i64 d0.kind) rfl (by kernel_rfl) (bV (aj B4 (i:=0) rfl)))<|RQ.y (bT 8 c7) (Y.dS (v:=.bool (d0.kind==7)) rfl rfl rfl)<|RQ.y (bT 8 c7) (Y.move (v:=.bool (d0.kind==7)) rfl) ?_;rcases aB (d0.kind==7) with c8|c8
   ·replace hm:=cF c8 hm;refine RQ.skip (oL 12 c8)<|RQ.skip (oL 12 c8)<|RQ.y (bT 8 c7) (Y.pick (b:=false) (v:=.bool false) (vb rfl c8) rfl)<|dN false (.bool false) (vb rfl c7) ?_;obtain ⟨y9,e10,hm⟩:=bnd hm;refine RQ.call rfl (qZ rfl) (by kernel_rfl) (v:=.int .i64 y9) (bel (K:=fun _=>True) fun w' hb'=>(NC false _ e10  w' ))<|aW (.int .i64 y9)<|RQ.nil ?_;intro uS Ht;have T:=Tt T Ht;refine ah<|wp_ret ?_
    cases hm
    exact (aV rfl rfl rfl ⟨rfl,T⟩)
   replace hm:=cT c8 hm;refine RQ.y (bT 12 c8) (Y.move (v:=.int .i64 d1) s1)<|RQ.y (bT 12 c8) (Y.dS (v:=.bool (d1==1)) rfl rfl rfl)<|RQ.y (bT 8 c7) (Y.pick (b:=true) (v:=.bool (d1==1)) (vb rfl c8) rfl)<|dN false (.bool (d1==1)) (vb rfl c7) ?_;obtain ⟨y13,e14,hm⟩:=bnd hm;refine RQ.call rfl (qZ rfl) (by kernel_rfl) (v:=.int .i64 y13) (bel (K:=fun _=>True) fun w' hb'=>(NC (d1==1) _ e14  w' ))<|aW (.int .i64 y13)<|RQ.nil ?_;intro w15 hb16;have T:=Tt T hb16;refine ah<|wp_ret ?_
   cases hm
   exact (aV rfl rfl rfl ⟨rfl,T⟩)
  replace hm:=cT c7 hm;iterate 4 refine RQ.skip (oL 8 c7) ?_
  refine RQ.skip rfl<|RQ.skip rfl<|RQ.skip (oL 8 c7)<|dN true (.bool true) (vb rfl c7) ?_;obtain ⟨y17,e18,hm⟩:=bnd hm;refine RQ.call rfl (qZ rfl) (by kernel_rfl) (v:=.int .i64 y17) (bel (K:=fun _=>True) fun w' hb'=>(NC true _ e18  w' ))<|aW (.int .i64 y17)<|RQ.nil ?_;intro w19 anD;have T:=Tt T anD;refine ah<|wp_ret ?_
  cases hm
  exact (aV rfl rfl rfl ⟨rfl,T⟩)
noncomputable def nX:Option Bool:=
  some true
noncomputable def rM (d0:ak) (d1:Int) (self:ak→Int→Option Bool) (eU:Int→Option Bool) (K1:Option Bool) (i9:Int):Option Bool:=
  (bif (decide (i9 < (d0.kids.length:Int))) then ((fC d0.kids i9).bind fun x12=>((uH d0 i9).bind fun y30=>((ck (d1+y30)).bind fun s32=>((self x12 s32).bind fun Uj=>(bif Uj then (eU (i9+1)) else some false))))) else (K1))
noncomputable def iL (d0:ak) (d1:Int) (self:ak→Int→Option Bool) (K1:Option Bool):Nat→Int→Option Bool
  |0,_=>none
  |g+1,i9=>rM d0 d1 self (iL d0 d1 self K1 g) K1 i9
noncomputable def rO:Option Bool:=
  some true
noncomputable def yg (d0:ak) (d1:Int) (self:ak→Int→Option Bool) (Jk:Int→Option Bool) (K2:Option Bool) (i41:Int):Option Bool:=
  (bif (decide (i41 < (d0.kids.length:Int))) then ((fC d0.kids i41).bind fun x44=>((uH d0 i41).bind fun y62=>((ck (d1+y62)).bind fun s64=>((self x44 s64).bind fun y65=>(bif y65 then (Jk (i41+1)) else some false))))) else (K2))
noncomputable def jH (d0:ak) (d1:Int) (self:ak→Int→Option Bool) (K2:Option Bool):Nat→Int→Option Bool
  |0,_=>none
  |g+1,i41=>yg d0 d1 self (jH d0 d1 self K2 g) K2 i41
noncomputable def tX (self:ak→Int→Option Bool) (d0:ak) (d1:Int):Option Bool:=
  (bif (d0.kind==1) then (bif (decide (d0.value ≥ d1)) then some false else (jH d0 d1 self rO (d0.kids.length+1) 0)) else (iL d0 d1 self nX (d0.kids.length+1) 0))
noncomputable def jC:Nat→ak→Int→Option Bool
  |0,_,_=>none
  |dJ+1,d0,d1=>tX (jC dJ) d0 d1
set_option maxHeartbeats 2000000 in
theorem KX :∀(dJ:Nat) (d0:ak) (d1:Int) (r:Bool) (hm:jC dJ d0 d1=some r) (v0:Value) (w:World) (hv0:St bf w v0 d0),
    Calls Tryz.prog 92 #[v0,.int .i64 d1] w fun e w'=>e=.returned (.bool r)∧Below w.heap.size w w':=by
  intro dJ;induction dJ with
  |zero=>
   intro d0 d1 r hm v0 w hv0
   cases hm
  |succ dJ ih=>
   intro d0 d1 r hm v0 w hv0;obtain ⟨lg,rfl,hRR0⟩:=hv0;obtain ⟨A1,n1,c1,A2,n2,c2,rfl,⟨h1,r1⟩,⟨h2,r2⟩⟩:=(bG hRR0);obtain ⟨rfl,q1⟩:=bI h1 r1;obtain ⟨rfl,q2⟩:=bI h2 r2;have T:=Below.refl w.heap.size w;obtain ⟨self,hself,hm⟩ :∃s,s=jC dJ∧tX s d0 d1=some r:=⟨_,rfl,hm⟩;unfold tX at hm;refine enter 33 Tryz.func92 rfl rfl rfl ?_;intro f hf;have s0:f 0=.agg #[.int .i64 d0.kind,.int .i64 d0.value,.slice A1 d0.data.length c1,.slice A2 d0.kids.length c2]:=hf 0 _ rfl;have s1:f 1=.int .i64 d1:=hf 1 _ rfl;refine wp_seq<|bF rfl ?_;refine RL.box rfl s0 (fun w3 B4 hb5 LP=>?_);replace B4:dD w3 w.heap.size 38 #[.int .i64 d0.kind,.int .i64 d0.value,.slice A1 d0.data.length c1,.slice A2 d0.kids.length c2]:=B4;have GB4:w.heap.size≤w.heap.size:=T.size;have T:=Tt T hb5;refine Ez (.bool false)<|RL.nil<|ah<|wp_seq<|wp_seq<|au rfl<|gy 0 rfl<|gZ (.int .i64 d0.kind) rfl (cu (aj B4 (i:=0) rfl))<|iq (.bool (d0.kind==1))<|dF (.bool (d0.kind==1)) ?_;rcases aB (d0.kind==1) with c7|c7
   ·replace hm:=cF c7 hm;iterate 4 refine RQ.skip (oL 10 c7) ?_
    refine dN false (.bool false) (vb rfl c7)<|RQ.nil<|ah<|gU rfl rfl<|wp_skip<|ah<|wp_seq<|wp_seq<|au rfl<|gy 3 rfl<|gZ (.slice A2 d0.kids.length c2) rfl (cu (aj B4 (i:=3) rfl))<|yH rfl<|dF (.int .i64 0)<|RQ.nil<|ah<|wp_block ?_;obtain ⟨K1,hK1,hm⟩ :∃K,K=nX∧iL d0 d1 self K (d0.kids.length+1) 0=some r:=⟨_,rfl,hm⟩;refine dG (fun g f w'=>∃(i9:Int),f 1=.int .i64 d1∧f 2=.pointer (some ⟨w.heap.size,0,none⟩)∧f 17=.slice A2 d0.kids.length c2∧f 18=.int .i64 (d0.kids.length:Int)∧f 19=.int .i64 i9∧0≤i9∧dD w' w.heap.size 38 #[.int .i64 d0.kind,.int .i64 d0.value,.slice A1 d0.data.length c1,.slice A2 d0.kids.length c2]∧Below w.heap.size w w'∧iL d0 d1 self K1 g i9=some r) 0 (fun f w'=>dD w' w.heap.size 38 #[.int .i64 d0.kind,.int .i64 d0.value,.slice A1 d0.data.length c1,.slice A2 d0.kids.length c2]∧Below w.heap.size w w'∧nX  = some r) (d0.kids.length+1) ⟨0,s1,rfl,rfl,rfl,rfl,(by omega),B4,T,hm⟩ ?_ ?_
    ·rintro f w8 ⟨B4,T,hm⟩;unfold nX at hm;refine dW (ah ?_);refine wp_seq<|au rfl<|aW (.bool true)<|RQ.nil<|ah<|wp_ret ?_
     cases hm
     exact (aV rfl rfl rfl ⟨rfl,T⟩)
    rintro g f w10 ⟨i9,iF,yT,Gx,aJa,awu,aYG,B4,T,hm⟩;rcases g with _|g
    ·simp only [iL] at hm; cases hm
    obtain ⟨eU,d_,hm⟩ :∃z,z=iL d0 d1 self K1 g∧rM d0 d1 self z K1 i9=some r:=⟨_,rfl,hm⟩;unfold rM at hm;refine wp_seq<|au rfl<|uZ (.bool (decide (i9 < (d0.kids.length:Int)))) awu aJa rfl<|RQ.nil<|ah<|wp_seq ?_;rcases aB (decide (i9 < (d0.kids.length:Int))) with c11|c11
    ·replace hm:=cF c11 hm;have atc:=of_decide_eq_false c11;refine iH c11<|wp_exit ?_;exact (bQ (bQ (iW ⟨_,rfl,⟨B4,T,(by rw [hK1] at hm; exact hm)⟩⟩)))
    replace hm:=cT c11 hm;have atc:=of_decide_eq_true c11;refine ig c11<|wp_skip<|ah<|wp_seq<|wp_block<|wp_seq<|bF rfl<|kE awu ?_;obtain ⟨x12,aLk,hm⟩:=bnd hm;obtain ⟨k13,aYH,aYI,aLk⟩:=aU aLk;obtain ⟨b19,o20,rfl,a9n⟩:=h2.addr (by omega);obtain ⟨baS,aAZ,hc18⟩:=h2.el aLk;have aYJ:=aAZ;obtain ⟨A21,n21,c21,A22,n22,EC,rfl,⟨h21,r21⟩,⟨h22,r22⟩⟩:=(bG aAZ);obtain ⟨rfl,q21⟩:=bI h21 r21;obtain ⟨rfl,q22⟩:=bI h22 r22;refine RL.y rfl (Y.indexAddr (m:=k13) (sz:=4) Gx awu aYH aYI (by kernel_rfl))<|Sm [.int .i64 x12.kind,.int .i64 x12.value,.slice A21 x12.data.length c21,.slice A22 x12.kids.length EC] rfl (cells4 (cu (cellT T (hc18 0 _ rfl))) (cu (cellT T (hc18 1 _ rfl))) (cu (cellT T (hc18 2 _ rfl))) (cu (cellT T (hc18 3 _ rfl)))) ?_;refine RL.alloc (z:=.agg #[.int .i64 0,.int .i64 0,.slice none 0 0,.slice none 0 0]) rfl (by kernel_rfl) (fun w23 B24 PI awj=>?_);replace B24:dD w23 w10.heap.size 38 #[.int .i64 0,.int .i64 0,.slice none 0 0,.slice none 0 0]:=B24;have baT:w.heap.size≤w10.heap.size:=T.size;have axI:=Nat.ne_of_lt B4.lt;have B4:=aX B4 PI;have T:=Tt T PI;refine Ez (.int .i64 i9) ?_;refine RL.store (v:=.agg #[.int .i64 x12.kind,.int .i64 x12.value,.slice A21 x12.data.length c21,.slice A22 x12.kids.length EC]) (cs':=#[.int .i64 x12.kind,.int .i64 x12.value,.slice A21 x12.data.length c21,.slice A22 x12.kids.length EC]) rfl rfl rfl B24 (by kernel_rfl) (by rfl) (by rfl) (by rfl) (fun w27 B28 ap9=>?_);have aQR:=ap9.size;have B4:=B4.bK ap9 (by intro hin; simp at hin; exact axI hin);have T:=T.trans (ap9.below (by first|(simp; done)|(simp; omega)));refine RL.nil<|ah<|wp_seq<|FC (by kernel_rfl) (by kernel_rfl)<|LC [.int .i64 x12.kind,.int .i64 x12.value,.slice A21 x12.data.length c21,.slice A22 x12.kids.length EC] rfl (cells4 (bV (aj B28 (i:=0) rfl)) (bV (aj B28 (i:=1) rfl)) (bV (aj B28 (i:=2) rfl)) (bV (aj B28 (i:=3) rfl)))<|aT iF<|LC [.int .i64 d0.kind,.int .i64 d0.value,.slice A1 d0.data.length c1,.slice (some ⟨b19,o20,none⟩) d0.kids.length c2] yT (cells4 (bV (aj B4 (i:=0) rfl)) (bV (aj B4 (i:=1) rfl)) (bV (aj B4 (i:=2) rfl)) (bV (aj B4 (i:=3) rfl)))<|dF (.int .i64 i9) ?_;obtain ⟨y30,e31,hm⟩:=bnd hm;refine RQ.call rfl (qV rfl rfl) (by kernel_rfl) (v:=.int .i64 y30) (bel (K:=fun _=>True) fun w' hb'=>(MB d0 i9 _ e31 _ w' (fE (R:=bf) (dR ⟨_,_,_,_,_,_,rfl,⟨aY.now aG h1 (dB) (Tt T hb'),r1⟩,⟨aY.now aK h2 (dB) (Tt T hb'),r2⟩⟩)))) ?_
    obtain ⟨s32,anE,hm⟩:=bnd hm;replace anE:=jg anE;refine uZ (.int .i64 s32) rfl rfl (by rw [bn anE.2,anE.1]) ?_;obtain ⟨Uj,e34,hm⟩:=bnd hm;refine RQ.call rfl (qV rfl rfl) (by kernel_rfl) (v:=.bool Uj) (bel (K:=fun _=>True) fun w' hb'=>(ih x12 s32 _ (by rw [← hself]; exact e34) _ w' (fE (R:=bf) (dR ⟨_,_,_,_,_,_,rfl,⟨aY.now aG h21 (dB) (Tt T hb'),r21⟩,⟨aY.now aK h22 (dB) (Tt T hb'),r22⟩⟩))))<|RQ.y rfl (Y.not (b':=(!Uj)) rfl rfl)<|RQ.nil ?_;intro w35 Jl;have ap2:=Jl.size;have B4:=aX B4 Jl;have T:=Tt T Jl;refine ah ?_;rcases aB Uj with c37|c37
    ·replace hm:=cF c37 hm;refine dX rfl (gQ rfl c37 rfl)<|wp_seq<|au rfl<|aW (.bool false)<|RQ.nil<|ah<|wp_ret ?_
     cases hm
     exact (bC (aF (aF (jG (bC (aF (aV rfl rfl rfl ⟨rfl,T⟩)))))))
    replace hm:=cT c37 hm;refine gU rfl (gQ rfl c37 rfl)<|wp_skip ?_;refine eF (ah ?_);refine au rfl<|RQ.y rfl (Y.dS awu rfl (bn (m:=i9) (by omega)))<|dF (.int .i64 (i9+1))<|RQ.nil ?_;exact (ah ⟨g,_,Nat.lt_succ_self _,rfl,⟨(i9+1),iF,yT,Gx,aJa,rfl,(by omega),B4,T,(by rw [← d_]; exact hm)⟩⟩)
   replace hm:=cT c7 hm;refine RQ.y (bT 10 c7) (Y.fieldAddr (off:=1) rfl (by kernel_rfl))<|RQ.y (bT 10 c7) (Y.load (v:=.int .i64 d0.value) rfl (by kernel_rfl) (cu (aj B4 (i:=1) rfl)))<|RQ.y (bT 10 c7) (Y.move (v:=.int .i64 d1) s1)<|RQ.y (bT 10 c7) (Y.dS (v:=.bool (decide (d0.value ≥ d1))) rfl rfl rfl)<|dN true (.bool (decide (d0.value ≥ d1))) (vb rfl c7)<|RQ.nil<|ah ?_;rcases aB (decide (d0.value ≥ d1)) with Vy|Vy
   ·replace hm:=cF Vy hm;have pc39:=of_decide_eq_false Vy;refine iH Vy<|wp_skip<|ah<|wp_seq<|wp_seq<|au rfl<|gy 3 rfl<|gZ (.slice A2 d0.kids.length c2) rfl (cu (aj B4 (i:=3) rfl))<|yH rfl<|dF (.int .i64 0)<|RQ.nil<|ah<|wp_block ?_;obtain ⟨K2,hK2,hm⟩ :∃K,K=rO∧jH d0 d1 self K (d0.kids.length+1) 0=some r:=⟨_,rfl,hm⟩;refine dG (fun g f w'=>∃(i41:Int),f 1=.int .i64 d1∧f 2=.pointer (some ⟨w.heap.size,0,none⟩)∧f 17=.slice A2 d0.kids.length c2∧f 18=.int .i64 (d0.kids.length:Int)∧f 19=.int .i64 i41∧0≤i41∧dD w' w.heap.size 38 #[.int .i64 d0.kind,.int .i64 d0.value,.slice A1 d0.data.length c1,.slice A2 d0.kids.length c2]∧Below w.heap.size w w'∧jH d0 d1 self K2 g i41=some r) 0 (fun f w'=>dD w' w.heap.size 38 #[.int .i64 d0.kind,.int .i64 d0.value,.slice A1 d0.data.length c1,.slice A2 d0.kids.length c2]∧Below w.heap.size w w'∧rO  = some r) (d0.kids.length+1) ⟨0,s1,rfl,rfl,rfl,rfl,(by omega),B4,T,hm⟩ ?_ ?_
    ·rintro f w40 ⟨B4,T,hm⟩;unfold rO at hm;refine dW (ah ?_);refine wp_seq<|au rfl<|aW (.bool true)<|RQ.nil<|ah<|wp_ret ?_
     cases hm
     exact (aV rfl rfl rfl ⟨rfl,T⟩)
    rintro g f w42 ⟨i41,adP,Zd,aJb,aJc,awv,aYK,B4,T,hm⟩;rcases g with _|g
    ·simp only [jH] at hm; cases hm
    obtain ⟨Jk,Gw,hm⟩ :∃z,z=jH d0 d1 self K2 g∧yg d0 d1 self z K2 i41=some r:=⟨_,rfl,hm⟩;unfold yg at hm;refine wp_seq<|au rfl<|uZ (.bool (decide (i41 < (d0.kids.length:Int)))) awv aJc rfl<|RQ.nil<|ah<|wp_seq ?_;rcases aB (decide (i41 < (d0.kids.length:Int))) with c43|c43
    ·replace hm:=cF c43 hm;have pc43:=of_decide_eq_false c43;refine iH c43<|wp_exit ?_;exact (bQ (bQ (iW ⟨_,rfl,⟨B4,T,(by rw [hK2] at hm; exact hm)⟩⟩)))
    replace hm:=cT c43 hm;have pc43:=of_decide_eq_true c43;refine ig c43<|wp_skip<|ah<|wp_seq<|wp_block<|wp_seq<|bF rfl<|kE awv ?_;obtain ⟨x44,aLo,hm⟩:=bnd hm;obtain ⟨k45,aYL,aYM,aLo⟩:=aU aLo;obtain ⟨b51,o52,rfl,a9o⟩:=h2.addr (by omega);obtain ⟨baU,aA0,aGG⟩:=h2.el aLo;have aYN:=aA0;obtain ⟨Zi,n53,c53,A54,n54,c54,rfl,⟨h53,r53⟩,⟨h54,r54⟩⟩:=(bG aA0);obtain ⟨rfl,q53⟩:=bI h53 r53;obtain ⟨rfl,q54⟩:=bI h54 r54;refine RL.y rfl (Y.indexAddr (m:=k45) (sz:=4) aJb awv aYL aYM (by kernel_rfl))<|Sm [.int .i64 x44.kind,.int .i64 x44.value,.slice Zi x44.data.length c53,.slice A54 x44.kids.length c54] rfl (cells4 (cu (cellT T (aGG 0 _ rfl))) (cu (cellT T (aGG 1 _ rfl))) (cu (cellT T (aGG 2 _ rfl))) (cu (cellT T (aGG 3 _ rfl)))) ?_;refine RL.alloc (z:=.agg #[.int .i64 0,.int .i64 0,.slice none 0 0,.slice none 0 0]) rfl (by kernel_rfl) (fun w55 B56 aj6 aA1=>?_);replace B56:dD w55 w42.heap.size 38 #[.int .i64 0,.int .i64 0,.slice none 0 0,.slice none 0 0]:=B56;have baV:w.heap.size≤w42.heap.size:=T.size;have axJ:=Nat.ne_of_lt B4.lt;have B4:=aX B4 aj6;have T:=Tt T aj6;refine Ez (.int .i64 i41) ?_;refine RL.store (v:=.agg #[.int .i64 x44.kind,.int .i64 x44.value,.slice Zi x44.data.length c53,.slice A54 x44.kids.length c54]) (cs':=#[.int .i64 x44.kind,.int .i64 x44.value,.slice Zi x44.data.length c53,.slice A54 x44.kids.length c54]) rfl rfl rfl B56 (by kernel_rfl) (by rfl) (by rfl) (by rfl) (fun w59 B60 NW=>?_);have awi:=NW.size;have B4:=B4.bK NW (by intro hin; simp at hin; exact axJ hin);have T:=T.trans (NW.below (by first|(simp; done)|(simp; omega)));refine RL.nil<|ah<|wp_seq<|FC (by kernel_rfl) (by kernel_rfl)<|LC [.int .i64 x44.kind,.int .i64 x44.value,.slice Zi x44.data.length c53,.slice A54 x44.kids.length c54] rfl (cells4 (bV (aj B60 (i:=0) rfl)) (bV (aj B60 (i:=1) rfl)) (bV (aj B60 (i:=2) rfl)) (bV (aj B60 (i:=3) rfl)))<|aT adP<|LC [.int .i64 d0.kind,.int .i64 d0.value,.slice A1 d0.data.length c1,.slice (some ⟨b51,o52,none⟩) d0.kids.length c2] Zd (cells4 (bV (aj B4 (i:=0) rfl)) (bV (aj B4 (i:=1) rfl)) (bV (aj B4 (i:=2) rfl)) (bV (aj B4 (i:=3) rfl)))<|dF (.int .i64 i41) ?_;obtain ⟨y62,e63,hm⟩:=bnd hm;refine RQ.call rfl (qV rfl rfl) (by kernel_rfl) (v:=.int .i64 y62) (bel (K:=fun _=>True) fun w' hb'=>(MB d0 i41 _ e63 _ w' (fE (R:=bf) (dR ⟨_,_,_,_,_,_,rfl,⟨aY.now aG h1 (dB) (Tt T hb'),r1⟩,⟨aY.now aK h2 (dB) (Tt T hb'),r2⟩⟩)))) ?_
    obtain ⟨s64,aGH,hm⟩:=bnd hm;replace aGH:=jg aGH;refine uZ (.int .i64 s64) rfl rfl (by rw [bn aGH.2,aGH.1]) ?_;obtain ⟨y65,e66,hm⟩:=bnd hm;refine RQ.call rfl (qV rfl rfl) (by kernel_rfl) (v:=.bool y65) (bel (K:=fun _=>True) fun w' hb'=>(ih x44 s64 _ (by rw [← hself]; exact e66) _ w' (fE (R:=bf) (dR ⟨_,_,_,_,_,_,rfl,⟨aY.now aG h53 (dB) (Tt T hb'),r53⟩,⟨aY.now aK h54 (dB) (Tt T hb'),r54⟩⟩))))<|RQ.y rfl (Y.not (b':=(!y65)) rfl rfl)<|RQ.nil ?_;intro w67 adU;have aAJ:=adU.size;have B4:=aX B4 adU;have T:=Tt T adU;refine ah ?_;rcases aB y65 with c69|c69
    ·replace hm:=cF c69 hm;refine dX rfl (gQ rfl c69 rfl)<|wp_seq<|au rfl<|aW (.bool false)<|RQ.nil<|ah<|wp_ret ?_
     cases hm
     exact (bC (aF (aF (jG (bC (aF (aV rfl rfl rfl ⟨rfl,T⟩)))))))
    replace hm:=cT c69 hm;refine gU rfl (gQ rfl c69 rfl)<|wp_skip ?_;refine eF (ah ?_);refine au rfl<|RQ.y rfl (Y.dS awv rfl (bn (m:=i41) (by omega)))<|dF (.int .i64 (i41+1))<|RQ.nil ?_;exact (ah ⟨g,_,Nat.lt_succ_self _,rfl,⟨(i41+1),adP,Zd,aJb,aJc,rfl,(by omega),B4,T,(by rw [← Gw]; exact hm)⟩⟩)
   replace hm:=cT Vy hm;have pc39:=of_decide_eq_true Vy;refine ig Vy<|wp_seq<|au rfl<|aW (.bool false)<|RQ.nil<|ah<|wp_ret ?_
   cases hm
   exact (aF (aV rfl rfl rfl ⟨rfl,T⟩))
noncomputable def BZ (d0:ak):Option Bool:=
  ((vY d0).bind fun y7=>(bif y7 then ((jC (SizeOf.sizeOf d0) d0 0).bind fun YK=>some YK) else some false))
set_option maxHeartbeats 2000000 in
theorem abr (d0:ak) (r:Bool) (hm:BZ d0=some r) (v0:Value) (w:World) (hv0:St bf w v0 d0) :
    Calls Tryz.prog 106 #[v0] w fun e w'=>e=.returned (.bool r)∧Below w.heap.size w w':=by
  obtain ⟨lg,rfl,hRR0⟩:=hv0;obtain ⟨A1,n1,c1,A2,n2,c2,rfl,⟨h1,r1⟩,⟨h2,r2⟩⟩:=(bG hRR0);obtain ⟨rfl,q1⟩:=bI h1 r1;obtain ⟨rfl,q2⟩:=bI h2 r2;have T:=Below.refl w.heap.size w;unfold BZ at hm;refine enter 9 Tryz.func106 rfl rfl rfl ?_;intro f hf;have s0:f 0=.agg #[.int .i64 d0.kind,.int .i64 d0.value,.slice A1 d0.data.length c1,.slice A2 d0.kids.length c2]:=hf 0 _ rfl;refine wp_seq<|bF rfl ?_;refine RL.box rfl s0 (fun w3 B4 hb5 LP=>?_);replace B4:dD w3 w.heap.size 38 #[.int .i64 d0.kind,.int .i64 d0.value,.slice A1 d0.data.length c1,.slice A2 d0.kids.length c2]:=B4;have GB4:w.heap.size≤w.heap.size:=T.size;have T:=Tt T hb5;refine Ez (.bool false)<|RL.nil<|ah<|wp_seq<|cZ rfl<|LC [.int .i64 d0.kind,.int .i64 d0.value,.slice A1 d0.data.length c1,.slice A2 d0.kids.length c2] rfl (cells4 (bV (aj B4 (i:=0) rfl)) (bV (aj B4 (i:=1) rfl)) (bV (aj B4 (i:=2) rfl)) (bV (aj B4 (i:=3) rfl))) ?_;obtain ⟨y7,e8,hm⟩:=bnd hm;refine RQ.call rfl (qZ rfl) (by kernel_rfl) (v:=.bool y7) (bel (K:=fun _=>True) fun w' hb'=>(NV d0 _ e8 _ w' (fE (R:=bf) (dR ⟨_,_,_,_,_,_,rfl,⟨aY.now aG h1 (dB) (Tt T hb'),r1⟩,⟨aY.now aK h2 (dB) (Tt T hb'),r2⟩⟩))))<|dF (.bool y7) ?_;rcases aB y7 with c9|c9
  ·replace hm:=cF c9 hm;refine RQ.skip (oL 5 c9)<|RQ.skip (oL 5 c9)<|dN false (.bool false) (vb rfl c9)<|aW (.bool false)<|RQ.nil ?_;intro w10 Bo;have T:=Tt T Bo;refine ah<|wp_ret ?_
   cases hm
   exact (aV rfl rfl rfl ⟨rfl,T⟩)
  replace hm:=cT c9 hm;refine RQ.y (bT 5 c9) (Y.wH (cs:=[.int .i64 d0.kind,.int .i64 d0.value,.slice A1 d0.data.length c1,.slice A2 d0.kids.length c2]) rfl (by kernel_rfl) (cells4 (bV (aj B4 (i:=0) rfl)) (bV (aj B4 (i:=1) rfl)) (bV (aj B4 (i:=2) rfl)) (bV (aj B4 (i:=3) rfl)))) ?_;obtain ⟨YK,e13,hm⟩:=bnd hm;refine RQ.call (bT 5 c9) (qV rfl rfl) (by kernel_rfl) (v:=.bool YK) (bel (K:=fun _=>True) fun w' hb'=>(KX (SizeOf.sizeOf d0) d0 0 _ e13 _ w' (fE (R:=bf) (dR ⟨_,_,_,_,_,_,rfl,⟨aY.now aG h1 (dB) (Tt T hb'),r1⟩,⟨aY.now aK h2 (dB) (Tt T hb'),r2⟩⟩))))<|dN true (.bool YK) (vb rfl c9)<|aW (.bool YK)<|RQ.nil ?_;intro WQ PL;have T:=Tt T PL;refine ah<|wp_ret ?_
  cases hm
  exact (aV rfl rfl rfl ⟨rfl,T⟩)
noncomputable def zo (d0:ak):Option Bool:=
  (bif (d0.kind==6) then some true else some (d0.kind==7))
set_option maxHeartbeats 2000000 in
theorem Zj (d0:ak) (r:Bool) (hm:zo d0=some r) (v0:Value) (w:World) (hv0:St bf w v0 d0) :
    Calls Tryz.prog 110 #[v0] w fun e w'=>e=.returned (.bool r)∧Below w.heap.size w w':=by
  obtain ⟨lg,rfl,hRR0⟩:=hv0;obtain ⟨A1,n1,c1,A2,n2,c2,rfl,⟨h1,r1⟩,⟨h2,r2⟩⟩:=(bG hRR0);obtain ⟨rfl,q1⟩:=bI h1 r1;obtain ⟨rfl,q2⟩:=bI h2 r2;have T:=Below.refl w.heap.size w;unfold zo at hm;refine enter 11 Tryz.func110 rfl rfl rfl ?_;intro f hf;have s0:f 0=.agg #[.int .i64 d0.kind,.int .i64 d0.value,.slice A1 d0.data.length c1,.slice A2 d0.kids.length c2]:=hf 0 _ rfl;refine wp_seq<|bF rfl ?_;refine RL.box rfl s0 (fun w3 B4 hb5 LP=>?_);replace B4:dD w3 w.heap.size 38 #[.int .i64 d0.kind,.int .i64 d0.value,.slice A1 d0.data.length c1,.slice A2 d0.kids.length c2]:=B4;have GB4:w.heap.size≤w.heap.size:=T.size;have T:=Tt T hb5;refine Ez (.bool false)<|RL.nil<|ah<|wp_seq<|au rfl<|gy 0 rfl<|gZ (.int .i64 d0.kind) rfl (cu (aj B4 (i:=0) rfl))<|iq (.bool (d0.kind==6))<|dF (.bool (d0.kind==6)) ?_;rcases aB (d0.kind==6) with c7|c7
  ·replace hm:=cF c7 hm;refine RQ.y (bT 6 c7) (Y.fieldAddr (off:=0) rfl (by kernel_rfl))<|RQ.y (bT 6 c7) (Y.load (v:=.int .i64 d0.kind) rfl (by kernel_rfl) (cu (aj B4 (i:=0) rfl)))<|RQ.y (bT 6 c7) (Y.dS (v:=.bool (d0.kind==7)) rfl rfl rfl)<|dN false (.bool (d0.kind==7)) (vb rfl c7)<|aW (.bool (d0.kind==7))<|RQ.nil<|ah<|wp_ret ?_
   cases hm
   exact (aV rfl rfl rfl ⟨rfl,T⟩)
  replace hm:=cT c7 hm;iterate 3 refine RQ.skip (oL 6 c7) ?_
  refine dN true (.bool true) (vb rfl c7)<|aW (.bool true)<|RQ.nil<|ah<|wp_ret ?_
  cases hm
  exact (aV rfl rfl rfl ⟨rfl,T⟩)
noncomputable def mM (d0:Int) (d1:Int):Option Bool:=
  some (decide (d0 ≥ d1))
set_option maxHeartbeats 2000000 in
theorem Hu (d0:Int) (d1:Int) (r:Bool) (hm:mM d0 d1=some r) (v1:Value) (w:World) (hv1:Pt nR w v1 d1) :
    Calls Tryz.prog 112 #[.int .i64 d0,v1] w fun e w'=>e=.returned (.bool r)∧Below w.heap.size w w':=by
  obtain ⟨P_,TU,SG,rfl,V9,KW,vk⟩:=hv1;have ahc:=KW;obtain rfl:=KW;have T:=Below.refl w.heap.size w;unfold mM at hm;refine enter 7 Tryz.func112 rfl rfl rfl ?_;intro f hf;have s0:f 0=.int .i64 d0:=hf 0 _ rfl;have s1:f 1=.pointer (some ⟨P_,TU,none⟩):=hf 1 _ rfl;refine wp_seq<|au rfl<|aW (.bool false)<|RQ.nil<|ah<|wp_seq<|au rfl<|aT s0<|gZ (.int .i64 d1) s1 (cu (cellT T (vk 0 _ rfl)))<|iq (.bool (decide (d0 ≥ d1)))<|aW (.bool (decide (d0 ≥ d1)))<|RQ.nil<|ah<|wp_ret ?_
  cases hm
  exact (aV rfl rfl rfl ⟨rfl,T⟩)
noncomputable def wP (d0:ak) (d1:Int):Option Bool:=
  (bif (d0.kind==11) then (bif (decide (d0.value ≥ d1)) then some true else ((bg d0.data (fun x0=>mM x0 d1)).bind fun y13=>some y13)) else ((bg d0.data (fun x0=>mM x0 d1)).bind fun y8=>some y8))
set_option maxHeartbeats 2000000 in
theorem WW (d0:ak) (d1:Int) (r:Bool) (hm:wP d0 d1=some r) (v0:Value) (v1:Value) (w:World) (hv0:St bf w v0 d0) (hv1:Pt nR w v1 d1) :
    Calls Tryz.prog 111 #[v0,v1] w fun e w'=>e=.returned (.bool r)∧Below w.heap.size w w':=by
  obtain ⟨lg,rfl,hRR0⟩:=hv0;obtain ⟨A1,n1,c1,A2,n2,c2,rfl,⟨h1,r1⟩,⟨h2,r2⟩⟩:=(bG hRR0);obtain ⟨rfl,q1⟩:=bI h1 r1;obtain ⟨rfl,q2⟩:=bI h2 r2;obtain ⟨P_,TU,SG,rfl,V9,KW,vk⟩:=hv1;have ahc:=KW;obtain rfl:=KW;have T:=Below.refl w.heap.size w;unfold wP at hm;refine enter 19 Tryz.func111 rfl rfl rfl ?_;intro f hf;have s0:f 0=.agg #[.int .i64 d0.kind,.int .i64 d0.value,.slice A1 d0.data.length c1,.slice A2 d0.kids.length c2]:=hf 0 _ rfl;have s1:f 1=.pointer (some ⟨P_,TU,none⟩):=hf 1 _ rfl;refine wp_seq<|bF rfl ?_;refine RL.box rfl s0 (fun w3 B4 hb5 LP=>?_);replace B4:dD w3 w.heap.size 38 #[.int .i64 d0.kind,.int .i64 d0.value,.slice A1 d0.data.length c1,.slice A2 d0.kids.length c2]:=B4;have GB4:w.heap.size≤w.heap.size:=T.size;have T:=Tt T hb5;refine Ez (.bool false)<|RL.nil<|ah<|wp_seq<|cZ rfl<|gy 0 rfl<|gZ (.int .i64 d0.kind) rfl (bV (aj B4 (i:=0) rfl))<|iq (.bool (d0.kind==11))<|dF (.bool (d0.kind==11)) ?_;rcases aB (d0.kind==11) with c7|c7
  ·replace hm:=cF c7 hm;iterate 4 refine RQ.skip (oL 7 c7) ?_
   refine dN false (.bool false) (vb rfl c7)<|dF (.bool false)<|gy 2 rfl<|gZ (.slice A1 d0.data.length c1) rfl (bV (aj B4 (i:=2) rfl))<|RQ.y rfl (Y.makeFunc (vals:=#[.pointer (some ⟨P_,TU,none⟩)]) (qZ s1)) ?_;obtain ⟨y8,e9,hm⟩:=bnd hm;refine RQ.call rfl (qV rfl rfl) (by kernel_rfl) (v:=.bool y8) (bel (K:=fun _=>True) fun w' hb'=>(bP d0.data (fun x0=>mM x0 d1) _ e9 _ _ _ w' (eY aG h1 r1 (Tt T hb')) (by kernel_rfl) (fun x0 b hx w1 hb1=>Calls.arr (by simp) (Hu x0 d1 _ hx  _ w1  (l9 aG V9 ahc vk (Tt (Tt T hb') hb1))))))<|dN false (.bool y8) rfl<|aW (.bool y8)<|RQ.nil ?_;intro w10 Bo;have T:=Tt T Bo;refine ah<|wp_ret ?_
   cases hm
   exact (aV rfl rfl rfl ⟨rfl,T⟩)
  replace hm:=cT c7 hm;refine RQ.y (bT 7 c7) (Y.fieldAddr (off:=1) rfl (by kernel_rfl))<|RQ.y (bT 7 c7) (Y.load (v:=.int .i64 d0.value) rfl (by kernel_rfl) (bV (aj B4 (i:=1) rfl)))<|RQ.y (bT 7 c7) (Y.load (v:=.int .i64 d1) s1 (by kernel_rfl) (bV (cellT T (vk 0 _ rfl))))<|RQ.y (bT 7 c7) (Y.dS (v:=.bool (decide (d0.value ≥ d1))) rfl rfl rfl)<|dN true (.bool (decide (d0.value ≥ d1))) (vb rfl c7)<|dF (.bool (decide (d0.value ≥ d1))) ?_;rcases aB (decide (d0.value ≥ d1)) with c12|c12
  ·replace hm:=cF c12 hm;have ahf:=of_decide_eq_false c12;refine RQ.y (bT 13 c12) (Y.fieldAddr (off:=2) rfl (by kernel_rfl))<|RQ.y (bT 13 c12) (Y.load (v:=.slice A1 d0.data.length c1) rfl (by kernel_rfl) (bV (aj B4 (i:=2) rfl)))<|RQ.y (bT 13 c12) (Y.makeFunc (vals:=#[.pointer (some ⟨P_,TU,none⟩)]) (qZ s1)) ?_;obtain ⟨y13,e14,hm⟩:=bnd hm;refine RQ.call (bT 13 c12) (qV rfl rfl) (by kernel_rfl) (v:=.bool y13) (bel (K:=fun _=>True) fun w' hb'=>(bP d0.data (fun x0=>mM x0 d1) _ e14 _ _ _ w' (eY aG h1 r1 (Tt T hb')) (by kernel_rfl) (fun x0 b hx w1 hb1=>Calls.arr (by simp) (Hu x0 d1 _ hx  _ w1  (l9 aG V9 ahc vk (Tt (Tt T hb') hb1))))))<|dN false (.bool y13) (vb rfl c12)<|aW (.bool y13)<|RQ.nil ?_;intro w15 hb16;have T:=Tt T hb16;refine ah<|wp_ret ?_
   cases hm
   exact (aV rfl rfl rfl ⟨rfl,T⟩)
  replace hm:=cT c12 hm;have ahf:=of_decide_eq_true c12;iterate 4 refine RQ.skip (oL 13 c12) ?_
  refine dN true (.bool true) (vb rfl c12)<|aW (.bool true)<|RQ.nil ?_;intro w17 PN;have T:=Tt T PN;refine ah<|wp_ret ?_
  cases hm
  exact (aV rfl rfl rfl ⟨rfl,T⟩)
noncomputable def fA:Option Int:=
  some (-1)
noncomputable def gu (d0:List ak) (d1:ak→Option Bool) (eU:Int→Option Int) (K1:Option Int) (i2:Int):Option Int:=
  (bif (decide (i2 < (d0.length:Int))) then ((fC d0 i2).bind fun x5=>((d1 x5).bind fun PV=>(bif PV then some i2 else (eU (i2+1))))) else (K1))
noncomputable def dw (d0:List ak) (d1:ak→Option Bool) (K1:Option Int):Nat→Int→Option Int
  |0,_=>none
  |g+1,i2=>gu d0 d1 (dw d0 d1 K1 g) K1 i2
noncomputable def jm (d0:List ak) (d1:ak→Option Bool):Option Int:=
  (dw d0 d1 fA (d0.length+1) 0)
set_option maxHeartbeats 2000000 in
theorem Dh (d0:List ak) (d1:ak→Option Bool) (r:Int) (hm:jm d0 d1=some r) (v0:Value) (PE:FuncId) (qx:Array Value) (w:World) (hv0:Sl bf 4 w v0 d0) (aan:isGo Tryz.prog PE=true) (hf1 :∀(x0:ak) (b:Bool),d1 x0=some b→∀w1,Below w.heap.size w w1→∀y0,St bf w1 y0 x0→Calls Tryz.prog PE (#[y0] ++ qx) w1 fun e w2=>e=.returned (.bool b)∧Below w1.heap.size w1 w2) :
    Calls Tryz.prog 107 #[v0,.func (.func PE) #[] qx] w fun e w'=>e=.returned (.int .i64 r)∧Below w.heap.size w w':=by
  obtain ⟨Bc,na0,ca0,rfl,ha0,GN⟩:=hv0;obtain ⟨rfl,qa0⟩:=bI ha0 GN;have T:=Below.refl w.heap.size w;unfold jm at hm;refine enter 19 Tryz.func107 rfl rfl rfl ?_;intro f hf;have s0:f 0=.slice Bc d0.length ca0:=hf 0 _ rfl;have s1:f 1=.func (.func PE) #[] qx:=hf 1 _ rfl;refine wp_seq<|au rfl<|aW (.int .i64 0)<|RQ.nil<|ah<|wp_seq<|wp_seq<|au rfl<|aT s0<|yH rfl<|dF (.int .i64 0)<|RQ.nil<|ah<|wp_block ?_;obtain ⟨K1,hK1,hm⟩ :∃K,K=fA∧dw d0 d1 K (d0.length+1) 0=some r:=⟨_,rfl,hm⟩;refine dG (fun g f w'=>∃(i2:Int),f 0=.slice Bc d0.length ca0∧f 1=.func (.func PE) #[] qx∧f 7=.int .i64 (d0.length:Int)∧f 8=.int .i64 i2∧0≤i2∧Below w.heap.size w w'∧dw d0 d1 K1 g i2=some r) 0 (fun f w'=>Below w.heap.size w w'∧fA  = some r) (d0.length+1) ⟨0,s0,s1,rfl,rfl,(by omega),T,hm⟩ ?_ ?_
  ·rintro f w1 ⟨T,hm⟩;unfold fA at hm;refine dW (ah ?_);refine wp_seq<|au rfl<|aW (.int .i64 (-1))<|RQ.nil<|ah<|wp_ret ?_
   cases hm
   exact (aV rfl rfl rfl ⟨rfl,T⟩)
  rintro g f w3 ⟨i2,dQ,iF,D6,Qz,av3,T,hm⟩;rcases g with _|g
  ·simp only [dw] at hm; cases hm
  obtain ⟨eU,d_,hm⟩ :∃z,z=dw d0 d1 K1 g∧gu d0 d1 z K1 i2=some r:=⟨_,rfl,hm⟩;unfold gu at hm;refine wp_seq<|au rfl<|uZ (.bool (decide (i2 < (d0.length:Int)))) Qz D6 rfl<|RQ.nil<|ah<|wp_seq ?_;rcases aB (decide (i2 < (d0.length:Int))) with c4|c4
  ·replace hm:=cF c4 hm;have pc4:=of_decide_eq_false c4;refine iH c4<|wp_exit ?_;exact (bQ (bQ (iW ⟨_,rfl,⟨T,(by rw [hK1] at hm; exact hm)⟩⟩)))
  replace hm:=cT c4 hm;have pc4:=of_decide_eq_true c4;refine ig c4<|wp_skip<|ah<|wp_seq<|wp_block<|wp_seq<|au rfl<|aT Qz<|aW (.int .i64 i2)<|RQ.nil<|ah<|wp_seq<|cZ rfl<|aT iF<|aT dQ<|dF (.int .i64 i2) ?_;obtain ⟨x5,hx8,hm⟩:=bnd hm;obtain ⟨k6,hk9,az6,hx8⟩:=aU hx8;obtain ⟨b12,o13,rfl,av4⟩:=ha0.addr (by omega);obtain ⟨cs7,afj,aao⟩:=ha0.el hx8;have aIZ:=afj;obtain ⟨A14,n14,c14,A15,n15,c15,rfl,⟨h14,r14⟩,⟨h15,r15⟩⟩:=(bG afj);obtain ⟨rfl,q14⟩:=bI h14 r14;obtain ⟨rfl,q15⟩:=bI h15 r15;refine RQ.y rfl (Y.indexAddr (m:=k6) (sz:=4) rfl rfl hk9 az6 (by kernel_rfl))<|LC [.int .i64 x5.kind,.int .i64 x5.value,.slice A14 x5.data.length c14,.slice A15 x5.kids.length c15] rfl (cells4 (bV (cellT T (aao 0 _ rfl))) (bV (cellT T (aao 1 _ rfl))) (bV (cellT T (aao 2 _ rfl))) (bV (cellT T (aao 3 _ rfl)))) ?_;obtain ⟨PV,e17,hm⟩:=bnd hm;refine RQ.Jb rfl rfl (qZ rfl) aan (v:=.bool PV) (bel (K:=fun _=>True) fun w' hb'=>hf1 x5 PV e17 w' (Tt T hb') _ (fE (R:=bf) (dR ⟨_,_,_,_,_,_,rfl,⟨aY.now aG h14 (dB) (Tt T hb'),r14⟩,⟨aY.now aK h15 (dB) (Tt T hb'),r15⟩⟩)))<|RQ.nil ?_;intro w18 EP;have ahd:=EP.size;have T:=Tt T EP;refine ah ?_;rcases aB PV with c20|c20
  ·replace hm:=cF c20 hm;refine iH c20<|wp_skip ?_;refine eF (ah ?_);refine au rfl<|RQ.y rfl (Y.dS Qz rfl (bn (m:=i2) (by omega)))<|dF (.int .i64 (i2+1))<|RQ.nil ?_;exact (ah ⟨g,_,Nat.lt_succ_self _,rfl,⟨(i2+1),dQ,iF,D6,rfl,(by omega),T,(by rw [← d_]; exact hm)⟩⟩)
  replace hm:=cT c20 hm;refine ig c20<|wp_seq<|au rfl<|dF (.int .i64 i2)<|aW (.int .i64 i2)<|RQ.nil<|ah<|wp_ret ?_
  cases hm
  exact (bC (aF (aF (jG (bC (aF (aV rfl rfl rfl ⟨rfl,T⟩)))))))
noncomputable def dL (d0:List ak) (d1:ak→Option Bool):Option Bool:=
  ((jm d0 d1).bind fun y1=>some (decide (y1 ≥ 0)))
set_option maxHeartbeats 2000000 in
theorem j_ (d0:List ak) (d1:ak→Option Bool) (r:Bool) (hm:dL d0 d1=some r) (v0:Value) (PE:FuncId) (qx:Array Value) (w:World) (hv0:Sl bf 4 w v0 d0) (aan:isGo Tryz.prog PE=true) (hf1 :∀(x0:ak) (b:Bool),d1 x0=some b→∀w1,Below w.heap.size w w1→∀y0,St bf w1 y0 x0→Calls Tryz.prog PE (#[y0] ++ qx) w1 fun e w2=>e=.returned (.bool b)∧Below w1.heap.size w1 w2) :
    Calls Tryz.prog 88 #[v0,.func (.func PE) #[] qx] w fun e w'=>e=.returned (.bool r)∧Below w.heap.size w w':=by
  obtain ⟨Bc,na0,ca0,rfl,ha0,GN⟩:=hv0;obtain ⟨rfl,qa0⟩:=bI ha0 GN;have T:=Below.refl w.heap.size w;unfold dL at hm;refine enter 9 Tryz.func88 rfl rfl rfl ?_;intro f hf;have s0:f 0=.slice Bc d0.length ca0:=hf 0 _ rfl;have s1:f 1=.func (.func PE) #[] qx:=hf 1 _ rfl;refine wp_seq<|au rfl<|aW (.bool false)<|RQ.nil<|ah<|wp_seq<|cZ rfl<|aT s0<|aT s1 ?_;obtain ⟨y1,e2,hm⟩:=bnd hm;refine RQ.call rfl (qV rfl rfl) (by kernel_rfl) (v:=.int .i64 y1) (bel (K:=fun _=>True) fun w' hb'=>(Dh d0 d1 _ e2 _ _ _ w' (eY aK ha0 GN (Tt T hb')) aan (fun x0 b hx w1 hb1 y0 hy0=>hf1 x0 b hx w1 (Tt (Tt T hb') hb1) y0 hy0)))<|iq (.bool (decide (y1 ≥ 0)))<|aW (.bool (decide (y1 ≥ 0)))<|RQ.nil ?_;intro w3 hb4;have T:=Tt T hb4;refine ah<|wp_ret ?_
  cases hm
  exact (aV rfl rfl rfl ⟨rfl,T⟩)
end
section
open Go.RowKit
set_option maxRecDepth 100000
theorem atg (d0:ak) (r:Bool) (v0:Value) (PE:FuncId) (qx:Array Value) (P_:Nat) (w:World) (hv0:St bf w v0 d0) (B1:dD w P_ 129 #[.func (.func PE) #[] qx])
  (hany :∀w1,Below w.heap.size w w1→∀v,St bf w1 v d0→Calls Tryz.prog 109 #[v,.func (.func PE) #[] qx] w1 fun e w2=>e=.returned (.bool r)∧Below w1.heap.size w1 w2) :
  Calls Tryz.prog 121 #[v0,.pointer (some ⟨P_,0,none⟩)] w fun e w'=>e=.returned (.bool r)∧Below w.heap.size w w':=by
 obtain ⟨lg,rfl,hRR0⟩:=hv0
 obtain ⟨A1,n1,c1,A2,n2,c2,rfl,⟨h1,r1⟩,⟨h2,r2⟩⟩:=(bG hRR0)
 have e1:=h1.len; subst e1
 have q1:=anm r1
 have e2:=h2.len; subst e2
 have q2:=anm r2
 have T:=Below.refl w.heap.size w
 refine enter 7 Tryz.func121 rfl rfl rfl ?_
 intro f hf
 have s0:f 0=.agg #[.int .i64 d0.kind,.int .i64 d0.value,.slice A1 d0.data.length c1,.slice A2 d0.kids.length c2]:=hf 0 _ rfl
 have s1:f 1=.pointer (some ⟨P_,0,none⟩):=hf 1 _ rfl
 refine wp_seq ?_
 refine bF rfl ?_
 refine RL.box rfl s0 (fun w3 B4 hb5 LP=>?_)
 replace B4:dD w3 w.heap.size 38 #[.int .i64 d0.kind,.int .i64 d0.value,.slice A1 d0.data.length c1,.slice A2 d0.kids.length c2]:=B4
 have GB4:w.heap.size≤w.heap.size:=T.size
 have T:=Tt T hb5
 refine RL.y rfl (Y.assign (v:=.bool false) rfl) ?_
 refine RL.nil ?_
 refine ah ?_
 refine wp_seq ?_
 refine cZ rfl ?_
 refine RQ.y rfl (Y.wH (cs:=[.int .i64 d0.kind,.int .i64 d0.value,.slice A1 d0.data.length c1,.slice A2 d0.kids.length c2]) rfl (by kernel_rfl) (cells4 (bV (aj B4 (i:=0) rfl)) (bV (aj B4 (i:=1) rfl)) (bV (aj B4 (i:=2) rfl)) (bV (aj B4 (i:=3) rfl)))) ?_
 refine RQ.y rfl (Y.load (v:=.func (.func PE) #[] qx) s1 (by kernel_rfl) (bV (aj (aX B1 T) (i:=0) rfl))) ?_
 refine RQ.call rfl (qV rfl rfl) (by kernel_rfl) (v:=.bool r) (bel (K:=fun _=>True) fun w' hb'=>(hany w' (Tt T hb') _ (fE (R:=bf) (dR ⟨_,_,_,_,_,_,rfl,⟨aY.now aG h1 (Nat.le_refl _) (Tt T hb'),r1⟩,⟨aY.now aK h2 (Nat.le_refl _) (Tt T hb'),r2⟩⟩)))) ?_
 refine RQ.y rfl (Y.assign (v:=.bool r) rfl) ?_
 refine RQ.nil ?_
 intro w9 Au
 have axA:=Au.size
 have T:=Tt T Au
 refine ah ?_
 refine wp_ret ?_
 exact (aV rfl rfl rfl ⟨rfl,T⟩)
noncomputable def oh:Nat→ak→(ak→Option Bool)→Option Bool
  |0,_,_=>none
  |dJ+1,d0,d1=>(d1 d0).bind fun y11=>bif y11 then some true else (dL d0.kids (fun x0=>oh dJ x0 d1)).bind fun uN=>some uN
set_option maxHeartbeats 2000000 in
theorem SN :∀(dJ:Nat) (d0:ak) (d1:ak→Option Bool) (r:Bool) (hm:oh dJ d0 d1=some r) (v0:Value) (PE:FuncId) (qx:Array Value) (w:World) (hv0:St bf w v0 d0) (aan:isGo Tryz.prog PE=true) (hf1 :∀(x0:ak) (b:Bool),d1 x0=some b→∀w1,Below w.heap.size w w1→∀y0,St bf w1 y0 x0→Calls Tryz.prog PE (#[y0] ++ qx) w1 fun e w2=>e=.returned (.bool b)∧Below w1.heap.size w1 w2),
    Calls Tryz.prog 109 #[v0,.func (.func PE) #[] qx] w fun e w'=>e=.returned (.bool r)∧Below w.heap.size w w':=by
  intro dJ;induction dJ with
  |zero=>intro d0 d1 r hm; cases hm
  |succ dJ ih=>
   intro d0 d1 r hm v0 PE qx w hv0 aan hf1;obtain ⟨lg,rfl,hRR0⟩:=hv0;obtain ⟨A1,n1,c1,A2,n2,c2,rfl,⟨h1,r1⟩,⟨h2,r2⟩⟩:=(bG hRR0);obtain ⟨rfl,q1⟩:=bI h1 r1;obtain ⟨rfl,q2⟩:=bI h2 r2;have T:=Below.refl w.heap.size w;unfold oh at hm;refine enter 14 Tryz.func109 rfl rfl rfl ?_;intro f hf;have s0:f 0=.agg #[.int .i64 d0.kind,.int .i64 d0.value,.slice A1 d0.data.length c1,.slice A2 d0.kids.length c2]:=hf 0 _ rfl;have s1:f 1=.func (.func PE) #[] qx:=hf 1 _ rfl;refine wp_seq<|bF rfl ?_;refine RL.box rfl s0 (fun w3 B4 hb5 LP=>?_);replace B4:dD w3 w.heap.size 38 #[.int .i64 d0.kind,.int .i64 d0.value,.slice A1 d0.data.length c1,.slice A2 d0.kids.length c2]:=B4;have GB4:w.heap.size≤w.heap.size:=T.size;have T:=Tt T hb5;refine RL.box rfl s1 (fun w7 B8 Zc aj_=>?_);replace B8:dD w7 w3.heap.size 129 #[.func (.func PE) #[] qx]:=B8;have GB8:w.heap.size≤w3.heap.size:=T.size;have YL:=Nat.ne_of_lt B4.lt;have B4:=aX B4 Zc;have T:=Tt T Zc;refine Ez (.bool false)<|RL.nil<|ah<|wp_seq<|cZ rfl<|gZ (.func (.func PE) #[] qx) rfl (bV (aj B8 (i:=0) rfl))<|LC [.int .i64 d0.kind,.int .i64 d0.value,.slice A1 d0.data.length c1,.slice A2 d0.kids.length c2] rfl (cells4 (bV (aj B4 (i:=0) rfl)) (bV (aj B4 (i:=1) rfl)) (bV (aj B4 (i:=2) rfl)) (bV (aj B4 (i:=3) rfl))) ?_;obtain ⟨y11,e12,hm⟩:=bnd hm;refine RQ.Jb rfl rfl (qZ rfl) aan (v:=.bool y11) (bel (K:=fun _=>True) fun w' hb'=>hf1 d0 y11 e12 w' (Tt T hb') _ (fE (R:=bf) (dR ⟨_,_,_,_,_,_,rfl,⟨aY.now aG h1 (dB) (Tt T hb'),r1⟩,⟨aY.now aK h2 (dB) (Tt T hb'),r2⟩⟩)))<|dF (.bool y11) ?_;rcases aB y11 with c13|c13
   ·replace hm:=cF c13 hm;refine RQ.y (bT 8 c13) (Y.fieldAddr (off:=3) rfl (by kernel_rfl))<|RQ.y (bT 8 c13) (Y.load (v:=.slice A2 d0.kids.length c2) rfl (by kernel_rfl) (bV (aj B4 (i:=3) rfl)))<|RQ.y (bT 8 c13) (Y.makeFunc (vals:=#[.pointer (some ⟨w3.heap.size,0,none⟩)]) (qZ rfl)) ?_;have key :∀(x0:ak) (b:Bool),oh dJ x0 d1=some b→∀w1,Below w7.heap.size w7 w1→∀y0,St bf w1 y0 x0→Calls Tryz.prog 121 #[y0,.pointer (some ⟨w3.heap.size,0,none⟩)] w1 fun e w2=>e=.returned (.bool b)∧Below w1.heap.size w1 w2:=by
     intro x0 b hx w1 hb1 y0 hy0;refine atg x0 b y0 PE qx w3.heap.size w1 hy0 (aX B8 hb1) ?_;intro w2 hb2 v hv;refine ih x0 d1 b hx v PE qx w2 hv aan ?_;intro x b hx w4 hb4 y hy;exact hf1 x b hx w4 (Tt (Tt (Tt T hb1) hb2) hb4) y hy
    obtain ⟨uN,e15,hm⟩:=bnd hm;refine RQ.call (bT 8 c13) (qV rfl rfl) (by kernel_rfl) (v:=.bool uN) (bel (K:=fun _=>True) fun w' hb'=>(j_ d0.kids (fun x0=>oh dJ x0 d1) _ e15 _ _ _ w' (eY aK h2 r2 (Tt T hb')) (by kernel_rfl) (fun x0 b hx w1 hb1 y0 hy0=>Calls.arr (by simp) (key x0 b hx w1 (Tt hb' hb1) y0 hy0))))<|dN false (.bool uN) (vb rfl c13)<|aW (.bool uN)<|RQ.nil ?_;intro w16 Dq;have T:=Tt T Dq;refine ah<|wp_ret ?_
    cases hm
    exact (aV rfl rfl rfl ⟨rfl,T⟩)
   replace hm:=cT c13 hm;iterate 4 refine RQ.skip (oL 8 c13) ?_
   refine dN true (.bool true) (vb rfl c13)<|aW (.bool true)<|RQ.nil ?_;intro w18 EP;have T:=Tt T EP;refine ah<|wp_ret ?_
   cases hm
   exact (aV rfl rfl rfl ⟨rfl,T⟩)
end
end Go.Proofs.YtkfmlehhbanopaaGreat
