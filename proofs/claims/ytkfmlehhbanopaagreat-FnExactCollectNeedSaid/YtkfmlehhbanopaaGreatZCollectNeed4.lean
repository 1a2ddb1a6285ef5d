/- Lemmas of the proof of CollectNeed, part 4. No condition. -/
import Derived.Test.YtkfmlehhbanopaaGreatZCollectNeed3
namespace Go.Proofs.YtkfmlehhbanopaaGreat
set_option linter.unusedVariables false
set_option linter.unusedSimpArgs false
section
open Go.RowKit
set_option maxRecDepth 100000
noncomputable def yK (d0:ak):Option Bool:=
  ((vY d0).bind fun y7=>(bif y7 then ((oh (SizeOf.sizeOf d0) d0 (fun x0=>zo x0)).bind fun YK=>some (!YK)) else some false))
set_option maxHeartbeats 2000000 in
theorem Qa (d0:ak) (r:Bool) (hm:yK d0=some r) (v0:Value) (w:World) (hv0:St bf w v0 d0) :
    Calls Tryz.prog 90 #[v0] w fun e w'=>e=.returned (.bool r)∧Below w.heap.size w w':=by
  obtain ⟨lg,rfl,hRR0⟩:=hv0;obtain ⟨A1,n1,c1,A2,n2,c2,rfl,⟨h1,r1⟩,⟨h2,r2⟩⟩:=(bG hRR0);obtain ⟨rfl,q1⟩:=bI h1 r1;obtain ⟨rfl,q2⟩:=bI h2 r2;have T:=Below.refl w.heap.size w;unfold yK at hm;refine enter 10 Tryz.func90 rfl rfl rfl ?_;intro f hf;have s0:f 0=.agg #[.int .i64 d0.kind,.int .i64 d0.value,.slice A1 d0.data.length c1,.slice A2 d0.kids.length c2]:=hf 0 _ rfl;refine wp_seq<|bF rfl ?_;refine RL.box rfl s0 (fun w3 B4 hb5 LP=>?_);replace B4:dD w3 w.heap.size 38 #[.int .i64 d0.kind,.int .i64 d0.value,.slice A1 d0.data.length c1,.slice A2 d0.kids.length c2]:=B4;have GB4:w.heap.size≤w.heap.size:=T.size;have T:=Tt T hb5;refine Ez (.bool false)<|RL.nil<|ah<|wp_seq<|cZ rfl<|LC [.int .i64 d0.kind,.int .i64 d0.value,.slice A1 d0.data.length c1,.slice A2 d0.kids.length c2] rfl (cells4 (bV (aj B4 (i:=0) rfl)) (bV (aj B4 (i:=1) rfl)) (bV (aj B4 (i:=2) rfl)) (bV (aj B4 (i:=3) rfl))) ?_;obtain ⟨y7,e8,hm⟩:=bnd hm;refine RQ.call rfl (qZ rfl) (by kernel_rfl) (v:=.bool y7) (bel (K:=fun _=>True) fun w' hb'=>(NV d0 _ e8 _ w' (fE (R:=bf) (dR ⟨_,_,_,_,_,_,rfl,⟨aY.now aG h1 (dB) (Tt T hb'),r1⟩,⟨aY.now aK h2 (dB) (Tt T hb'),r2⟩⟩))))<|dF (.bool y7) ?_;rcases aB y7 with c9|c9
  ·replace hm:=cF c9 hm;iterate 3 refine RQ.skip (oL 5 c9) ?_
   refine dN false (.bool false) (vb rfl c9)<|aW (.bool false)<|RQ.nil ?_;intro w10 Bo;have T:=Tt T Bo;refine ah<|wp_ret ?_
   cases hm
   exact (aV rfl rfl rfl ⟨rfl,T⟩)
  replace hm:=cT c9 hm;refine RQ.y (bT 5 c9) (Y.wH (cs:=[.int .i64 d0.kind,.int .i64 d0.value,.slice A1 d0.data.length c1,.slice A2 d0.kids.length c2]) rfl (by kernel_rfl) (cells4 (bV (aj B4 (i:=0) rfl)) (bV (aj B4 (i:=1) rfl)) (bV (aj B4 (i:=2) rfl)) (bV (aj B4 (i:=3) rfl)))) ?_;obtain ⟨YK,e13,hm⟩:=bnd hm;refine RQ.call (bT 5 c9) (qV rfl rfl) (by kernel_rfl) (v:=.bool YK) (bel (K:=fun _=>True) fun w' hb'=>(SN (SizeOf.sizeOf d0) d0 (fun x0=>zo x0) _ e13 _ _ _ w' (fE (R:=bf) (dR ⟨_,_,_,_,_,_,rfl,⟨aY.now aG h1 (dB) (Tt T hb'),r1⟩,⟨aY.now aK h2 (dB) (Tt T hb'),r2⟩⟩)) (by kernel_rfl) (fun x0 b hx w1 hb1 y0 hy0=>Calls.arr (by simp) (Zj x0 _ hx _  w1 hy0 ))))<|RQ.y (bT 5 c9) (Y.not (b':=(!YK)) rfl rfl)<|dN true (.bool (!YK)) (vb rfl c9)<|aW (.bool (!YK))<|RQ.nil ?_;intro WQ PL;have T:=Tt T PL;refine ah<|wp_ret ?_
  cases hm
  exact (aV rfl rfl rfl ⟨rfl,T⟩)
noncomputable def vZ (d0:ak) (d1:Int):Option Bool:=
  ((oh (SizeOf.sizeOf d0) d0 (fun x0=>wP x0 d1)).bind fun y11=>some (!y11))
set_option maxHeartbeats 2000000 in
theorem NY (d0:ak) (d1:Int) (r:Bool) (hm:vZ d0 d1=some r) (v0:Value) (w:World) (hv0:St bf w v0 d0) :
    Calls Tryz.prog 91 #[v0,.int .i64 d1] w fun e w'=>e=.returned (.bool r)∧Below w.heap.size w w':=by
  obtain ⟨lg,rfl,hRR0⟩:=hv0;obtain ⟨A1,n1,c1,A2,n2,c2,rfl,⟨h1,r1⟩,⟨h2,r2⟩⟩:=(bG hRR0);obtain ⟨rfl,q1⟩:=bI h1 r1;obtain ⟨rfl,q2⟩:=bI h2 r2;have T:=Below.refl w.heap.size w;unfold vZ at hm;refine enter 9 Tryz.func91 rfl rfl rfl ?_;intro f hf;have s0:f 0=.agg #[.int .i64 d0.kind,.int .i64 d0.value,.slice A1 d0.data.length c1,.slice A2 d0.kids.length c2]:=hf 0 _ rfl;have s1:f 1=.int .i64 d1:=hf 1 _ rfl;refine wp_seq<|bF rfl ?_;refine RL.box rfl s0 (fun w3 B4 hb5 LP=>?_);replace B4:dD w3 w.heap.size 38 #[.int .i64 d0.kind,.int .i64 d0.value,.slice A1 d0.data.length c1,.slice A2 d0.kids.length c2]:=B4;have GB4:w.heap.size≤w.heap.size:=T.size;have T:=Tt T hb5;refine RL.box rfl s1 (fun w7 B8 Zc aj_=>?_);replace B8:dD w7 w3.heap.size 3 #[.int .i64 d1]:=B8;have GB8:w.heap.size≤w3.heap.size:=T.size;have YL:=Nat.ne_of_lt B4.lt;have B4:=aX B4 Zc;have T:=Tt T Zc;refine Ez (.bool false)<|RL.nil<|ah<|wp_seq<|cZ rfl<|LC [.int .i64 d0.kind,.int .i64 d0.value,.slice A1 d0.data.length c1,.slice A2 d0.kids.length c2] rfl (cells4 (bV (aj B4 (i:=0) rfl)) (bV (aj B4 (i:=1) rfl)) (bV (aj B4 (i:=2) rfl)) (bV (aj B4 (i:=3) rfl)))<|RQ.y rfl (Y.makeFunc (vals:=#[.pointer (some ⟨w3.heap.size,0,none⟩)]) (qZ rfl)) ?_;obtain ⟨y11,e12,hm⟩:=bnd hm;refine RQ.call rfl (qV rfl rfl) (by kernel_rfl) (v:=.bool y11) (bel (K:=fun _=>True) fun w' hb'=>(SN (SizeOf.sizeOf d0) d0 (fun x0=>wP x0 d1) _ e12 _ _ _ w' (fE (R:=bf) (dR ⟨_,_,_,_,_,_,rfl,⟨aY.now aG h1 (dB) (Tt T hb'),r1⟩,⟨aY.now aK h2 (dB) (Tt T hb'),r2⟩⟩)) (by kernel_rfl) (fun x0 b hx w1 hb1 y0 hy0=>Calls.arr (by simp) (WW x0 d1 _ hx _ _ w1 hy0 (Vw (R:=nR) (aX B8 (Tt hb' hb1)) rfl)))))<|RQ.y rfl (Y.not (b':=(!y11)) rfl rfl)<|aW (.bool (!y11))<|RQ.nil ?_;intro w13 LQ;have T:=Tt T LQ;refine ah<|wp_ret ?_
  cases hm
  exact (aV rfl rfl rfl ⟨rfl,T⟩)
noncomputable def wQ (d0:ak) (d1:dY):Option Bool:=
  ((BZ d0).bind fun y8=>(bif y8 then ((vZ d0 (d1.defs.length:Int)).bind fun y13=>some (!y13)) else some true))
set_option maxHeartbeats 2000000 in
theorem WX (d0:ak) (d1:dY) (r:Bool) (hm:wQ d0 d1=some r) (v0:Value) (v1:Value) (w:World) (hv0:St bf w v0 d0) (hv1:Pt iI w v1 d1) :
    Calls Tryz.prog 105 #[v0,v1] w fun e w'=>e=.returned (.bool r)∧Below w.heap.size w w':=by
  obtain ⟨lg,rfl,hRR0⟩:=hv0;obtain ⟨A1,n1,c1,A2,n2,c2,rfl,⟨h1,r1⟩,⟨h2,r2⟩⟩:=(bG hRR0);obtain ⟨rfl,q1⟩:=bI h1 r1;obtain ⟨rfl,q2⟩:=bI h2 r2;obtain ⟨P_,TU,SG,rfl,V9,KW,vk⟩:=hv1;have ahc:=KW;obtain ⟨A3,n3,c3,rfl,⟨h3,r3⟩⟩:=KW;obtain ⟨rfl,q3⟩:=bI h3 r3;have T:=Below.refl w.heap.size w;unfold wQ at hm;refine enter 15 Tryz.func105 rfl rfl rfl ?_;intro f hf;have s0:f 0=.agg #[.int .i64 d0.kind,.int .i64 d0.value,.slice A1 d0.data.length c1,.slice A2 d0.kids.length c2]:=hf 0 _ rfl;have s1:f 1=.pointer (some ⟨P_,TU,none⟩):=hf 1 _ rfl;refine wp_seq<|bF rfl ?_;refine RL.box rfl s0 (fun w4 B5 hb6 aha=>?_);replace B5:dD w4 w.heap.size 38 #[.int .i64 d0.kind,.int .i64 d0.value,.slice A1 d0.data.length c1,.slice A2 d0.kids.length c2]:=B5;have GB5:w.heap.size≤w.heap.size:=T.size;have T:=Tt T hb6;refine Ez (.bool false)<|RL.nil<|ah<|wp_seq<|cZ rfl<|LC [.int .i64 d0.kind,.int .i64 d0.value,.slice A1 d0.data.length c1,.slice A2 d0.kids.length c2] rfl (cells4 (bV (aj B5 (i:=0) rfl)) (bV (aj B5 (i:=1) rfl)) (bV (aj B5 (i:=2) rfl)) (bV (aj B5 (i:=3) rfl))) ?_;obtain ⟨y8,e9,hm⟩:=bnd hm;refine RQ.call rfl (qZ rfl) (by kernel_rfl) (v:=.bool y8) (bel (K:=fun _=>True) fun w' hb'=>(abr d0 _ e9 _ w' (fE (R:=bf) (dR ⟨_,_,_,_,_,_,rfl,⟨aY.now aG h1 (dB) (Tt T hb'),r1⟩,⟨aY.now aK h2 (dB) (Tt T hb'),r2⟩⟩))))<|RQ.y rfl (Y.not (b':=(!y8)) rfl rfl)<|dF (.bool (!y8)) ?_;rcases aB y8 with c10|c10
  ·replace hm:=cF c10 hm;iterate 6 refine RQ.skip (Gq (dj:=7) rfl (gQ rfl c10 rfl) rfl) ?_
   refine dN true (.bool true) (gQ rfl c10 rfl)<|aW (.bool true)<|RQ.nil ?_;intro uS Ht;have T:=Tt T Ht;refine ah<|wp_ret ?_
   cases hm
   exact (aV rfl rfl rfl ⟨rfl,T⟩)
  replace hm:=cT c10 hm;refine RQ.y (eG (dj:=7) rfl (gQ rfl c10 rfl)) (Y.wH (cs:=[.int .i64 d0.kind,.int .i64 d0.value,.slice A1 d0.data.length c1,.slice A2 d0.kids.length c2]) rfl (by kernel_rfl) (cells4 (bV (aj B5 (i:=0) rfl)) (bV (aj B5 (i:=1) rfl)) (bV (aj B5 (i:=2) rfl)) (bV (aj B5 (i:=3) rfl))))<|RQ.y (eG (dj:=7) rfl (gQ rfl c10 rfl)) (Y.fieldAddr (off:=0) s1 (by kernel_rfl))<|RQ.y (eG (dj:=7) rfl (gQ rfl c10 rfl)) (Y.load (v:=.slice A3 d1.defs.length c3) rfl (by kernel_rfl) (bV (cellT T (vk 0 _ rfl))))<|RQ.y (eG (dj:=7) rfl (gQ rfl c10 rfl)) (Y.len (by kernel_rfl) rfl) ?_;obtain ⟨y13,e14,hm⟩:=bnd hm;refine RQ.call (eG (dj:=7) rfl (gQ rfl c10 rfl)) (qV rfl rfl) (by kernel_rfl) (v:=.bool y13) (bel (K:=fun _=>True) fun w' hb'=>(NY d0 (d1.defs.length:Int) _ e14 _ w' (fE (R:=bf) (dR ⟨_,_,_,_,_,_,rfl,⟨aY.now aG h1 (dB) (Tt T hb'),r1⟩,⟨aY.now aK h2 (dB) (Tt T hb'),r2⟩⟩))))<|RQ.y (eG (dj:=7) rfl (gQ rfl c10 rfl)) (Y.not (b':=(!y13)) rfl rfl)<|dN false (.bool (!y13)) (gQ rfl c10 rfl)<|aW (.bool (!y13))<|RQ.nil ?_;intro w15 hb16;have T:=Tt T hb16;refine ah<|wp_ret ?_
  cases hm
  exact (aV rfl rfl rfl ⟨rfl,T⟩)
noncomputable def AA (d0:dY):Option Bool:=
  (bif (decide ((d0.defs.length:Int) < 1)) then some false else (bif (decide ((d0.defs.length:Int) > 24)) then some false else ((dL d0.defs (fun x0=>wQ x0 d0)).bind fun y8=>some (!y8))))
set_option maxHeartbeats 2000000 in
theorem aaw (d0:dY) (r:Bool) (hm:AA d0=some r) (v0:Value) (w:World) (hv0:St iI w v0 d0) :
    Calls Tryz.prog 87 #[v0] w fun e w'=>e=.returned (.bool r)∧Below w.heap.size w w':=by
  obtain ⟨lg,rfl,⟨A1,n1,c1,rfl,⟨h1,r1⟩⟩⟩:=hv0;obtain ⟨rfl,q1⟩:=bI h1 r1;have T:=Below.refl w.heap.size w;unfold AA at hm;refine enter 18 Tryz.func87 rfl rfl rfl ?_;intro f hf;have s0:f 0=.agg #[.slice A1 d0.defs.length c1]:=hf 0 _ rfl;refine wp_seq<|bF rfl ?_;refine RL.box rfl s0 (fun w2 B3 hb4 axz=>?_);replace B3:dD w2 w.heap.size 48 #[.slice A1 d0.defs.length c1]:=B3;have GB3:w.heap.size≤w.heap.size:=T.size;have T:=Tt T hb4;refine Ez (.bool false)<|RL.nil<|ah<|wp_seq<|wp_seq<|au rfl<|gy 0 rfl<|gZ (.slice A1 d0.defs.length c1) rfl (cu (aj B3 (i:=0) rfl))<|yH rfl<|iq (.bool (decide ((d0.defs.length:Int) < 1)))<|dF (.bool (decide ((d0.defs.length:Int) < 1))) ?_;rcases aB (decide ((d0.defs.length:Int) < 1)) with c6|c6
  ·replace hm:=cF c6 hm;have pc6:=of_decide_eq_false c6;refine RQ.y (bT 7 c6) (Y.fieldAddr (off:=0) rfl (by kernel_rfl))<|RQ.y (bT 7 c6) (Y.load (v:=.slice A1 d0.defs.length c1) rfl (by kernel_rfl) (cu (aj B3 (i:=0) rfl)))<|RQ.y (bT 7 c6) (Y.len (by kernel_rfl) rfl)<|RQ.y (bT 7 c6) (Y.dS (v:=.bool (decide ((d0.defs.length:Int) > 24))) rfl rfl rfl)<|dN false (.bool (decide ((d0.defs.length:Int) > 24))) (vb rfl c6)<|RQ.nil<|ah ?_;rcases aB (decide ((d0.defs.length:Int) > 24)) with c7|c7
   ·replace hm:=cF c7 hm;have pc7:=of_decide_eq_false c7;refine iH c7<|wp_skip<|ah<|wp_seq<|cZ rfl<|gy 0 rfl<|gZ (.slice A1 d0.defs.length c1) rfl (bV (aj B3 (i:=0) rfl))<|RQ.y rfl (Y.makeFunc (vals:=#[.pointer (some ⟨w.heap.size,0,none⟩)]) (qZ rfl)) ?_;obtain ⟨y8,e9,hm⟩:=bnd hm;refine RQ.call rfl (qV rfl rfl) (by kernel_rfl) (v:=.bool y8) (bel (K:=fun _=>True) fun w' hb'=>(j_ d0.defs (fun x0=>wQ x0 d0) _ e9 _ _ _ w' (eY aK h1 r1 (Tt T hb')) (by kernel_rfl) (fun x0 b hx w1 hb1 y0 hy0=>Calls.arr (by simp) (WX x0 d0 _ hx _ _ w1 hy0 (Vw (R:=iI) (aX B3 (Tt hb' hb1)) ⟨_,_,_,rfl,⟨aY.now aK h1 (dB) (Tt (Tt T hb') hb1),r1⟩⟩)))))<|RQ.y rfl (Y.not (b':=(!y8)) rfl rfl)<|aW (.bool (!y8))<|RQ.nil ?_;intro w10 Bo;have T:=Tt T Bo;refine ah<|wp_ret ?_
    cases hm
    exact (aV rfl rfl rfl ⟨rfl,T⟩)
   replace hm:=cT c7 hm;have pc7:=of_decide_eq_true c7;refine ig c7<|wp_seq<|au rfl<|aW (.bool false)<|RQ.nil<|ah<|wp_ret ?_
   cases hm
   exact (aF (aV rfl rfl rfl ⟨rfl,T⟩))
  replace hm:=cT c6 hm;have pc6:=of_decide_eq_true c6;iterate 4 refine RQ.skip (oL 7 c6) ?_
  refine dN true (.bool true) (vb rfl c6)<|RQ.nil<|ah<|dX rfl rfl<|wp_seq<|au rfl<|aW (.bool false)<|RQ.nil<|ah<|wp_ret ?_
  cases hm
  exact (aF (aV rfl rfl rfl ⟨rfl,T⟩))
noncomputable def rP (d0:ak):Option Bool:=
  ((yK d0).bind fun y7=>some (!y7))
set_option maxHeartbeats 2000000 in
theorem SQ (d0:ak) (r:Bool) (hm:rP d0=some r) (v0:Value) (w:World) (hv0:St bf w v0 d0) :
    Calls Tryz.prog 89 #[v0] w fun e w'=>e=.returned (.bool r)∧Below w.heap.size w w':=by
  obtain ⟨lg,rfl,hRR0⟩:=hv0;obtain ⟨A1,n1,c1,A2,n2,c2,rfl,⟨h1,r1⟩,⟨h2,r2⟩⟩:=(bG hRR0);obtain ⟨rfl,q1⟩:=bI h1 r1;obtain ⟨rfl,q2⟩:=bI h2 r2;have T:=Below.refl w.heap.size w;unfold rP at hm;refine enter 6 Tryz.func89 rfl rfl rfl ?_;intro f hf;have s0:f 0=.agg #[.int .i64 d0.kind,.int .i64 d0.value,.slice A1 d0.data.length c1,.slice A2 d0.kids.length c2]:=hf 0 _ rfl;refine wp_seq<|bF rfl ?_;refine RL.box rfl s0 (fun w3 B4 hb5 LP=>?_);replace B4:dD w3 w.heap.size 38 #[.int .i64 d0.kind,.int .i64 d0.value,.slice A1 d0.data.length c1,.slice A2 d0.kids.length c2]:=B4;have GB4:w.heap.size≤w.heap.size:=T.size;have T:=Tt T hb5;refine Ez (.bool false)<|RL.nil<|ah<|wp_seq<|cZ rfl<|LC [.int .i64 d0.kind,.int .i64 d0.value,.slice A1 d0.data.length c1,.slice A2 d0.kids.length c2] rfl (cells4 (bV (aj B4 (i:=0) rfl)) (bV (aj B4 (i:=1) rfl)) (bV (aj B4 (i:=2) rfl)) (bV (aj B4 (i:=3) rfl))) ?_;obtain ⟨y7,e8,hm⟩:=bnd hm;refine RQ.call rfl (qZ rfl) (by kernel_rfl) (v:=.bool y7) (bel (K:=fun _=>True) fun w' hb'=>(Qa d0 _ e8 _ w' (fE (R:=bf) (dR ⟨_,_,_,_,_,_,rfl,⟨aY.now aG h1 (dB) (Tt T hb'),r1⟩,⟨aY.now aK h2 (dB) (Tt T hb'),r2⟩⟩))))<|RQ.y rfl (Y.not (b':=(!y7)) rfl rfl)<|aW (.bool (!y7))<|RQ.nil ?_;intro w9 Au;have T:=Tt T Au;refine ah<|wp_ret ?_
  cases hm
  exact (aV rfl rfl rfl ⟨rfl,T⟩)
noncomputable def vH (d0:dY):Option Bool:=
  ((AA d0).bind fun y6=>(bif y6 then ((dL d0.defs (fun x0=>rP x0)).bind fun y11=>some (!y11)) else some false))
set_option maxHeartbeats 2000000 in
theorem Wq (d0:dY) (r:Bool) (hm:vH d0=some r) (v0:Value) (w:World) (hv0:St iI w v0 d0) :
    Calls Tryz.prog 57 #[v0] w fun e w'=>e=.returned (.bool r)∧Below w.heap.size w w':=by
  obtain ⟨lg,rfl,⟨A1,n1,c1,rfl,⟨h1,r1⟩⟩⟩:=hv0;obtain ⟨rfl,q1⟩:=bI h1 r1;have T:=Below.refl w.heap.size w;unfold vH at hm;refine enter 11 Tryz.func57 rfl rfl rfl ?_;intro f hf;have s0:f 0=.agg #[.slice A1 d0.defs.length c1]:=hf 0 _ rfl;refine wp_seq<|bF rfl ?_;refine RL.box rfl s0 (fun w2 B3 hb4 axz=>?_);replace B3:dD w2 w.heap.size 48 #[.slice A1 d0.defs.length c1]:=B3;have GB3:w.heap.size≤w.heap.size:=T.size;have T:=Tt T hb4;refine Ez (.bool false)<|RL.nil<|ah<|wp_seq<|cZ rfl<|LC [.slice A1 d0.defs.length c1] rfl (FD (bV (aj B3 (i:=0) rfl))) ?_;obtain ⟨y6,e7,hm⟩:=bnd hm;refine RQ.call rfl (qZ rfl) (by kernel_rfl) (v:=.bool y6) (bel (K:=fun _=>True) fun w' hb'=>(aaw d0 _ e7 _ w' (fE (R:=iI) ⟨_,_,_,rfl,⟨aY.now aK h1 (dB) (Tt T hb'),r1⟩⟩)))<|dF (.bool y6) ?_;rcases aB y6 with c8|c8
  ·replace hm:=cF c8 hm;iterate 4 refine RQ.skip (oL 5 c8) ?_
   refine dN false (.bool false) (vb rfl c8)<|aW (.bool false)<|RQ.nil ?_;intro w9 Au;have T:=Tt T Au;refine ah<|wp_ret ?_
   cases hm
   exact (aV rfl rfl rfl ⟨rfl,T⟩)
  replace hm:=cT c8 hm;refine RQ.y (bT 5 c8) (Y.fieldAddr (off:=0) rfl (by kernel_rfl))<|RQ.y (bT 5 c8) (Y.load (v:=.slice A1 d0.defs.length c1) rfl (by kernel_rfl) (bV (aj B3 (i:=0) rfl))) ?_;obtain ⟨y11,e12,hm⟩:=bnd hm;refine RQ.call (bT 5 c8) (qV rfl rfl) (by kernel_rfl) (v:=.bool y11) (bel (K:=fun _=>True) fun w' hb'=>(j_ d0.defs (fun x0=>rP x0) _ e12 _ _ _ w' (eY aK h1 r1 (Tt T hb')) (by kernel_rfl) (fun x0 b hx w1 hb1 y0 hy0=>Calls.arr (by simp) (SQ x0 _ hx _  w1 hy0 ))))<|RQ.y (bT 5 c8) (Y.not (b':=(!y11)) rfl rfl)<|dN true (.bool (!y11)) (vb rfl c8)<|aW (.bool (!y11))<|RQ.nil ?_;intro w13 LQ;have T:=Tt T LQ;refine ah<|wp_ret ?_
  cases hm
  exact (aV rfl rfl rfl ⟨rfl,T⟩)
noncomputable def iM (d0:aN) (d1:Int):Option Bool:=
  (bif (decide (d1 ≥ 0)) then some (decide (d1 < (d0.heap.length:Int))) else some false)
set_option maxHeartbeats 2000000 in
theorem o9 (d0:aN) (d1:Int) (r:Bool) (hm:iM d0 d1=some r) (v0:Value) (w:World) (hv0:Pt jQ w v0 d0) :
    Calls Tryz.prog 95 #[v0,.int .i64 d1] w fun e w'=>e=.returned (.bool r)∧Below w.heap.size w w':=by
  obtain ⟨qg,qh,lg,rfl,qm,jR,eu⟩:=hv0;have qB:=jR;obtain ⟨A1,n1,c1,A2,n2,c2,A3,n3,c3,A4,n4,c4,A5,n5,c5,rfl,⟨h1,r1⟩,⟨h2,r2⟩,⟨h3,r3⟩,⟨h4,r4⟩,⟨h5,r5⟩⟩:=jR;obtain ⟨rfl,q1⟩:=bI h1 r1;obtain ⟨rfl,q2⟩:=bI h2 r2;obtain ⟨rfl,q3⟩:=bI h3 r3;obtain ⟨rfl,q4⟩:=bI h4 r4;obtain ⟨rfl,q5⟩:=bI h5 r5;have T:=Below.refl w.heap.size w;unfold iM at hm;refine enter 16 Tryz.func95 rfl rfl rfl ?_;intro f hf;have s0:f 0=.pointer (some ⟨qg,qh,none⟩):=hf 0 _ rfl;have s1:f 1=.int .i64 d1:=hf 1 _ rfl;refine wp_seq<|au rfl<|aW (.bool false)<|RQ.nil<|ah<|wp_seq<|au rfl<|aT s1<|iq (.bool (decide (d1 ≥ 0)))<|dF (.bool (decide (d1 ≥ 0))) ?_;rcases aB (decide (d1 ≥ 0)) with c6|c6
  ·replace hm:=cF c6 hm;have pc6:=of_decide_eq_false c6;iterate 7 refine RQ.skip (oL 7 c6) ?_
   refine dN false (.bool false) (vb rfl c6)<|aW (.bool false)<|RQ.nil<|ah<|wp_ret ?_
   cases hm
   exact (aV rfl rfl rfl ⟨rfl,T⟩)
  replace hm:=cT c6 hm;have pc6:=of_decide_eq_true c6;refine RQ.y (bT 7 c6) (Y.move (v:=.int .i64 d1) s1)<|RQ.y (bT 7 c6) (Y.move (v:=.pointer (some ⟨qg,qh,none⟩)) s0)<|RQ.y (bT 7 c6) (Y.nilCheck rfl)<|RQ.y (bT 7 c6) (Y.fieldAddr (off:=6) rfl (by kernel_rfl))<|RQ.y (bT 7 c6) (Y.load (v:=.slice A5 d0.heap.length c5) rfl (by kernel_rfl) (cu (cellT T (eu 6 _ rfl))))<|RQ.y (bT 7 c6) (Y.len (by kernel_rfl) rfl)<|RQ.y (bT 7 c6) (Y.dS (v:=.bool (decide (d1 < (d0.heap.length:Int)))) rfl rfl rfl)<|dN true (.bool (decide (d1 < (d0.heap.length:Int)))) (vb rfl c6)<|aW (.bool (decide (d1 < (d0.heap.length:Int))))<|RQ.nil<|ah<|wp_ret ?_
  cases hm
  exact (aV rfl rfl rfl ⟨rfl,T⟩)
noncomputable def jS (d0:Int) (d1:aN):Option Bool:=
  ((iM d1 d0).bind fun y7=>some (!y7))
set_option maxHeartbeats 2000000 in
theorem LX (d0:Int) (d1:aN) (r:Bool) (hm:jS d0 d1=some r) (v1:Value) (w:World) (hv1:Pt (aLc jQ) w v1 d1) :
    Calls Tryz.prog 94 #[.int .i64 d0,v1] w fun e w'=>e=.returned (.bool r)∧Below w.heap.size w w':=by
  obtain ⟨P_,TU,SG,rfl,V9,KW,vk⟩:=hv1;have ahc:=KW;obtain ⟨pb1,po1,baW,rfl,aYO,aQS,aYP⟩:=KW;have aYQ:=aQS;obtain ⟨A2,n2,c2,A3,n3,c3,A4,n4,c4,A5,n5,c5,A6,n6,c6,rfl,⟨h2,r2⟩,⟨h3,r3⟩,⟨h4,r4⟩,⟨h5,r5⟩,⟨h6,r6⟩⟩:=aQS;obtain ⟨rfl,q2⟩:=bI h2 r2;obtain ⟨rfl,q3⟩:=bI h3 r3;obtain ⟨rfl,q4⟩:=bI h4 r4;obtain ⟨rfl,q5⟩:=bI h5 r5;obtain ⟨rfl,q6⟩:=bI h6 r6;have T:=Below.refl w.heap.size w;unfold jS at hm;refine enter 8 Tryz.func94 rfl rfl rfl ?_;intro f hf;have s0:f 0=.int .i64 d0:=hf 0 _ rfl;have s1:f 1=.pointer (some ⟨P_,TU,none⟩):=hf 1 _ rfl;refine wp_seq<|au rfl<|aW (.bool false)<|RQ.nil<|ah<|wp_seq<|cZ rfl<|gZ (.pointer (some ⟨pb1,po1,none⟩)) s1 (bV (cellT T (vk 0 _ rfl)))<|aT s0 ?_;obtain ⟨y7,e8,hm⟩:=bnd hm;refine RQ.call rfl (qV rfl rfl) (by kernel_rfl) (v:=.bool y7) (bel (K:=fun _=>True) fun w' hb'=>(o9 d1 d0 _ e8 _ w' (l9 fP aYO aYQ aYP (Tt T hb'))))<|RQ.y rfl (Y.not (b':=(!y7)) rfl rfl)<|aW (.bool (!y7))<|RQ.nil ?_;intro w9 Au;have T:=Tt T Au;refine ah<|wp_ret ?_
  cases hm
  exact (aV rfl rfl rfl ⟨rfl,T⟩)
noncomputable def iG (d0:aN) (d1:dY) (d2:ay):Option Bool:=
  ((yK (⟨d2.term.kind,d2.term.value,d2.term.data,d2.term.kids⟩:ak)).bind fun y22=>(bif y22 then ((vZ (⟨d2.term.kind,d2.term.value,d2.term.data,d2.term.kids⟩:ak) (d1.defs.length:Int)).bind fun y27=>(bif y27 then ((jC (SizeOf.sizeOf (⟨d2.term.kind,d2.term.value,d2.term.data,d2.term.kids⟩:ak)) (⟨d2.term.kind,d2.term.value,d2.term.data,d2.term.kids⟩:ak) (d2.env.length:Int)).bind fun y32=>(bif y32 then (bif (decide ((d2.env.length:Int) > 256)) then some false else ((bg d2.env (fun x0=>jS x0 d0)).bind fun y40=>some (!y40))) else some false)) else some false)) else some false))
set_option maxHeartbeats 2000000 in
theorem qG (d0:aN) (d1:dY) (d2:ay) (r:Bool) (hm:iG d0 d1 d2=some r) (v0:Value) (v1:Value) (v2:Value) (w:World) (hv0:Pt jQ w v0 d0) (hv1:St iI w v1 d1) (hv2:St dM w v2 d2) :
    Calls Tryz.prog 58 #[v0,v1,v2] w fun e w'=>e=.returned (.bool r)∧Below w.heap.size w w':=by
  obtain ⟨qg,qh,lg,rfl,qm,jR,eu⟩:=hv0;have qB:=jR;obtain ⟨A1,n1,c1,A2,n2,c2,A3,n3,c3,A4,n4,c4,A5,n5,c5,rfl,⟨h1,r1⟩,⟨h2,r2⟩,⟨h3,r3⟩,⟨h4,r4⟩,⟨h5,r5⟩⟩:=jR;obtain ⟨rfl,q1⟩:=bI h1 r1;obtain ⟨rfl,q2⟩:=bI h2 r2;obtain ⟨rfl,q3⟩:=bI h3 r3;obtain ⟨rfl,q4⟩:=bI h4 r4;obtain ⟨rfl,q5⟩:=bI h5 r5;obtain ⟨SG,rfl,⟨A6,n6,c6,rfl,⟨h6,r6⟩⟩⟩:=hv1;obtain ⟨rfl,q6⟩:=bI h6 r6;obtain ⟨aQT,rfl,⟨A7,n7,c7,A8,n8,c8,A9,n9,c9,rfl,⟨h7,r7⟩,⟨h8,r8⟩,⟨h9,r9⟩⟩⟩:=hv2;obtain ⟨rfl,q7⟩:=bI h7 r7;obtain ⟨rfl,q8⟩:=bI h8 r8;obtain ⟨rfl,q9⟩:=bI h9 r9;have T:=Below.refl w.heap.size w;unfold iG at hm;refine enter 40 Tryz.func58 rfl rfl rfl ?_;intro f hf;have s0:f 0=.pointer (some ⟨qg,qh,none⟩):=hf 0 _ rfl;have s1:f 1=.agg #[.slice A6 d1.defs.length c6]:=hf 1 _ rfl;have s2:f 2=.agg #[.int .i64 d2.term.kind,.int .i64 d2.term.value,.slice A7 d2.term.data.length c7,.slice A8 d2.term.kids.length c8,.slice A9 d2.env.length c9]:=hf 2 _ rfl;refine wp_seq<|bF rfl ?_;refine RL.box rfl s0 (fun w10 B11 Ht apY=>?_);replace B11:dD w10 w.heap.size 62 #[.pointer (some ⟨qg,qh,none⟩)]:=B11;have aLr:w.heap.size≤w.heap.size:=T.size;have T:=Tt T Ht;refine RL.box rfl s1 (fun WQ B15 hb16 aJd=>?_);replace B15:dD WQ w10.heap.size 48 #[.slice A6 d1.defs.length c6]:=B15;have aYR:w.heap.size≤w10.heap.size:=T.size;have NZ:=Nat.ne_of_lt B11.lt;have B11:=aX B11 hb16;have T:=Tt T hb16;refine RL.box rfl s2 (fun w18 YM anD ahd=>?_);replace YM:dD w18 WQ.heap.size 40 #[.int .i64 d2.term.kind,.int .i64 d2.term.value,.slice A7 d2.term.data.length c7,.slice A8 d2.term.kids.length c8,.slice A9 d2.env.length c9]:=YM;have aYS:w.heap.size≤WQ.heap.size:=T.size;have aLs:=Nat.ne_of_lt B11.lt;have aLt:=Nat.ne_of_lt B15.lt;have B11:=aX B11 anD;have B15:=aX B15 anD;have T:=Tt T anD;refine Ez (.bool false)<|RL.nil<|ah<|wp_seq<|wp_seq<|cZ rfl<|gy 0 rfl<|LC [.int .i64 d2.term.kind,.int .i64 d2.term.value,.slice A7 d2.term.data.length c7,.slice A8 d2.term.kids.length c8] rfl (cells4 (bV (aj YM (i:=0) rfl)) (bV (aj YM (i:=1) rfl)) (bV (aj YM (i:=2) rfl)) (bV (aj YM (i:=3) rfl))) ?_;obtain ⟨y22,e23,hm⟩:=bnd hm;refine RQ.call rfl (qZ rfl) (by kernel_rfl) (v:=.bool y22) (bel (K:=fun _=>True) fun w' hb'=>(Qa (⟨d2.term.kind,d2.term.value,d2.term.data,d2.term.kids⟩:ak) _ e23 _ w' (fE (R:=bf) (dR ⟨_,_,_,_,_,_,rfl,⟨aY.now aG h7 (dB) (Tt T hb'),r7⟩,⟨aY.now aK h8 (dB) (Tt T hb'),r8⟩⟩))))<|RQ.y rfl (Y.not (b':=(!y22)) rfl rfl)<|dF (.bool (!y22)) ?_
  rcases aB y22 with c24|c24
  ·replace hm:=cF c24 hm;iterate 7 refine RQ.skip (Gq (dj:=11) rfl (gQ rfl c24 rfl) rfl) ?_
   refine dN true (.bool true) (gQ rfl c24 rfl)<|dF (.bool true) ?_;iterate 7 refine RQ.skip (zZ 20) ?_
   refine dN true (.bool true) rfl<|dF (.bool true) ?_;iterate 4 refine RQ.skip (zZ 29) ?_
   refine dN true (.bool true) rfl<|RQ.nil ?_;intro w25 abl;have B11:=aX B11 abl;have YM:=aX YM abl;have T:=Tt T abl;refine ah<|dX rfl rfl<|wp_seq<|au rfl<|aW (.bool false)<|RQ.nil<|ah<|wp_ret ?_
   cases hm
   exact (aF (aV rfl rfl rfl ⟨rfl,T⟩))
  replace hm:=cT c24 hm;refine RQ.y (eG (dj:=11) rfl (gQ rfl c24 rfl)) (Y.fieldAddr (off:=0) rfl (by kernel_rfl))<|RQ.y (eG (dj:=11) rfl (gQ rfl c24 rfl)) (Y.wH (cs:=[.int .i64 d2.term.kind,.int .i64 d2.term.value,.slice A7 d2.term.data.length c7,.slice A8 d2.term.kids.length c8]) rfl (by kernel_rfl) (cells4 (bV (aj YM (i:=0) rfl)) (bV (aj YM (i:=1) rfl)) (bV (aj YM (i:=2) rfl)) (bV (aj YM (i:=3) rfl))))<|RQ.y (eG (dj:=11) rfl (gQ rfl c24 rfl)) (Y.fieldAddr (off:=0) rfl (by kernel_rfl))<|RQ.y (eG (dj:=11) rfl (gQ rfl c24 rfl)) (Y.load (v:=.slice A6 d1.defs.length c6) rfl (by kernel_rfl) (bV (aj B15 (i:=0) rfl)))<|RQ.y (eG (dj:=11) rfl (gQ rfl c24 rfl)) (Y.len (by kernel_rfl) rfl) ?_;obtain ⟨y27,e28,hm⟩:=bnd hm;refine RQ.call (eG (dj:=11) rfl (gQ rfl c24 rfl)) (qV rfl rfl) (by kernel_rfl) (v:=.bool y27) (bel (K:=fun _=>True) fun w' hb'=>(NY (⟨d2.term.kind,d2.term.value,d2.term.data,d2.term.kids⟩:ak) (d1.defs.length:Int) _ e28 _ w' (fE (R:=bf) (dR ⟨_,_,_,_,_,_,rfl,⟨aY.now aG h7 (dB) (Tt T hb'),r7⟩,⟨aY.now aK h8 (dB) (Tt T hb'),r8⟩⟩))))<|RQ.y (eG (dj:=11) rfl (gQ rfl c24 rfl)) (Y.not (b':=(!y27)) rfl rfl)<|dN false (.bool (!y27)) (gQ rfl c24 rfl)<|dF (.bool (!y27)) ?_;rcases aB y27 with c29|c29
  ·replace hm:=cF c29 hm;iterate 7 refine RQ.skip (Gq (dj:=20) rfl (gQ rfl c29 rfl) rfl) ?_
   refine dN true (.bool true) (gQ rfl c29 rfl)<|dF (.bool true) ?_;iterate 4 refine RQ.skip (zZ 29) ?_
   refine dN true (.bool true) rfl<|RQ.nil ?_;intro w30 KY;have B11:=aX B11 KY;have YM:=aX YM KY;have T:=Tt T KY;refine ah<|dX rfl rfl<|wp_seq<|au rfl<|aW (.bool false)<|RQ.nil<|ah<|wp_ret ?_
   cases hm
   exact (aF (aV rfl rfl rfl ⟨rfl,T⟩))
  replace hm:=cT c29 hm;refine RQ.y (eG (dj:=20) rfl (gQ rfl c29 rfl)) (Y.fieldAddr (off:=0) rfl (by kernel_rfl))<|RQ.y (eG (dj:=20) rfl (gQ rfl c29 rfl)) (Y.wH (cs:=[.int .i64 d2.term.kind,.int .i64 d2.term.value,.slice A7 d2.term.data.length c7,.slice A8 d2.term.kids.length c8]) rfl (by kernel_rfl) (cells4 (bV (aj YM (i:=0) rfl)) (bV (aj YM (i:=1) rfl)) (bV (aj YM (i:=2) rfl)) (bV (aj YM (i:=3) rfl))))<|RQ.y (eG (dj:=20) rfl (gQ rfl c29 rfl)) (Y.fieldAddr (off:=4) rfl (by kernel_rfl))<|RQ.y (eG (dj:=20) rfl (gQ rfl c29 rfl)) (Y.load (v:=.slice A9 d2.env.length c9) rfl (by kernel_rfl) (bV (aj YM (i:=4) rfl)))<|RQ.y (eG (dj:=20) rfl (gQ rfl c29 rfl)) (Y.len (by kernel_rfl) rfl) ?_;obtain ⟨y32,e33,hm⟩:=bnd hm;refine RQ.call (eG (dj:=20) rfl (gQ rfl c29 rfl)) (qV rfl rfl) (by kernel_rfl) (v:=.bool y32) (bel (K:=fun _=>True) fun w' hb'=>(KX (SizeOf.sizeOf (⟨d2.term.kind,d2.term.value,d2.term.data,d2.term.kids⟩:ak)) (⟨d2.term.kind,d2.term.value,d2.term.data,d2.term.kids⟩:ak) (d2.env.length:Int) _ e33 _ w' (fE (R:=bf) (dR ⟨_,_,_,_,_,_,rfl,⟨aY.now aG h7 (dB) (Tt T hb'),r7⟩,⟨aY.now aK h8 (dB) (Tt T hb'),r8⟩⟩))))<|RQ.y (eG (dj:=20) rfl (gQ rfl c29 rfl)) (Y.not (b':=(!y32)) rfl rfl)<|dN false (.bool (!y32)) (gQ rfl c29 rfl)<|dF (.bool (!y32)) ?_;rcases aB y32 with c34|c34
  ·replace hm:=cF c34 hm;iterate 4 refine RQ.skip (Gq (dj:=29) rfl (gQ rfl c34 rfl) rfl) ?_
   refine dN true (.bool true) (gQ rfl c34 rfl)<|RQ.nil ?_;intro w35 Jl;have B11:=aX B11 Jl;have YM:=aX YM Jl;have T:=Tt T Jl;refine ah<|dX rfl rfl<|wp_seq<|au rfl<|aW (.bool false)<|RQ.nil<|ah<|wp_ret ?_
   cases hm
   exact (aF (aV rfl rfl rfl ⟨rfl,T⟩))
  replace hm:=cT c34 hm;refine RQ.y (eG (dj:=29) rfl (gQ rfl c34 rfl)) (Y.fieldAddr (off:=4) rfl (by kernel_rfl))<|RQ.y (eG (dj:=29) rfl (gQ rfl c34 rfl)) (Y.load (v:=.slice A9 d2.env.length c9) rfl (by kernel_rfl) (bV (aj YM (i:=4) rfl)))<|RQ.y (eG (dj:=29) rfl (gQ rfl c34 rfl)) (Y.len (by kernel_rfl) rfl)<|RQ.y (eG (dj:=29) rfl (gQ rfl c34 rfl)) (Y.dS (v:=.bool (decide ((d2.env.length:Int) > 256))) rfl rfl rfl)<|dN false (.bool (decide ((d2.env.length:Int) > 256))) (gQ rfl c34 rfl)<|RQ.nil ?_;intro w37 afX;have B11:=aX B11 afX;have YM:=aX YM afX;have T:=Tt T afX;refine ah ?_;rcases aB (decide ((d2.env.length:Int) > 256)) with Vy|Vy
  ·replace hm:=cF Vy hm;have pc39:=of_decide_eq_false Vy;refine iH Vy<|wp_skip<|ah<|wp_seq<|cZ rfl<|gy 4 rfl<|gZ (.slice A9 d2.env.length c9) rfl (bV (aj YM (i:=4) rfl))<|RQ.y rfl (Y.makeFunc (vals:=#[.pointer (some ⟨w.heap.size,0,none⟩)]) (qZ rfl)) ?_;obtain ⟨y40,e41,hm⟩:=bnd hm;refine RQ.call rfl (qV rfl rfl) (by kernel_rfl) (v:=.bool y40) (bel (K:=fun _=>True) fun w' hb'=>(bP d2.env (fun x0=>jS x0 d0) _ e41 _ _ _ w' (eY aG h9 r9 (Tt T hb')) (by kernel_rfl) (fun x0 b hx w1 hb1=>Calls.arr (by simp) (LX x0 d0 _ hx  _ w1  (Vw (R:=(aLc jQ)) (aX B11 (Tt hb' hb1)) (aGA (l9 fP qm qB eu (Tt (Tt T hb') hb1))))))))<|RQ.y rfl (Y.not (b':=(!y40)) rfl rfl)<|aW (.bool (!y40))<|RQ.nil ?_;intro w42 WR;have T:=Tt T WR;refine ah<|wp_ret ?_
   cases hm
   exact (aV rfl rfl rfl ⟨rfl,T⟩)
  replace hm:=cT Vy hm;have pc39:=of_decide_eq_true Vy;refine ig Vy<|wp_seq<|au rfl<|aW (.bool false)<|RQ.nil<|ah<|wp_ret ?_
  cases hm
  exact (aF (aV rfl rfl rfl ⟨rfl,T⟩))
noncomputable def jd (d0:ay):Option Bool:=
  some ((d0.env.length:Int)==(d0.term.kids.length:Int))
noncomputable def nK (d0:ay) (eU:Int→Option Bool) (K1:Option Bool) (i12:Int):Option Bool:=
  (bif (decide (i12 < (d0.term.kids.length:Int))) then ((fC d0.term.kids i12).bind fun x15=>(bif (x15.kind != 1) then some false else (bif (x15.value != i12) then some false else (eU (i12+1))))) else (K1))
noncomputable def gB (d0:ay) (K1:Option Bool):Nat→Int→Option Bool
  |0,_=>none
  |g+1,i12=>nK d0 (gB d0 K1 g) K1 i12
noncomputable def qH (d0:ay):Option Bool:=
  (bif (d0.term.kind==4) then some true else (bif (d0.term.kind==2) then some true else (bif (d0.term.kind==8) then (gB d0 (jd d0) (d0.term.kids.length+1) 0) else some false)))
set_option maxHeartbeats 2000000 in
theorem QE (d0:ay) (r:Bool) (hm:qH d0=some r) (v0:Value) (w:World) (hv0:St dM w v0 d0) :
    Calls Tryz.prog 59 #[v0] w fun e w'=>e=.returned (.bool r)∧Below w.heap.size w w':=by
  obtain ⟨lg,rfl,⟨A1,n1,c1,A2,n2,c2,A3,n3,c3,rfl,⟨h1,r1⟩,⟨h2,r2⟩,⟨h3,r3⟩⟩⟩:=hv0;obtain ⟨rfl,q1⟩:=bI h1 r1;obtain ⟨rfl,q2⟩:=bI h2 r2;obtain ⟨rfl,q3⟩:=bI h3 r3;have T:=Below.refl w.heap.size w;unfold qH at hm;refine enter 40 Tryz.func59 rfl rfl rfl ?_;intro f hf;have s0:f 0=.agg #[.int .i64 d0.term.kind,.int .i64 d0.term.value,.slice A1 d0.term.data.length c1,.slice A2 d0.term.kids.length c2,.slice A3 d0.env.length c3]:=hf 0 _ rfl;refine wp_seq<|bF rfl ?_;refine RL.box rfl s0 (fun w4 B5 hb6 aha=>?_);replace B5:dD w4 w.heap.size 40 #[.int .i64 d0.term.kind,.int .i64 d0.term.value,.slice A1 d0.term.data.length c1,.slice A2 d0.term.kids.length c2,.slice A3 d0.env.length c3]:=B5;have GB5:w.heap.size≤w.heap.size:=T.size;have T:=Tt T hb6;refine Ez (.bool false)<|RL.nil<|ah<|wp_seq<|wp_seq<|au rfl<|gy 0 rfl<|gy 0 rfl<|gZ (.int .i64 d0.term.kind) rfl (cu (aj B5 (i:=0) rfl))<|RQ.nil<|ah<|wp_block<|wp_seq<|wp_seq<|au rfl<|iq (.bool (d0.term.kind==4))<|aW (.bool (d0.term.kind==4))<|RQ.nil<|ah ?_;rcases aB (d0.term.kind==4) with c8|c8
  ·replace hm:=cF c8 hm;refine iH c8<|au rfl<|iq (.bool (d0.term.kind==2))<|aW (.bool (d0.term.kind==2))<|RQ.nil<|ah ?_;rcases aB (d0.term.kind==2) with c9|c9
   ·replace hm:=cF c9 hm;refine iH c9<|wp_seq<|au rfl<|iq (.bool (d0.term.kind==8))<|aW (.bool (d0.term.kind==8))<|RQ.nil<|ah ?_;rcases aB (d0.term.kind==8) with c10|c10
    ·replace hm:=cF c10 hm;refine iH c10<|wp_skip ?_;refine eF (ah ?_);refine wp_seq<|au rfl<|aW (.bool false)<|RQ.nil<|ah<|wp_ret ?_
     cases hm
     exact (aV rfl rfl rfl ⟨rfl,T⟩)
    replace hm:=cT c10 hm;refine ig c10<|wp_seq<|wp_seq<|au rfl<|gy 0 rfl<|gy 3 rfl<|gZ (.slice A2 d0.term.kids.length c2) rfl (cu (aj B5 (i:=3) rfl))<|yH rfl<|dF (.int .i64 0)<|RQ.nil<|ah<|wp_block ?_;obtain ⟨K1,hK1,hm⟩ :∃K,K=(jd d0)∧gB d0 K (d0.term.kids.length+1) 0=some r:=⟨_,rfl,hm⟩;refine dG (fun g f w'=>∃(i12:Int),f 1=.pointer (some ⟨w.heap.size,0,none⟩)∧f 15=.slice A2 d0.term.kids.length c2∧f 16=.int .i64 (d0.term.kids.length:Int)∧f 17=.int .i64 i12∧0≤i12∧dD w' w.heap.size 40 #[.int .i64 d0.term.kind,.int .i64 d0.term.value,.slice A1 d0.term.data.length c1,.slice A2 d0.term.kids.length c2,.slice A3 d0.env.length c3]∧Below w.heap.size w w'∧gB d0 K1 g i12=some r) 1 (fun f w'=>f 1=.pointer (some ⟨w.heap.size,0,none⟩)∧dD w' w.heap.size 40 #[.int .i64 d0.term.kind,.int .i64 d0.term.value,.slice A1 d0.term.data.length c1,.slice A2 d0.term.kids.length c2,.slice A3 d0.env.length c3]∧Below w.heap.size w w'∧jd d0  = some r) (d0.term.kids.length+1) ⟨0,rfl,rfl,rfl,rfl,(by omega),B5,T,hm⟩ ?_ ?_
    ·rintro f uS ⟨BO,B5,T,hm⟩;unfold jd at hm;refine dW (ah ?_);refine wp_seq<|au rfl<|gy 4 BO<|gZ (.slice A3 d0.env.length c3) rfl (cu (aj B5 (i:=4) rfl))<|yH rfl<|gy 0 BO<|gy 3 rfl<|gZ (.slice A2 d0.term.kids.length c2) rfl (cu (aj B5 (i:=3) rfl))<|yH rfl<|iq (.bool ((d0.env.length:Int)==(d0.term.kids.length:Int)))<|aW (.bool ((d0.env.length:Int)==(d0.term.kids.length:Int)))<|RQ.nil<|ah<|wp_ret ?_
     cases hm
     exact (bC (aF (aV rfl rfl rfl ⟨rfl,T⟩)))
    rintro g f w13 ⟨i12,iF,Jc,NU,Gx,atd,B5,T,hm⟩;rcases g with _|g
    ·simp only [gB] at hm; cases hm
    obtain ⟨eU,d_,hm⟩ :∃z,z=gB d0 K1 g∧nK d0 z K1 i12=some r:=⟨_,rfl,hm⟩;unfold nK at hm;refine wp_seq<|au rfl<|uZ (.bool (decide (i12 < (d0.term.kids.length:Int)))) Gx NU rfl<|RQ.nil<|ah<|wp_seq ?_;rcases aB (decide (i12 < (d0.term.kids.length:Int))) with c14|c14
    ·replace hm:=cF c14 hm;have atb:=of_decide_eq_false c14;refine iH c14<|wp_exit ?_;exact (bQ (bQ (iW ⟨_,rfl,⟨iF,B5,T,(by rw [hK1] at hm; exact hm)⟩⟩)))
    replace hm:=cT c14 hm;have atb:=of_decide_eq_true c14;refine ig c14<|wp_skip<|ah<|wp_seq<|wp_block<|wp_seq<|bF rfl<|kE Gx ?_;obtain ⟨x15,aar,hm⟩:=bnd hm;obtain ⟨k16,asT,asU,aar⟩:=aU aar;obtain ⟨b22,o23,rfl,aAj⟩:=h2.addr (by omega);obtain ⟨aKv,NJ,hc21⟩:=h2.el aar;have asV:=NJ;obtain ⟨A24,n24,c24,A25,n25,c25,rfl,⟨h24,r24⟩,⟨h25,r25⟩⟩:=(bG NJ);obtain ⟨rfl,q24⟩:=bI h24 r24;obtain ⟨rfl,q25⟩:=bI h25 r25;refine RL.y rfl (Y.indexAddr (m:=k16) (sz:=4) Jc Gx asT asU (by kernel_rfl))<|Sm [.int .i64 x15.kind,.int .i64 x15.value,.slice A24 x15.data.length c24,.slice A25 x15.kids.length c25] rfl (cells4 (cu (cellT T (hc21 0 _ rfl))) (cu (cellT T (hc21 1 _ rfl))) (cu (cellT T (hc21 2 _ rfl))) (cu (cellT T (hc21 3 _ rfl)))) ?_;refine RL.alloc (z:=.agg #[.int .i64 0,.int .i64 0,.slice none 0 0,.slice none 0 0]) rfl (by kernel_rfl) (fun PS B27 aGE aws=>?_);replace B27:dD PS w13.heap.size 38 #[.int .i64 0,.int .i64 0,.slice none 0 0,.slice none 0 0]:=B27;have aYD:w.heap.size≤w13.heap.size:=T.size;have axK:=Nat.ne_of_lt B5.lt;have B5:=aX B5 aGE;have T:=Tt T aGE;refine Ez (.int .i64 i12) ?_;refine RL.store (v:=.agg #[.int .i64 x15.kind,.int .i64 x15.value,.slice A24 x15.data.length c24,.slice A25 x15.kids.length c25]) (cs':=#[.int .i64 x15.kind,.int .i64 x15.value,.slice A24 x15.data.length c24,.slice A25 x15.kids.length c25]) rfl rfl rfl B27 (by kernel_rfl) (by rfl) (by rfl) (by rfl) (fun w30 B31 afZ=>?_);have ahm:=afZ.size;have B5:=B5.bK afZ (by intro hin; simp at hin; exact axK hin);have T:=T.trans (afZ.below (by first|(simp; done)|(simp; omega)));refine RL.nil<|ah<|wp_seq<|au rfl<|gy 0 rfl<|gZ (.int .i64 x15.kind) rfl (cu (aj B31 (i:=0) rfl))<|iq (.bool (x15.kind != 1))<|dF (.bool (x15.kind != 1)) ?_;rcases aB (x15.kind != 1) with LH|LH
    ·replace hm:=cF LH hm;refine RQ.y (bT 25 LH) (Y.fieldAddr (off:=1) rfl (by kernel_rfl))<|RQ.y (bT 25 LH) (Y.load (v:=.int .i64 x15.value) rfl (by kernel_rfl) (cu (aj B31 (i:=1) rfl)))<|RQ.y (bT 25 LH) (Y.move (v:=.int .i64 i12) rfl)<|RQ.y (bT 25 LH) (Y.dS (v:=.bool (x15.value != i12)) rfl rfl rfl)<|dN false (.bool (x15.value != i12)) (vb rfl LH)<|RQ.nil<|ah ?_;rcases aB (x15.value != i12) with c34|c34
     ·replace hm:=cF c34 hm;refine iH c34<|wp_skip ?_;refine eF (ah ?_);refine au rfl<|RQ.y rfl (Y.dS Gx rfl (bn (m:=i12) (by omega)))<|dF (.int .i64 (i12+1))<|RQ.nil ?_;exact (ah ⟨g,_,Nat.lt_succ_self _,rfl,⟨(i12+1),iF,Jc,NU,rfl,(by omega),B5,T,(by rw [← d_]; exact hm)⟩⟩)
     replace hm:=cT c34 hm;refine ig c34<|wp_seq<|au rfl<|aW (.bool false)<|RQ.nil<|ah<|wp_ret ?_
     cases hm
     exact (bC (aF (aF (jG (bC (aF (bC (aF (aV rfl rfl rfl ⟨rfl,T⟩)))))))))
    replace hm:=cT LH hm;iterate 4 refine RQ.skip (oL 25 LH) ?_
    refine dN true (.bool true) (vb rfl LH)<|RQ.nil<|ah<|dX rfl rfl<|wp_seq<|au rfl<|aW (.bool false)<|RQ.nil<|ah<|wp_ret ?_
    cases hm
    exact (bC (aF (aF (jG (bC (aF (bC (aF (aV rfl rfl rfl ⟨rfl,T⟩)))))))))
   replace hm:=cT c9 hm;refine ig c9<|wp_seq<|au rfl<|aW (.bool true)<|RQ.nil<|ah<|wp_ret ?_
   cases hm
   exact (bC (aF (aV rfl rfl rfl ⟨rfl,T⟩)))
  replace hm:=cT c8 hm;refine ig c8<|wp_skip<|ah<|ig c8<|wp_seq<|au rfl<|aW (.bool true)<|RQ.nil<|ah<|wp_ret ?_
  cases hm
  exact (bC (aF (aV rfl rfl rfl ⟨rfl,T⟩)))
noncomputable def qI (d0:ay):Option Bool:=
  ((uT (SizeOf.sizeOf (⟨d0.term.kind,d0.term.value,d0.term.data,d0.term.kids⟩:ak)) (⟨d0.term.kind,d0.term.value,d0.term.data,d0.term.kids⟩:ak) (⟨0,0,[],[]⟩:ak)).bind fun y8=>(bif y8 then some ((d0.env.length:Int)==0) else some false))
set_option maxHeartbeats 2000000 in
theorem QF (d0:ay) (r:Bool) (hm:qI d0=some r) (v0:Value) (w:World) (hv0:St dM w v0 d0) :
    Calls Tryz.prog 97 #[v0] w fun e w'=>e=.returned (.bool r)∧Below w.heap.size w w':=by
  obtain ⟨lg,rfl,⟨A1,n1,c1,A2,n2,c2,A3,n3,c3,rfl,⟨h1,r1⟩,⟨h2,r2⟩,⟨h3,r3⟩⟩⟩:=hv0;obtain ⟨rfl,q1⟩:=bI h1 r1;obtain ⟨rfl,q2⟩:=bI h2 r2;obtain ⟨rfl,q3⟩:=bI h3 r3;have T:=Below.refl w.heap.size w;unfold qI at hm;refine enter 13 Tryz.func97 rfl rfl rfl ?_;intro f hf;have s0:f 0=.agg #[.int .i64 d0.term.kind,.int .i64 d0.term.value,.slice A1 d0.term.data.length c1,.slice A2 d0.term.kids.length c2,.slice A3 d0.env.length c3]:=hf 0 _ rfl;refine wp_seq<|bF rfl ?_;refine RL.box rfl s0 (fun w4 B5 hb6 aha=>?_);replace B5:dD w4 w.heap.size 40 #[.int .i64 d0.term.kind,.int .i64 d0.term.value,.slice A1 d0.term.data.length c1,.slice A2 d0.term.kids.length c2,.slice A3 d0.env.length c3]:=B5;have GB5:w.heap.size≤w.heap.size:=T.size;have T:=Tt T hb6;refine Ez (.bool false)<|RL.nil<|ah<|wp_seq<|cZ rfl<|gy 0 rfl<|LC [.int .i64 d0.term.kind,.int .i64 d0.term.value,.slice A1 d0.term.data.length c1,.slice A2 d0.term.kids.length c2] rfl (cells4 (bV (aj B5 (i:=0) rfl)) (bV (aj B5 (i:=1) rfl)) (bV (aj B5 (i:=2) rfl)) (bV (aj B5 (i:=3) rfl)))<|RQ.y rfl (Y.asM (cells:=#[.int .i64 0,.int .i64 0,.slice none 0 0,.slice none 0 0])  (by kernel_rfl) (by kernel_rfl)) ?_;obtain ⟨y8,e9,hm⟩:=bnd hm;refine RQ.call rfl (qV rfl rfl) (by kernel_rfl) (v:=.bool y8) (bel (K:=fun _=>True) fun w' hb'=>(abq (SizeOf.sizeOf (⟨d0.term.kind,d0.term.value,d0.term.data,d0.term.kids⟩:ak)) (⟨d0.term.kind,d0.term.value,d0.term.data,d0.term.kids⟩:ak) (⟨0,0,[],[]⟩:ak) _ e9 _ _ w' (fE (R:=bf) (dR ⟨_,_,_,_,_,_,rfl,⟨aY.now aG h1 (dB) (Tt T hb'),r1⟩,⟨aY.now aK h2 (dB) (Tt T hb'),r2⟩⟩)) (fE (R:=bf) (dR ⟨_,_,_,_,_,_,rfl,⟨aY.none_,dB,Nat.zero_le _⟩,⟨aY.none_,dB,Nat.zero_le _⟩⟩))))<|dF (.bool y8) ?_;rcases aB y8 with c10|c10
  ·replace hm:=cF c10 hm;iterate 4 refine RQ.skip (oL 7 c10) ?_
   refine dN false (.bool false) (vb rfl c10)<|aW (.bool false)<|RQ.nil ?_;intro uS Ht;have T:=Tt T Ht;refine ah<|wp_ret ?_
   cases hm
   exact (aV rfl rfl rfl ⟨rfl,T⟩)
  replace hm:=cT c10 hm;refine RQ.y (bT 7 c10) (Y.fieldAddr (off:=4) rfl (by kernel_rfl))<|RQ.y (bT 7 c10) (Y.load (v:=.slice A3 d0.env.length c3) rfl (by kernel_rfl) (bV (aj B5 (i:=4) rfl)))<|RQ.y (bT 7 c10) (Y.len (by kernel_rfl) rfl)<|RQ.y (bT 7 c10) (Y.dS (v:=.bool ((d0.env.length:Int)==0)) rfl rfl rfl)<|dN true (.bool ((d0.env.length:Int)==0)) (vb rfl c10)<|aW (.bool ((d0.env.length:Int)==0))<|RQ.nil ?_;intro w13 LQ;have T:=Tt T LQ;refine ah<|wp_ret ?_
  cases hm
  exact (aV rfl rfl rfl ⟨rfl,T⟩)
noncomputable def wo (d0:Int) (d1:dY):Option Bool:=
  (bif (decide (d0 < 0)) then some true else some (decide (d0 ≥ (d1.defs.length:Int))))
set_option maxHeartbeats 2000000 in
theorem aax (d0:Int) (d1:dY) (r:Bool) (hm:wo d0 d1=some r) (v1:Value) (w:World) (hv1:Pt iI w v1 d1) :
    Calls Tryz.prog 116 #[.int .i64 d0,v1] w fun e w'=>e=.returned (.bool r)∧Below w.heap.size w w':=by
  obtain ⟨P_,TU,SG,rfl,V9,KW,vk⟩:=hv1;have ahc:=KW;obtain ⟨A1,n1,c1,rfl,⟨h1,r1⟩⟩:=KW;obtain ⟨rfl,q1⟩:=bI h1 r1;have T:=Below.refl w.heap.size w;unfold wo at hm;refine enter 13 Tryz.func116 rfl rfl rfl ?_;intro f hf;have s0:f 0=.int .i64 d0:=hf 0 _ rfl;have s1:f 1=.pointer (some ⟨P_,TU,none⟩):=hf 1 _ rfl;refine wp_seq<|au rfl<|aW (.bool false)<|RQ.nil<|ah<|wp_seq<|au rfl<|aT s0<|iq (.bool (decide (d0 < 0)))<|dF (.bool (decide (d0 < 0))) ?_;rcases aB (decide (d0 < 0)) with c2|c2
  ·replace hm:=cF c2 hm;have pc2:=of_decide_eq_false c2;refine RQ.y (bT 6 c2) (Y.move (v:=.int .i64 d0) s0)<|RQ.y (bT 6 c2) (Y.fieldAddr (off:=0) s1 (by kernel_rfl))<|RQ.y (bT 6 c2) (Y.load (v:=.slice A1 d1.defs.length c1) rfl (by kernel_rfl) (cu (cellT T (vk 0 _ rfl))))<|RQ.y (bT 6 c2) (Y.len (by kernel_rfl) rfl)<|RQ.y (bT 6 c2) (Y.dS (v:=.bool (decide (d0 ≥ (d1.defs.length:Int)))) rfl rfl rfl)<|dN false (.bool (decide (d0 ≥ (d1.defs.length:Int)))) (vb rfl c2)<|aW (.bool (decide (d0 ≥ (d1.defs.length:Int))))<|RQ.nil<|ah<|wp_ret ?_
   cases hm
   exact (aV rfl rfl rfl ⟨rfl,T⟩)
  replace hm:=cT c2 hm;have pc2:=of_decide_eq_true c2;iterate 5 refine RQ.skip (oL 6 c2) ?_
  refine dN true (.bool true) (vb rfl c2)<|aW (.bool true)<|RQ.nil<|ah<|wp_ret ?_
  cases hm
  exact (aV rfl rfl rfl ⟨rfl,T⟩)
noncomputable def tY (d0:dY) (d1:List Int):Option Bool:=
  ((bg d1 (fun x0=>wo x0 d0)).bind fun y6=>some (!y6))
set_option maxHeartbeats 2000000 in
theorem D9 (d0:dY) (d1:List Int) (r:Bool) (hm:tY d0 d1=some r) (v0:Value) (v1:Value) (w:World) (hv0:St iI w v0 d0) (hv1:Sl nR 1 w v1 d1) :
    Calls Tryz.prog 100 #[v0,v1] w fun e w'=>e=.returned (.bool r)∧Below w.heap.size w w':=by
  obtain ⟨lg,rfl,⟨A1,n1,c1,rfl,⟨h1,r1⟩⟩⟩:=hv0;obtain ⟨rfl,q1⟩:=bI h1 r1;obtain ⟨Aa1,na1,ca1,rfl,ha1,ra1⟩:=hv1;obtain ⟨rfl,qa1⟩:=bI ha1 ra1;have T:=Below.refl w.heap.size w;unfold tY at hm;refine enter 9 Tryz.func100 rfl rfl rfl ?_;intro f hf;have s0:f 0=.agg #[.slice A1 d0.defs.length c1]:=hf 0 _ rfl;have s1:f 1=.slice Aa1 d1.length ca1:=hf 1 _ rfl;refine wp_seq<|bF rfl ?_;refine RL.box rfl s0 (fun w2 B3 hb4 axz=>?_);replace B3:dD w2 w.heap.size 48 #[.slice A1 d0.defs.length c1]:=B3;have GB3:w.heap.size≤w.heap.size:=T.size;have T:=Tt T hb4;refine Ez (.bool false)<|RL.nil<|ah<|wp_seq<|cZ rfl<|aT s1<|RQ.y rfl (Y.makeFunc (vals:=#[.pointer (some ⟨w.heap.size,0,none⟩)]) (qZ rfl)) ?_;obtain ⟨y6,e7,hm⟩:=bnd hm;refine RQ.call rfl (qV rfl rfl) (by kernel_rfl) (v:=.bool y6) (bel (K:=fun _=>True) fun w' hb'=>(bP d1 (fun x0=>wo x0 d0) _ e7 _ _ _ w' (eY aG ha1 ra1 (Tt T hb')) (by kernel_rfl) (fun x0 b hx w1 hb1=>Calls.arr (by simp) (aax x0 d0 _ hx  _ w1  (Vw (R:=iI) (aX B3 (Tt hb' hb1)) ⟨_,_,_,rfl,⟨aY.now aK h1 (dB) (Tt (Tt T hb') hb1),r1⟩⟩)))))<|RQ.y rfl (Y.not (b':=(!y6)) rfl rfl)<|aW (.bool (!y6))<|RQ.nil ?_;intro w8 Zc;have T:=Tt T Zc;refine ah<|wp_ret ?_
  cases hm
  exact (aV rfl rfl rfl ⟨rfl,T⟩)
noncomputable def qJ (d0:aN) (d1:dY) (d2:aO):Option Bool:=
  (bif (d2.kind != 3) then ((qI (⟨(⟨d2.closure.term.kind,d2.closure.term.value,d2.closure.term.data,d2.closure.term.kids⟩:ak),d2.closure.env⟩:ay)).bind fun y98=>(bif y98 then (bif (d2.kind==1) then ((iM d0 d2.value).bind fun aA2=>(bif aA2 then some ((d2.data.length:Int)==0) else some false)) else (bif (d2.kind==2) then ((iM d0 d2.value).bind fun aA3=>(bif aA3 then some ((d2.data.length:Int)==0) else some false)) else (bif (d2.kind==3) then ((lK d2.value).bind fun y153=>(bif y153 then (bif ((d2.data.length:Int)==0) then ((iG d0 d1 (⟨(⟨d2.closure.term.kind,d2.closure.term.value,d2.closure.term.data,d2.closure.term.kids⟩:ak),d2.closure.env⟩:ay)).bind fun aA4=>some aA4) else some false) else some false)) else (bif (d2.kind==4) then ((lK d2.value).bind fun aA5=>(bif aA5 then (bif ((d2.data.length:Int)==1) then ((fC d2.data 0).bind fun aGI=>((Bl aGI).bind fun aA6=>some aA6)) else some false) else some false)) else (bif (d2.kind==5) then (bif (d2.value==0) then (bif (decide ((d2.data.length:Int) ≥ 1)) then (bif (decide ((d2.data.length:Int)≤4)) then ((tY d1 d2.data).bind fun aA7=>some aA7) else some false) else some false) else some false) else (bif (d2.kind==6) then (bif (d2.value==0) then (bif ((d2.data.length:Int)==2) then ((tY d1 d2.data).bind fun y115=>some y115) else some false) else some false) else some false)))))) else some false)) else (bif (d2.kind==1) then ((iM d0 d2.value).bind fun y91=>(bif y91 then some ((d2.data.length:Int)==0) else some false)) else (bif (d2.kind==2) then ((iM d0 d2.value).bind fun y84=>(bif y84 then some ((d2.data.length:Int)==0) else some false)) else (bif (d2.kind==3) then ((lK d2.value).bind fun y72=>(bif y72 then (bif ((d2.data.length:Int)==0) then ((iG d0 d1 (⟨(⟨d2.closure.term.kind,d2.closure.term.value,d2.closure.term.data,d2.closure.term.kids⟩:ak),d2.closure.env⟩:ay)).bind fun y80=>some y80) else some false) else some false)) else (bif (d2.kind==4) then ((lK d2.value).bind fun y51=>(bif y51 then (bif ((d2.data.length:Int)==1) then ((fC d2.data 0).bind fun x59=>((Bl x59).bind fun y68=>some y68)) else some false) else some false)) else (bif (d2.kind==5) then (bif (d2.value==0) then (bif (decide ((d2.data.length:Int) ≥ 1)) then (bif (decide ((d2.data.length:Int)≤4)) then ((tY d1 d2.data).bind fun y47=>some y47) else some false) else some false) else some false) else (bif (d2.kind==6) then (bif (d2.value==0) then (bif ((d2.data.length:Int)==2) then ((tY d1 d2.data).bind fun y34=>some y34) else some false) else some false) else some false)))))))
set_option maxHeartbeats 2000000 in
theorem QG (d0:aN) (d1:dY) (d2:aO) (r:Bool) (hm:qJ d0 d1 d2=some r) (v0:Value) (v1:Value) (v2:Value) (w:World) (hv0:Pt jQ w v0 d0) (hv1:St iI w v1 d1) (hv2:St nS w v2 d2) :
    Calls Tryz.prog 62 #[v0,v1,v2] w fun e w'=>e=.returned (.bool r)∧Below w.heap.size w w':=by
  obtain ⟨qg,qh,lg,rfl,qm,jR,eu⟩:=hv0;have qB:=jR;obtain ⟨A1,n1,c1,A2,n2,c2,A3,n3,c3,A4,n4,c4,A5,n5,c5,rfl,⟨h1,r1⟩,⟨h2,r2⟩,⟨h3,r3⟩,⟨h4,r4⟩,⟨h5,r5⟩⟩:=jR;obtain ⟨rfl,q1⟩:=bI h1 r1;obtain ⟨rfl,q2⟩:=bI h2 r2;obtain ⟨rfl,q3⟩:=bI h3 r3;obtain ⟨rfl,q4⟩:=bI h4 r4;obtain ⟨rfl,q5⟩:=bI h5 r5;obtain ⟨SG,rfl,⟨A6,n6,c6,rfl,⟨h6,r6⟩⟩⟩:=hv1;obtain ⟨rfl,q6⟩:=bI h6 r6;obtain ⟨aQT,rfl,⟨A7,n7,c7,A8,n8,c8,A9,n9,c9,A10,n10,c10,rfl,⟨h7,r7⟩,⟨h8,r8⟩,⟨h9,r9⟩,⟨h10,r10⟩⟩⟩:=hv2;obtain ⟨rfl,q7⟩:=bI h7 r7;obtain ⟨rfl,q8⟩:=bI h8 r8;obtain ⟨rfl,q9⟩:=bI h9 r9;obtain ⟨rfl,q10⟩:=bI h10 r10;have T:=Below.refl w.heap.size w;unfold qJ at hm;refine enter 107 Tryz.func62 rfl rfl rfl ?_;intro f hf;have s0:f 0=.pointer (some ⟨qg,qh,none⟩):=hf 0 _ rfl;have s1:f 1=.agg #[.slice A6 d1.defs.length c6]:=hf 1 _ rfl;have s2:f 2=.agg #[.int .i64 d2.kind,.int .i64 d2.value,.slice A7 d2.data.length c7,.int .i64 d2.closure.term.kind,.int .i64 d2.closure.term.value,.slice A8 d2.closure.term.data.length c8,.slice A9 d2.closure.term.kids.length c9,.slice A10 d2.closure.env.length c10]:=hf 2 _ rfl;refine wp_seq<|bF rfl ?_;refine RL.box rfl s1 (fun uS gY Ad WV=>?_);replace gY:dD uS w.heap.size 48 #[.slice A6 d1.defs.length c6]:=gY;have ap_:w.heap.size≤w.heap.size:=T.size;have T:=Tt T Ad;refine RL.box rfl s2 (fun w15 jf Dq amo=>?_);replace jf:dD w15 uS.heap.size 77 #[.int .i64 d2.kind,.int .i64 d2.value,.slice A7 d2.data.length c7,.int .i64 d2.closure.term.kind,.int .i64 d2.closure.term.value,.slice A8 d2.closure.term.data.length c8,.slice A9 d2.closure.term.kids.length c9,.slice A10 d2.closure.env.length c10]:=jf;have aLu:w.heap.size≤uS.heap.size:=T.size;have Jm:=Nat.ne_of_lt gY.lt;have gY:=aX gY Dq;have T:=Tt T Dq;refine Ez (.bool false)<|RL.nil<|ah<|wp_seq<|wp_seq<|cZ rfl<|gy 0 rfl<|gZ (.int .i64 d2.kind) rfl (bV (aj jf (i:=0) rfl))<|iq (.bool (d2.kind != 3))<|dF (.bool (d2.kind != 3)) ?_;rcases aB (d2.kind != 3) with c19|c19
  ·replace hm:=cF c19 hm;iterate 4 refine RQ.skip (oL 10 c19) ?_
   refine dN false (.bool false) (vb rfl c19)<|RQ.nil ?_;intro w20 adY;have aA8:=adY.size;have gY:=aX gY adY;have jf:=aX jf adY;have T:=Tt T adY;refine ah<|gU rfl rfl<|wp_skip<|ah<|wp_seq<|wp_seq<|au rfl<|gy 0 rfl<|gZ (.int .i64 d2.kind) rfl (cu (aj jf (i:=0) rfl))<|RQ.nil<|ah<|wp_block<|wp_seq<|wp_seq<|au rfl<|iq (.bool (d2.kind==1))<|aW (.bool (d2.kind==1))<|RQ.nil<|ah ?_;rcases aB (d2.kind==1) with EC|EC
   ·replace hm:=cF EC hm;refine iH EC<|au rfl<|iq (.bool (d2.kind==2))<|aW (.bool (d2.kind==2))<|RQ.nil<|ah ?_;rcases aB (d2.kind==2) with c23|c23
    ·replace hm:=cF c23 hm;refine iH c23<|wp_seq<|au rfl<|iq (.bool (d2.kind==3))<|aW (.bool (d2.kind==3))<|RQ.nil<|ah ?_;rcases aB (d2.kind==3) with c24|c24
     ·replace hm:=cF c24 hm;refine iH c24<|wp_seq<|au rfl<|iq (.bool (d2.kind==4))<|aW (.bool (d2.kind==4))<|RQ.nil<|ah ?_;rcases aB (d2.kind==4) with c25|c25
      ·replace hm:=cF c25 hm;refine iH c25<|wp_seq<|au rfl<|iq (.bool (d2.kind==5))<|aW (.bool (d2.kind==5))<|RQ.nil<|ah ?_;rcases aB (d2.kind==5) with Jj|Jj
       ·replace hm:=cF Jj hm;refine iH Jj<|wp_seq<|au rfl<|iq (.bool (d2.kind==6))<|aW (.bool (d2.kind==6))<|RQ.nil<|ah ?_;rcases aB (d2.kind==6) with Vx|Vx
        ·replace hm:=cF Vx hm;refine iH Vx<|wp_skip ?_;refine eF (ah ?_);refine wp_seq<|au rfl<|aW (.bool false)<|RQ.nil<|ah<|wp_ret ?_
         cases hm
         exact (aV rfl rfl rfl ⟨rfl,T⟩)
        replace hm:=cT Vx hm;refine ig Vx<|wp_seq<|cZ rfl<|gy 1 rfl<|gZ (.int .i64 d2.value) rfl (bV (aj jf (i:=1) rfl))<|iq (.bool (d2.value==0))<|dF (.bool (d2.value==0)) ?_;rcases aB (d2.value==0) with c28|c28
        ·replace hm:=cF c28 hm;iterate 4 refine RQ.skip (oL 95 c28) ?_
         refine dN false (.bool false) (vb rfl c28)<|dF (.bool false) ?_;iterate 4 refine RQ.skip (zZ 101) ?_
         refine dN false (.bool false) rfl<|aW (.bool false)<|RQ.nil ?_;intro Jd aQU;have aQV:=aQU.size;have T:=Tt T aQU;refine ah<|wp_ret ?_
         cases hm
         exact (bC (aF (aV rfl rfl rfl ⟨rfl,T⟩)))
        replace hm:=cT c28 hm;refine RQ.y (bT 95 c28) (Y.fieldAddr (off:=2) rfl (by kernel_rfl))<|RQ.y (bT 95 c28) (Y.load (v:=.slice A7 d2.data.length c7) rfl (by kernel_rfl) (bV (aj jf (i:=2) rfl)))<|RQ.y (bT 95 c28) (Y.len (by kernel_rfl) rfl)<|RQ.y (bT 95 c28) (Y.dS (v:=.bool ((d2.data.length:Int)==2)) rfl rfl rfl)<|dN true (.bool ((d2.data.length:Int)==2)) (vb rfl c28)<|dF (.bool ((d2.data.length:Int)==2)) ?_;rcases aB ((d2.data.length:Int)==2) with c31|c31
        ·replace hm:=cF c31 hm;iterate 4 refine RQ.skip (oL 101 c31) ?_
         refine dN false (.bool false) (vb rfl c31)<|aW (.bool false)<|RQ.nil ?_;intro w32 aj9;have aJe:=aj9.size;have T:=Tt T aj9;refine ah<|wp_ret ?_
         cases hm
         exact (bC (aF (aV rfl rfl rfl ⟨rfl,T⟩)))
        replace hm:=cT c31 hm;refine RQ.y (bT 101 c31) (Y.wH (cs:=[.slice A6 d1.defs.length c6]) rfl (by kernel_rfl) (FD (bV (aj gY (i:=0) rfl))))<|RQ.y (bT 101 c31) (Y.fieldAddr (off:=2) rfl (by kernel_rfl))<|RQ.y (bT 101 c31) (Y.load (v:=.slice A7 d2.data.length c7) rfl (by kernel_rfl) (bV (aj jf (i:=2) rfl))) ?_;obtain ⟨y34,e35,hm⟩:=bnd hm;refine RQ.call (bT 101 c31) (qV rfl rfl) (by kernel_rfl) (v:=.bool y34) (bel (K:=fun _=>True) fun w' hb'=>(D9 d1 d2.data _ e35 _ _ w' (fE (R:=iI) ⟨_,_,_,rfl,⟨aY.now aK h6 (dB) (Tt T hb'),r6⟩⟩) (eY aG h7 r7 (Tt T hb'))))<|dN true (.bool y34) (vb rfl c31)<|aW (.bool y34)<|RQ.nil ?_;intro w36 ap1;have aP1:=ap1.size;have T:=Tt T ap1;refine ah<|wp_ret ?_
        cases hm
        exact (bC (aF (aV rfl rfl rfl ⟨rfl,T⟩)))
       replace hm:=cT Jj hm;refine ig Jj<|wp_seq<|cZ rfl<|gy 1 rfl<|gZ (.int .i64 d2.value) rfl (bV (aj jf (i:=1) rfl))<|iq (.bool (d2.value==0))<|dF (.bool (d2.value==0)) ?_;rcases aB (d2.value==0) with GK|GK
       ·replace hm:=cF GK hm;iterate 4 refine RQ.skip (oL 72 GK) ?_
        refine dN false (.bool false) (vb rfl GK)<|dF (.bool false) ?_;iterate 4 refine RQ.skip (zZ 78) ?_
        refine dN false (.bool false) rfl<|dF (.bool false) ?_;iterate 4 refine RQ.skip (zZ 84) ?_
        refine dN false (.bool false) rfl<|aW (.bool false)<|RQ.nil ?_;intro w39 SK;have ap5:=SK.size;have T:=Tt T SK;refine ah<|wp_ret ?_
        cases hm
        exact (bC (aF (aV rfl rfl rfl ⟨rfl,T⟩)))
       replace hm:=cT GK hm;refine RQ.y (bT 72 GK) (Y.fieldAddr (off:=2) rfl (by kernel_rfl))<|RQ.y (bT 72 GK) (Y.load (v:=.slice A7 d2.data.length c7) rfl (by kernel_rfl) (bV (aj jf (i:=2) rfl)))<|RQ.y (bT 72 GK) (Y.len (by kernel_rfl) rfl)<|RQ.y (bT 72 GK) (Y.dS (v:=.bool (decide ((d2.data.length:Int) ≥ 1))) rfl rfl rfl)<|dN true (.bool (decide ((d2.data.length:Int) ≥ 1))) (vb rfl GK)<|dF (.bool (decide ((d2.data.length:Int) ≥ 1))) ?_;rcases aB (decide ((d2.data.length:Int) ≥ 1)) with WC|WC
       ·replace hm:=cF WC hm;have aLv:=of_decide_eq_false WC;iterate 4 refine RQ.skip (oL 78 WC) ?_
        refine dN false (.bool false) (vb rfl WC)<|dF (.bool false) ?_;iterate 4 refine RQ.skip (zZ 84) ?_
        refine dN false (.bool false) rfl<|aW (.bool false)<|RQ.nil ?_;intro w42 WR;have ap0:=WR.size;have T:=Tt T WR;refine ah<|wp_ret ?_
        cases hm
        exact (bC (aF (aV rfl rfl rfl ⟨rfl,T⟩)))
       replace hm:=cT WC hm;have aLv:=of_decide_eq_true WC;refine RQ.y (bT 78 WC) (Y.fieldAddr (off:=2) rfl (by kernel_rfl))<|RQ.y (bT 78 WC) (Y.load (v:=.slice A7 d2.data.length c7) rfl (by kernel_rfl) (bV (aj jf (i:=2) rfl)))<|RQ.y (bT 78 WC) (Y.len (by kernel_rfl) rfl)<|RQ.y (bT 78 WC) (Y.dS (v:=.bool (decide ((d2.data.length:Int)≤4))) rfl rfl rfl)<|dN true (.bool (decide ((d2.data.length:Int)≤4))) (vb rfl WC)<|dF (.bool (decide ((d2.data.length:Int)≤4))) ?_;rcases aB (decide ((d2.data.length:Int)≤4)) with Uh|Uh
       ·replace hm:=cF Uh hm;have pc44:=of_decide_eq_false Uh;iterate 4 refine RQ.skip (oL 84 Uh) ?_
        refine dN false (.bool false) (vb rfl Uh)<|aW (.bool false)<|RQ.nil ?_;intro w45 aGy;have aQW:=aGy.size;have T:=Tt T aGy;refine ah<|wp_ret ?_
        cases hm
        exact (bC (aF (aV rfl rfl rfl ⟨rfl,T⟩)))
       replace hm:=cT Uh hm;have pc44:=of_decide_eq_true Uh;refine RQ.y (bT 84 Uh) (Y.wH (cs:=[.slice A6 d1.defs.length c6]) rfl (by kernel_rfl) (FD (bV (aj gY (i:=0) rfl))))<|RQ.y (bT 84 Uh) (Y.fieldAddr (off:=2) rfl (by kernel_rfl))<|RQ.y (bT 84 Uh) (Y.load (v:=.slice A7 d2.data.length c7) rfl (by kernel_rfl) (bV (aj jf (i:=2) rfl))) ?_;obtain ⟨y47,e48,hm⟩:=bnd hm;refine RQ.call (bT 84 Uh) (qV rfl rfl) (by kernel_rfl) (v:=.bool y47) (bel (K:=fun _=>True) fun w' hb'=>(D9 d1 d2.data _ e48 _ _ w' (fE (R:=iI) ⟨_,_,_,rfl,⟨aY.now aK h6 (dB) (Tt T hb'),r6⟩⟩) (eY aG h7 r7 (Tt T hb'))))<|dN true (.bool y47) (vb rfl Uh)<|aW (.bool y47)<|RQ.nil ?_;intro w49 aAW;have aQk:=aAW.size;have T:=Tt T aAW;refine ah<|wp_ret ?_
       cases hm
       exact (bC (aF (aV rfl rfl rfl ⟨rfl,T⟩)))
      replace hm:=cT c25 hm;refine ig c25<|wp_seq<|cZ rfl<|gy 1 rfl<|gZ (.int .i64 d2.value) rfl (bV (aj jf (i:=1) rfl)) ?_;obtain ⟨y51,e52,hm⟩:=bnd hm;refine RQ.call rfl (qZ rfl) (by kernel_rfl) (v:=.bool y51) (bel (K:=fun _=>True) fun w' hb'=>(u_ d2.value _ e52  w' ))<|dF (.bool y51) ?_;rcases aB y51 with c53|c53
      ·replace hm:=cF c53 hm;iterate 4 refine RQ.skip (oL 54 c53) ?_
       refine dN false (.bool false) (vb rfl c53)<|dF (.bool false) ?_;iterate 5 refine RQ.skip (zZ 60) ?_
       refine dN false (.bool false) rfl<|aW (.bool false)<|RQ.nil ?_;intro w54 aqa;have a9p:=aqa.size;have T:=Tt T aqa;refine ah<|wp_ret ?_
       cases hm
       exact (bC (aF (aV rfl rfl rfl ⟨rfl,T⟩)))
      replace hm:=cT c53 hm;refine RQ.y (bT 54 c53) (Y.fieldAddr (off:=2) rfl (by kernel_rfl))<|RQ.y (bT 54 c53) (Y.load (v:=.slice A7 d2.data.length c7) rfl (by kernel_rfl) (bV (aj jf (i:=2) rfl)))<|RQ.y (bT 54 c53) (Y.len (by kernel_rfl) rfl)<|RQ.y (bT 54 c53) (Y.dS (v:=.bool ((d2.data.length:Int)==1)) rfl rfl rfl)<|dN true (.bool ((d2.data.length:Int)==1)) (vb rfl c53)<|dF (.bool ((d2.data.length:Int)==1)) ?_;rcases aB ((d2.data.length:Int)==1) with Ui|Ui
      ·replace hm:=cF Ui hm;iterate 5 refine RQ.skip (oL 60 Ui) ?_
       refine dN false (.bool false) (vb rfl Ui)<|aW (.bool false)<|RQ.nil ?_;intro w57 akb;have aA9:=akb.size;have T:=Tt T akb;refine ah<|wp_ret ?_
       cases hm
       exact (bC (aF (aV rfl rfl rfl ⟨rfl,T⟩)))
      replace hm:=cT Ui hm;refine RQ.y (bT 60 Ui) (Y.fieldAddr (off:=2) rfl (by kernel_rfl))<|RQ.y (bT 60 Ui) (Y.load (v:=.slice A7 d2.data.length c7) rfl (by kernel_rfl) (bV (aj jf (i:=2) rfl))) ?_;obtain ⟨x59,aLw,hm⟩:=bnd hm;obtain ⟨k60,aYT,aYU,aLw⟩:=aU aLw;obtain ⟨b66,o67,rfl,a9q⟩:=h7.addr (by omega);obtain ⟨baX,aA_,aYV⟩:=h7.el aLw;have aYW:=aA_;obtain rfl:=aA_;refine RQ.y (bT 60 Ui) (Y.indexAddr (m:=k60) (sz:=1) rfl rfl aYT aYU (by kernel_rfl))<|RQ.y (bT 60 Ui) (Y.load (v:=.int .i64 x59) rfl (by kernel_rfl) (bV (cellT T (aYV 0 _ rfl)))) ?_;obtain ⟨y68,e69,hm⟩:=bnd hm;refine RQ.call (bT 60 Ui) (qZ rfl) (by kernel_rfl) (v:=.bool y68) (bel (K:=fun _=>True) fun w' hb'=>(Nz x59 _ e69  w' ))<|dN true (.bool y68) (vb rfl Ui)<|aW (.bool y68)<|RQ.nil ?_;intro w70 Wj;have aI5:=Wj.size;have T:=Tt T Wj;refine ah<|wp_ret ?_
      cases hm
      exact (bC (aF (aV rfl rfl rfl ⟨rfl,T⟩)))
     replace hm:=cT c24 hm;refine ig c24<|wp_seq<|cZ rfl<|gy 1 rfl<|gZ (.int .i64 d2.value) rfl (bV (aj jf (i:=1) rfl)) ?_;obtain ⟨y72,e73,hm⟩:=bnd hm;refine RQ.call rfl (qZ rfl) (by kernel_rfl) (v:=.bool y72) (bel (K:=fun _=>True) fun w' hb'=>(u_ d2.value _ e73  w' ))<|dF (.bool y72) ?_;rcases aB y72 with c74|c74
     ·replace hm:=cF c74 hm;iterate 4 refine RQ.skip (oL 36 c74) ?_
      refine dN false (.bool false) (vb rfl c74)<|dF (.bool false) ?_;iterate 5 refine RQ.skip (zZ 42) ?_
      refine dN false (.bool false) rfl<|aW (.bool false)<|RQ.nil ?_;intro w75 aho;have a9r:=aho.size;have T:=Tt T aho;refine ah<|wp_ret ?_
      cases hm
      exact (bC (aF (aV rfl rfl rfl ⟨rfl,T⟩)))
     replace hm:=cT c74 hm;refine RQ.y (bT 36 c74) (Y.fieldAddr (off:=2) rfl (by kernel_rfl))<|RQ.y (bT 36 c74) (Y.load (v:=.slice A7 d2.data.length c7) rfl (by kernel_rfl) (bV (aj jf (i:=2) rfl)))<|RQ.y (bT 36 c74) (Y.len (by kernel_rfl) rfl)<|RQ.y (bT 36 c74) (Y.dS (v:=.bool ((d2.data.length:Int)==0)) rfl rfl rfl)<|dN true (.bool ((d2.data.length:Int)==0)) (vb rfl c74)<|dF (.bool ((d2.data.length:Int)==0)) ?_;rcases aB ((d2.data.length:Int)==0) with c77|c77
     ·replace hm:=cF c77 hm;iterate 5 refine RQ.skip (oL 42 c77) ?_
      refine dN false (.bool false) (vb rfl c77)<|aW (.bool false)<|RQ.nil ?_;intro w78 aQX;have aAX:=aQX.size;have T:=Tt T aQX;refine ah<|wp_ret ?_
      cases hm
      exact (bC (aF (aV rfl rfl rfl ⟨rfl,T⟩)))
     replace hm:=cT c77 hm;refine RQ.y (bT 42 c77) (Y.move (v:=.pointer (some ⟨qg,qh,none⟩)) s0)<|RQ.y (bT 42 c77) (Y.wH (cs:=[.slice A6 d1.defs.length c6]) rfl (by kernel_rfl) (FD (bV (aj gY (i:=0) rfl))))<|RQ.y (bT 42 c77) (Y.fieldAddr (off:=3) rfl (by kernel_rfl))<|RQ.y (bT 42 c77) (Y.wH (cs:=[.int .i64 d2.closure.term.kind,.int .i64 d2.closure.term.value,.slice A8 d2.closure.term.data.length c8,.slice A9 d2.closure.term.kids.length c9,.slice A10 d2.closure.env.length c10]) rfl (by kernel_rfl) (cells5 (bV (aj jf (i:=3) rfl)) (bV (aj jf (i:=4) rfl)) (bV (aj jf (i:=5) rfl)) (bV (aj jf (i:=6) rfl)) (bV (aj jf (i:=7) rfl)))) ?_;obtain ⟨y80,e81,hm⟩:=bnd hm;refine RQ.call (bT 42 c77) (Vu rfl rfl rfl) (by kernel_rfl) (v:=.bool y80) (bel (K:=fun _=>True) fun w' hb'=>(qG d0 d1 (⟨(⟨d2.closure.term.kind,d2.closure.term.value,d2.closure.term.data,d2.closure.term.kids⟩:ak),d2.closure.env⟩:ay) _ e81 _ _ _ w' (l9 fP qm qB eu (Tt T hb')) (fE (R:=iI) ⟨_,_,_,rfl,⟨aY.now aK h6 (dB) (Tt T hb'),r6⟩⟩) (fE (R:=dM) ⟨_,_,_,_,_,_,_,_,_,rfl,⟨aY.now aG h8 (dB) (Tt T hb'),r8⟩,⟨aY.now aK h9 (dB) (Tt T hb'),r9⟩,⟨aY.now aG h10 (dB) (Tt T hb'),r10⟩⟩)))<|dN true (.bool y80) (vb rfl c77)<|aW (.bool y80)<|RQ.nil ?_;intro w82 aGB;have a9s:=aGB.size;have T:=Tt T aGB;refine ah<|wp_ret ?_
     cases hm
     exact (bC (aF (aV rfl rfl rfl ⟨rfl,T⟩)))
    replace hm:=cT c23 hm;refine ig c23<|wp_seq<|cZ rfl<|aT s0<|gy 1 rfl<|gZ (.int .i64 d2.value) rfl (bV (aj jf (i:=1) rfl)) ?_;obtain ⟨y84,e85,hm⟩:=bnd hm;refine RQ.call rfl (qV rfl rfl) (by kernel_rfl) (v:=.bool y84) (bel (K:=fun _=>True) fun w' hb'=>(o9 d0 d2.value _ e85 _ w' (l9 fP qm qB eu (Tt T hb'))))<|dF (.bool y84) ?_;rcases aB y84 with c86|c86
    ·replace hm:=cF c86 hm;iterate 4 refine RQ.skip (oL 25 c86) ?_
     refine dN false (.bool false) (vb rfl c86)<|aW (.bool false)<|RQ.nil ?_;intro w87 aBa;have aQY:=aBa.size;have T:=Tt T aBa;refine ah<|wp_ret ?_
     cases hm
     exact (bC (aF (aV rfl rfl rfl ⟨rfl,T⟩)))
    replace hm:=cT c86 hm;refine RQ.y (bT 25 c86) (Y.fieldAddr (off:=2) rfl (by kernel_rfl))<|RQ.y (bT 25 c86) (Y.load (v:=.slice A7 d2.data.length c7) rfl (by kernel_rfl) (bV (aj jf (i:=2) rfl)))<|RQ.y (bT 25 c86) (Y.len (by kernel_rfl) rfl)<|RQ.y (bT 25 c86) (Y.dS (v:=.bool ((d2.data.length:Int)==0)) rfl rfl rfl)<|dN true (.bool ((d2.data.length:Int)==0)) (vb rfl c86)<|aW (.bool ((d2.data.length:Int)==0))<|RQ.nil ?_;intro w89 aGC;have a9t:=aGC.size;have T:=Tt T aGC;refine ah<|wp_ret ?_
    cases hm
    exact (bC (aF (aV rfl rfl rfl ⟨rfl,T⟩)))
   replace hm:=cT EC hm;refine ig EC<|wp_skip<|ah<|ig EC<|wp_seq<|cZ rfl<|aT s0<|gy 1 rfl<|gZ (.int .i64 d2.value) rfl (bV (aj jf (i:=1) rfl)) ?_;obtain ⟨y91,e92,hm⟩:=bnd hm;refine RQ.call rfl (qV rfl rfl) (by kernel_rfl) (v:=.bool y91) (bel (K:=fun _=>True) fun w' hb'=>(o9 d0 d2.value _ e92 _ w' (l9 fP qm qB eu (Tt T hb'))))<|dF (.bool y91) ?_;rcases aB y91 with c93|c93
   ·replace hm:=cF c93 hm;iterate 4 refine RQ.skip (oL 25 c93) ?_
    refine dN false (.bool false) (vb rfl c93)<|aW (.bool false)<|RQ.nil ?_;intro w94 af0;have aQZ:=af0.size;have T:=Tt T af0;refine ah<|wp_ret ?_
    cases hm
    exact (bC (aF (aV rfl rfl rfl ⟨rfl,T⟩)))
   replace hm:=cT c93 hm;refine RQ.y (bT 25 c93) (Y.fieldAddr (off:=2) rfl (by kernel_rfl))<|RQ.y (bT 25 c93) (Y.load (v:=.slice A7 d2.data.length c7) rfl (by kernel_rfl) (bV (aj jf (i:=2) rfl)))<|RQ.y (bT 25 c93) (Y.len (by kernel_rfl) rfl)<|RQ.y (bT 25 c93) (Y.dS (v:=.bool ((d2.data.length:Int)==0)) rfl rfl rfl)<|dN true (.bool ((d2.data.length:Int)==0)) (vb rfl c93)<|aW (.bool ((d2.data.length:Int)==0))<|RQ.nil ?_;intro w96 aQ0;have a9u:=aQ0.size;have T:=Tt T aQ0;refine ah<|wp_ret ?_
   cases hm
   exact (bC (aF (aV rfl rfl rfl ⟨rfl,T⟩)))
  replace hm:=cT c19 hm;refine RQ.y (bT 10 c19) (Y.fieldAddr (off:=3) rfl (by kernel_rfl))<|RQ.y (bT 10 c19) (Y.wH (cs:=[.int .i64 d2.closure.term.kind,.int .i64 d2.closure.term.value,.slice A8 d2.closure.term.data.length c8,.slice A9 d2.closure.term.kids.length c9,.slice A10 d2.closure.env.length c10]) rfl (by kernel_rfl) (cells5 (bV (aj jf (i:=3) rfl)) (bV (aj jf (i:=4) rfl)) (bV (aj jf (i:=5) rfl)) (bV (aj jf (i:=6) rfl)) (bV (aj jf (i:=7) rfl)))) ?_;obtain ⟨y98,e99,hm⟩:=bnd hm;refine RQ.call (bT 10 c19) (qZ rfl) (by kernel_rfl) (v:=.bool y98) (bel (K:=fun _=>True) fun w' hb'=>(QF (⟨(⟨d2.closure.term.kind,d2.closure.term.value,d2.closure.term.data,d2.closure.term.kids⟩:ak),d2.closure.env⟩:ay) _ e99 _ w' (fE (R:=dM) ⟨_,_,_,_,_,_,_,_,_,rfl,⟨aY.now aG h8 (dB) (Tt T hb'),r8⟩,⟨aY.now aK h9 (dB) (Tt T hb'),r9⟩,⟨aY.now aG h10 (dB) (Tt T hb'),r10⟩⟩)))<|RQ.y (bT 10 c19) (Y.not (b':=(!y98)) rfl rfl)<|dN true (.bool (!y98)) (vb rfl c19)<|RQ.nil ?_;intro baY aww;have aYX:=aww.size;have gY:=aX gY aww;have jf:=aX jf aww;have T:=Tt T aww;refine ah ?_;rcases aB y98 with adZ|adZ
  ·replace hm:=cF adZ hm;refine dX rfl (gQ rfl adZ rfl)<|wp_seq<|au rfl<|aW (.bool false)<|RQ.nil<|ah<|wp_ret ?_
   cases hm
   exact (aF (aV rfl rfl rfl ⟨rfl,T⟩))
  replace hm:=cT adZ hm;refine gU rfl (gQ rfl adZ rfl)<|wp_skip<|ah<|wp_seq<|wp_seq<|au rfl<|gy 0 rfl<|gZ (.int .i64 d2.kind) rfl (cu (aj jf (i:=0) rfl))<|RQ.nil<|ah<|wp_block<|wp_seq<|wp_seq<|au rfl<|iq (.bool (d2.kind==1))<|aW (.bool (d2.kind==1))<|RQ.nil<|ah ?_;rcases aB (d2.kind==1) with ath|ath
  ·replace hm:=cF ath hm;refine iH ath<|au rfl<|iq (.bool (d2.kind==2))<|aW (.bool (d2.kind==2))<|RQ.nil<|ah ?_;rcases aB (d2.kind==2) with adX|adX
   ·replace hm:=cF adX hm;refine iH adX<|wp_seq<|au rfl<|iq (.bool (d2.kind==3))<|aW (.bool (d2.kind==3))<|RQ.nil<|ah ?_;rcases aB (d2.kind==3) with c105|c105
    ·replace hm:=cF c105 hm;refine iH c105<|wp_seq<|au rfl<|iq (.bool (d2.kind==4))<|aW (.bool (d2.kind==4))<|RQ.nil<|ah ?_;rcases aB (d2.kind==4) with aBb|aBb
     ·replace hm:=cF aBb hm;refine iH aBb<|wp_seq<|au rfl<|iq (.bool (d2.kind==5))<|aW (.bool (d2.kind==5))<|RQ.nil<|ah ?_;rcases aB (d2.kind==5) with c107|c107
      ·replace hm:=cF c107 hm;refine iH c107<|wp_seq<|au rfl<|iq (.bool (d2.kind==6))<|aW (.bool (d2.kind==6))<|RQ.nil<|ah ?_;rcases aB (d2.kind==6) with ad1|ad1
       ·replace hm:=cF ad1 hm;refine iH ad1<|wp_skip ?_;refine eF (ah ?_);refine wp_seq<|au rfl<|aW (.bool false)<|RQ.nil<|ah<|wp_ret ?_
        cases hm
        exact (aV rfl rfl rfl ⟨rfl,T⟩)
       replace hm:=cT ad1 hm;refine ig ad1<|wp_seq<|cZ rfl<|gy 1 rfl<|gZ (.int .i64 d2.value) rfl (bV (aj jf (i:=1) rfl))<|iq (.bool (d2.value==0))<|dF (.bool (d2.value==0)) ?_;rcases aB (d2.value==0) with c109|c109
       ·replace hm:=cF c109 hm;iterate 4 refine RQ.skip (oL 95 c109) ?_
        refine dN false (.bool false) (vb rfl c109)<|dF (.bool false) ?_;iterate 4 refine RQ.skip (zZ 101) ?_
        refine dN false (.bool false) rfl<|aW (.bool false)<|RQ.nil ?_;intro aYY aJf;have aLx:=aJf.size;have T:=Tt T aJf;refine ah<|wp_ret ?_
        cases hm
        exact (bC (aF (aV rfl rfl rfl ⟨rfl,T⟩)))
       replace hm:=cT c109 hm;refine RQ.y (bT 95 c109) (Y.fieldAddr (off:=2) rfl (by kernel_rfl))<|RQ.y (bT 95 c109) (Y.load (v:=.slice A7 d2.data.length c7) rfl (by kernel_rfl) (bV (aj jf (i:=2) rfl)))<|RQ.y (bT 95 c109) (Y.len (by kernel_rfl) rfl)<|RQ.y (bT 95 c109) (Y.dS (v:=.bool ((d2.data.length:Int)==2)) rfl rfl rfl)<|dN true (.bool ((d2.data.length:Int)==2)) (vb rfl c109)<|dF (.bool ((d2.data.length:Int)==2)) ?_;rcases aB ((d2.data.length:Int)==2) with ahp|ahp
       ·replace hm:=cF ahp hm;iterate 4 refine RQ.skip (oL 101 ahp) ?_
        refine dN false (.bool false) (vb rfl ahp)<|aW (.bool false)<|RQ.nil ?_;intro baZ aJg;have aYZ:=aJg.size;have T:=Tt T aJg;refine ah<|wp_ret ?_
        cases hm
        exact (bC (aF (aV rfl rfl rfl ⟨rfl,T⟩)))
       replace hm:=cT ahp hm;refine RQ.y (bT 101 ahp) (Y.wH (cs:=[.slice A6 d1.defs.length c6]) rfl (by kernel_rfl) (FD (bV (aj gY (i:=0) rfl))))<|RQ.y (bT 101 ahp) (Y.fieldAddr (off:=2) rfl (by kernel_rfl))<|RQ.y (bT 101 ahp) (Y.load (v:=.slice A7 d2.data.length c7) rfl (by kernel_rfl) (bV (aj jf (i:=2) rfl))) ?_;obtain ⟨y115,e116,hm⟩:=bnd hm;refine RQ.call (bT 101 ahp) (qV rfl rfl) (by kernel_rfl) (v:=.bool y115) (bel (K:=fun _=>True) fun w' hb'=>(D9 d1 d2.data _ e116 _ _ w' (fE (R:=iI) ⟨_,_,_,rfl,⟨aY.now aK h6 (dB) (Tt T hb'),r6⟩⟩) (eY aG h7 r7 (Tt T hb'))))<|dN true (.bool y115) (vb rfl ahp)<|aW (.bool y115)<|RQ.nil ?_;intro aY0 aJh;have aLy:=aJh.size;have T:=Tt T aJh;refine ah<|wp_ret ?_
       cases hm
       exact (bC (aF (aV rfl rfl rfl ⟨rfl,T⟩)))
      replace hm:=cT c107 hm;refine ig c107<|wp_seq<|cZ rfl<|gy 1 rfl<|gZ (.int .i64 d2.value) rfl (bV (aj jf (i:=1) rfl))<|iq (.bool (d2.value==0))<|dF (.bool (d2.value==0)) ?_;rcases aB (d2.value==0) with c119|c119
      ·replace hm:=cF c119 hm;iterate 4 refine RQ.skip (oL 72 c119) ?_
       refine dN false (.bool false) (vb rfl c119)<|dF (.bool false) ?_;iterate 4 refine RQ.skip (zZ 78) ?_
       refine dN false (.bool false) rfl<|dF (.bool false) ?_;iterate 4 refine RQ.skip (zZ 84) ?_
       refine dN false (.bool false) rfl<|aW (.bool false)<|RQ.nil ?_;intro aGJ aJi;have aBd:=aJi.size;have T:=Tt T aJi;refine ah<|wp_ret ?_
       cases hm
       exact (bC (aF (aV rfl rfl rfl ⟨rfl,T⟩)))
      replace hm:=cT c119 hm;refine RQ.y (bT 72 c119) (Y.fieldAddr (off:=2) rfl (by kernel_rfl))<|RQ.y (bT 72 c119) (Y.load (v:=.slice A7 d2.data.length c7) rfl (by kernel_rfl) (bV (aj jf (i:=2) rfl)))<|RQ.y (bT 72 c119) (Y.len (by kernel_rfl) rfl)<|RQ.y (bT 72 c119) (Y.dS (v:=.bool (decide ((d2.data.length:Int) ≥ 1))) rfl rfl rfl)<|dN true (.bool (decide ((d2.data.length:Int) ≥ 1))) (vb rfl c119)<|dF (.bool (decide ((d2.data.length:Int) ≥ 1))) ?_;rcases aB (decide ((d2.data.length:Int) ≥ 1)) with ad2|ad2
      ·replace hm:=cF ad2 hm;have aQ1:=of_decide_eq_false ad2;iterate 4 refine RQ.skip (oL 78 ad2) ?_
       refine dN false (.bool false) (vb rfl ad2)<|dF (.bool false) ?_;iterate 4 refine RQ.skip (zZ 84) ?_
       refine dN false (.bool false) rfl<|aW (.bool false)<|RQ.nil ?_;intro ba3 aJj;have aY1:=aJj.size;have T:=Tt T aJj;refine ah<|wp_ret ?_
       cases hm
       exact (bC (aF (aV rfl rfl rfl ⟨rfl,T⟩)))
      replace hm:=cT ad2 hm;have aQ1:=of_decide_eq_true ad2;refine RQ.y (bT 78 ad2) (Y.fieldAddr (off:=2) rfl (by kernel_rfl))<|RQ.y (bT 78 ad2) (Y.load (v:=.slice A7 d2.data.length c7) rfl (by kernel_rfl) (bV (aj jf (i:=2) rfl)))<|RQ.y (bT 78 ad2) (Y.len (by kernel_rfl) rfl)<|RQ.y (bT 78 ad2) (Y.dS (v:=.bool (decide ((d2.data.length:Int)≤4))) rfl rfl rfl)<|dN true (.bool (decide ((d2.data.length:Int)≤4))) (vb rfl ad2)<|dF (.bool (decide ((d2.data.length:Int)≤4))) ?_;rcases aB (decide ((d2.data.length:Int)≤4)) with af2|af2
      ·replace hm:=cF af2 hm;have aQ2:=of_decide_eq_false af2;iterate 4 refine RQ.skip (oL 84 af2) ?_
       refine dN false (.bool false) (vb rfl af2)<|aW (.bool false)<|RQ.nil ?_;intro ba4 aJk;have aY2:=aJk.size;have T:=Tt T aJk;refine ah<|wp_ret ?_
       cases hm
       exact (bC (aF (aV rfl rfl rfl ⟨rfl,T⟩)))
      replace hm:=cT af2 hm;have aQ2:=of_decide_eq_true af2;refine RQ.y (bT 84 af2) (Y.wH (cs:=[.slice A6 d1.defs.length c6]) rfl (by kernel_rfl) (FD (bV (aj gY (i:=0) rfl))))<|RQ.y (bT 84 af2) (Y.fieldAddr (off:=2) rfl (by kernel_rfl))<|RQ.y (bT 84 af2) (Y.load (v:=.slice A7 d2.data.length c7) rfl (by kernel_rfl) (bV (aj jf (i:=2) rfl))) ?_;obtain ⟨aA7,e129,hm⟩:=bnd hm;refine RQ.call (bT 84 af2) (qV rfl rfl) (by kernel_rfl) (v:=.bool aA7) (bel (K:=fun _=>True) fun w' hb'=>(D9 d1 d2.data _ e129 _ _ w' (fE (R:=iI) ⟨_,_,_,rfl,⟨aY.now aK h6 (dB) (Tt T hb'),r6⟩⟩) (eY aG h7 r7 (Tt T hb'))))<|dN true (.bool aA7) (vb rfl af2)<|aW (.bool aA7)<|RQ.nil ?_;intro ba5 aJl;have aY3:=aJl.size;have T:=Tt T aJl;refine ah<|wp_ret ?_
      cases hm
      exact (bC (aF (aV rfl rfl rfl ⟨rfl,T⟩)))
     replace hm:=cT aBb hm;refine ig aBb<|wp_seq<|cZ rfl<|gy 1 rfl<|gZ (.int .i64 d2.value) rfl (bV (aj jf (i:=1) rfl)) ?_;obtain ⟨aA5,aY4,hm⟩:=bnd hm;refine RQ.call rfl (qZ rfl) (by kernel_rfl) (v:=.bool aA5) (bel (K:=fun _=>True) fun w' hb'=>(u_ d2.value _ aY4  w' ))<|dF (.bool aA5) ?_;rcases aB aA5 with Wn|Wn
     ·replace hm:=cF Wn hm;iterate 4 refine RQ.skip (oL 54 Wn) ?_
      refine dN false (.bool false) (vb rfl Wn)<|dF (.bool false) ?_;iterate 5 refine RQ.skip (zZ 60) ?_
      refine dN false (.bool false) rfl<|aW (.bool false)<|RQ.nil ?_;intro aYv awp;have aY5:=awp.size;have T:=Tt T awp;refine ah<|wp_ret ?_
      cases hm
      exact (bC (aF (aV rfl rfl rfl ⟨rfl,T⟩)))
     replace hm:=cT Wn hm;refine RQ.y (bT 54 Wn) (Y.fieldAddr (off:=2) rfl (by kernel_rfl))<|RQ.y (bT 54 Wn) (Y.load (v:=.slice A7 d2.data.length c7) rfl (by kernel_rfl) (bV (aj jf (i:=2) rfl)))<|RQ.y (bT 54 Wn) (Y.len (by kernel_rfl) rfl)<|RQ.y (bT 54 Wn) (Y.dS (v:=.bool ((d2.data.length:Int)==1)) rfl rfl rfl)<|dN true (.bool ((d2.data.length:Int)==1)) (vb rfl Wn)<|dF (.bool ((d2.data.length:Int)==1)) ?_;rcases aB ((d2.data.length:Int)==1) with QD|QD
     ·replace hm:=cF QD hm;iterate 5 refine RQ.skip (oL 60 QD) ?_
      refine dN false (.bool false) (vb rfl QD)<|aW (.bool false)<|RQ.nil ?_;intro aQG awq;have aLA:=awq.size;have T:=Tt T awq;refine ah<|wp_ret ?_
      cases hm
      exact (bC (aF (aV rfl rfl rfl ⟨rfl,T⟩)))
     replace hm:=cT QD hm;refine RQ.y (bT 60 QD) (Y.fieldAddr (off:=2) rfl (by kernel_rfl))<|RQ.y (bT 60 QD) (Y.load (v:=.slice A7 d2.data.length c7) rfl (by kernel_rfl) (bV (aj jf (i:=2) rfl))) ?_;obtain ⟨aGI,aBe,hm⟩:=bnd hm;obtain ⟨aY6,aQ3,aQ4,aBe⟩:=aU aBe;obtain ⟨ba6,ba7,rfl,aY7⟩:=h7.addr (by omega);obtain ⟨a9v,awx,aQ5⟩:=h7.el aBe;have aWH:=awx;obtain rfl:=awx;refine RQ.y (bT 60 QD) (Y.indexAddr (m:=aY6) (sz:=1) rfl rfl aQ3 aQ4 (by kernel_rfl))<|RQ.y (bT 60 QD) (Y.load (v:=.int .i64 aGI) rfl (by kernel_rfl) (bV (cellT T (aQ5 0 _ rfl)))) ?_;obtain ⟨aA6,aY8,hm⟩:=bnd hm;refine RQ.call (bT 60 QD) (qZ rfl) (by kernel_rfl) (v:=.bool aA6) (bel (K:=fun _=>True) fun w' hb'=>(Nz aGI _ aY8  w' ))<|dN true (.bool aA6) (vb rfl QD)<|aW (.bool aA6)<|RQ.nil ?_;intro aBf afn;have ati:=afn.size;have T:=Tt T afn;refine ah<|wp_ret ?_
     cases hm
     exact (bC (aF (aV rfl rfl rfl ⟨rfl,T⟩)))
    replace hm:=cT c105 hm;refine ig c105<|wp_seq<|cZ rfl<|gy 1 rfl<|gZ (.int .i64 d2.value) rfl (bV (aj jf (i:=1) rfl)) ?_;obtain ⟨y153,e154,hm⟩:=bnd hm;refine RQ.call rfl (qZ rfl) (by kernel_rfl) (v:=.bool y153) (bel (K:=fun _=>True) fun w' hb'=>(u_ d2.value _ e154  w' ))<|dF (.bool y153) ?_;rcases aB y153 with akc|akc
    ·replace hm:=cF akc hm;iterate 4 refine RQ.skip (oL 36 akc) ?_
     refine dN false (.bool false) (vb rfl akc)<|dF (.bool false) ?_;iterate 5 refine RQ.skip (zZ 42) ?_
     refine dN false (.bool false) rfl<|aW (.bool false)<|RQ.nil ?_;intro ba8 aJm;have aY9:=aJm.size;have T:=Tt T aJm;refine ah<|wp_ret ?_
     cases hm
     exact (bC (aF (aV rfl rfl rfl ⟨rfl,T⟩)))
    replace hm:=cT akc hm;refine RQ.y (bT 36 akc) (Y.fieldAddr (off:=2) rfl (by kernel_rfl))<|RQ.y (bT 36 akc) (Y.load (v:=.slice A7 d2.data.length c7) rfl (by kernel_rfl) (bV (aj jf (i:=2) rfl)))<|RQ.y (bT 36 akc) (Y.len (by kernel_rfl) rfl)<|RQ.y (bT 36 akc) (Y.dS (v:=.bool ((d2.data.length:Int)==0)) rfl rfl rfl)<|dN true (.bool ((d2.data.length:Int)==0)) (vb rfl akc)<|dF (.bool ((d2.data.length:Int)==0)) ?_;rcases aB ((d2.data.length:Int)==0) with LY|LY
    ·replace hm:=cF LY hm;iterate 5 refine RQ.skip (oL 42 LY) ?_
     refine dN false (.bool false) (vb rfl LY)<|aW (.bool false)<|RQ.nil ?_;intro ba9 aJn;have aY_:=aJn.size;have T:=Tt T aJn;refine ah<|wp_ret ?_
     cases hm
     exact (bC (aF (aV rfl rfl rfl ⟨rfl,T⟩)))
    replace hm:=cT LY hm;refine RQ.y (bT 42 LY) (Y.move (v:=.pointer (some ⟨qg,qh,none⟩)) s0)<|RQ.y (bT 42 LY) (Y.wH (cs:=[.slice A6 d1.defs.length c6]) rfl (by kernel_rfl) (FD (bV (aj gY (i:=0) rfl))))<|RQ.y (bT 42 LY) (Y.fieldAddr (off:=3) rfl (by kernel_rfl))<|RQ.y (bT 42 LY) (Y.wH (cs:=[.int .i64 d2.closure.term.kind,.int .i64 d2.closure.term.value,.slice A8 d2.closure.term.data.length c8,.slice A9 d2.closure.term.kids.length c9,.slice A10 d2.closure.env.length c10]) rfl (by kernel_rfl) (cells5 (bV (aj jf (i:=3) rfl)) (bV (aj jf (i:=4) rfl)) (bV (aj jf (i:=5) rfl)) (bV (aj jf (i:=6) rfl)) (bV (aj jf (i:=7) rfl)))) ?_;obtain ⟨aA4,e162,hm⟩:=bnd hm;refine RQ.call (bT 42 LY) (Vu rfl rfl rfl) (by kernel_rfl) (v:=.bool aA4) (bel (K:=fun _=>True) fun w' hb'=>(qG d0 d1 (⟨(⟨d2.closure.term.kind,d2.closure.term.value,d2.closure.term.data,d2.closure.term.kids⟩:ak),d2.closure.env⟩:ay) _ e162 _ _ _ w' (l9 fP qm qB eu (Tt T hb')) (fE (R:=iI) ⟨_,_,_,rfl,⟨aY.now aK h6 (dB) (Tt T hb'),r6⟩⟩) (fE (R:=dM) ⟨_,_,_,_,_,_,_,_,_,rfl,⟨aY.now aG h8 (dB) (Tt T hb'),r8⟩,⟨aY.now aK h9 (dB) (Tt T hb'),r9⟩,⟨aY.now aG h10 (dB) (Tt T hb'),r10⟩⟩)))<|dN true (.bool aA4) (vb rfl LY)<|aW (.bool aA4)<|RQ.nil ?_;intro ba_ aJo;have aZa:=aJo.size;have T:=Tt T aJo;refine ah<|wp_ret ?_
    cases hm
    exact (bC (aF (aV rfl rfl rfl ⟨rfl,T⟩)))
   replace hm:=cT adX hm;refine ig adX<|wp_seq<|cZ rfl<|aT s0<|gy 1 rfl<|gZ (.int .i64 d2.value) rfl (bV (aj jf (i:=1) rfl)) ?_;obtain ⟨aA3,e166,hm⟩:=bnd hm;refine RQ.call rfl (qV rfl rfl) (by kernel_rfl) (v:=.bool aA3) (bel (K:=fun _=>True) fun w' hb'=>(o9 d0 d2.value _ e166 _ w' (l9 fP qm qB eu (Tt T hb'))))<|dF (.bool aA3) ?_;rcases aB aA3 with c167|c167
   ·replace hm:=cF c167 hm;iterate 4 refine RQ.skip (oL 25 c167) ?_
    refine dN false (.bool false) (vb rfl c167)<|aW (.bool false)<|RQ.nil ?_;intro aYz awr;have aZb:=awr.size;have T:=Tt T awr;refine ah<|wp_ret ?_
    cases hm
    exact (bC (aF (aV rfl rfl rfl ⟨rfl,T⟩)))
   replace hm:=cT c167 hm;refine RQ.y (bT 25 c167) (Y.fieldAddr (off:=2) rfl (by kernel_rfl))<|RQ.y (bT 25 c167) (Y.load (v:=.slice A7 d2.data.length c7) rfl (by kernel_rfl) (bV (aj jf (i:=2) rfl)))<|RQ.y (bT 25 c167) (Y.len (by kernel_rfl) rfl)<|RQ.y (bT 25 c167) (Y.dS (v:=.bool ((d2.data.length:Int)==0)) rfl rfl rfl)<|dN true (.bool ((d2.data.length:Int)==0)) (vb rfl c167)<|aW (.bool ((d2.data.length:Int)==0))<|RQ.nil ?_;intro bbc aJp;have aZc:=aJp.size;have T:=Tt T aJp;refine ah<|wp_ret ?_
   cases hm
   exact (bC (aF (aV rfl rfl rfl ⟨rfl,T⟩)))
  replace hm:=cT ath hm;refine ig ath<|wp_skip<|ah<|ig ath<|wp_seq<|cZ rfl<|aT s0<|gy 1 rfl<|gZ (.int .i64 d2.value) rfl (bV (aj jf (i:=1) rfl)) ?_;obtain ⟨aA2,aZd,hm⟩:=bnd hm;refine RQ.call rfl (qV rfl rfl) (by kernel_rfl) (v:=.bool aA2) (bel (K:=fun _=>True) fun w' hb'=>(o9 d0 d2.value _ aZd _ w' (l9 fP qm qB eu (Tt T hb'))))<|dF (.bool aA2) ?_;rcases aB aA2 with Zk|Zk
  ·replace hm:=cF Zk hm;iterate 4 refine RQ.skip (oL 25 Zk) ?_
   refine dN false (.bool false) (vb rfl Zk)<|aW (.bool false)<|RQ.nil ?_;intro aQ6 aJq;have aLB:=aJq.size;have T:=Tt T aJq;refine ah<|wp_ret ?_
   cases hm
   exact (bC (aF (aV rfl rfl rfl ⟨rfl,T⟩)))
  replace hm:=cT Zk hm;refine RQ.y (bT 25 Zk) (Y.fieldAddr (off:=2) rfl (by kernel_rfl))<|RQ.y (bT 25 Zk) (Y.load (v:=.slice A7 d2.data.length c7) rfl (by kernel_rfl) (bV (aj jf (i:=2) rfl)))<|RQ.y (bT 25 Zk) (Y.len (by kernel_rfl) rfl)<|RQ.y (bT 25 Zk) (Y.dS (v:=.bool ((d2.data.length:Int)==0)) rfl rfl rfl)<|dN true (.bool ((d2.data.length:Int)==0)) (vb rfl Zk)<|aW (.bool ((d2.data.length:Int)==0))<|RQ.nil ?_;intro bbd aJr;have aZe:=aJr.size;have T:=Tt T aJr;refine ah<|wp_ret ?_
  cases hm
  exact (bC (aF (aV rfl rfl rfl ⟨rfl,T⟩)))
noncomputable def eP:Option Int:=
  some (-1)
noncomputable def fM (d0:List aO) (d1:aO→Option Bool) (eU:Int→Option Int) (K1:Option Int) (i2:Int):Option Int:=
  (bif (decide (i2 < (d0.length:Int))) then ((fC d0 i2).bind fun x5=>((d1 x5).bind fun Je=>(bif Je then some i2 else (eU (i2+1))))) else (K1))
noncomputable def cO (d0:List aO) (d1:aO→Option Bool) (K1:Option Int):Nat→Int→Option Int
  |0,_=>none
  |g+1,i2=>fM d0 d1 (cO d0 d1 K1 g) K1 i2
noncomputable def iO (d0:List aO) (d1:aO→Option Bool):Option Int:=
  (cO d0 d1 eP (d0.length+1) 0)
set_option maxHeartbeats 2000000 in
theorem Bq (d0:List aO) (d1:aO→Option Bool) (r:Int) (hm:iO d0 d1=some r) (v0:Value) (PE:FuncId) (qx:Array Value) (w:World) (hv0:Sl nS 8 w v0 d0) (aan:isGo Tryz.prog PE=true) (hf1 :∀(x0:aO) (b:Bool),d1 x0=some b→∀w1,Below w.heap.size w w1→∀y0,St nS w1 y0 x0→Calls Tryz.prog PE (#[y0] ++ qx) w1 fun e w2=>e=.returned (.bool b)∧Below w1.heap.size w1 w2) :
    Calls Tryz.prog 96 #[v0,.func (.func PE) #[] qx] w fun e w'=>e=.returned (.int .i64 r)∧Below w.heap.size w w':=by
  obtain ⟨Bc,na0,ca0,rfl,ha0,GN⟩:=hv0;obtain ⟨rfl,qa0⟩:=bI ha0 GN;have T:=Below.refl w.heap.size w;unfold iO at hm;refine enter 19 Tryz.func96 rfl rfl rfl ?_;intro f hf;have s0:f 0=.slice Bc d0.length ca0:=hf 0 _ rfl;have s1:f 1=.func (.func PE) #[] qx:=hf 1 _ rfl;refine wp_seq<|au rfl<|aW (.int .i64 0)<|RQ.nil<|ah<|wp_seq<|wp_seq<|au rfl<|aT s0<|yH rfl<|dF (.int .i64 0)<|RQ.nil<|ah<|wp_block ?_;obtain ⟨K1,hK1,hm⟩ :∃K,K=eP∧cO d0 d1 K (d0.length+1) 0=some r:=⟨_,rfl,hm⟩;refine dG (fun g f w'=>∃(i2:Int),f 0=.slice Bc d0.length ca0∧f 1=.func (.func PE) #[] qx∧f 7=.int .i64 (d0.length:Int)∧f 8=.int .i64 i2∧0≤i2∧Below w.heap.size w w'∧cO d0 d1 K1 g i2=some r) 0 (fun f w'=>Below w.heap.size w w'∧eP  = some r) (d0.length+1) ⟨0,s0,s1,rfl,rfl,(by omega),T,hm⟩ ?_ ?_
  ·rintro f w1 ⟨T,hm⟩;unfold eP at hm;refine dW (ah ?_);refine wp_seq<|au rfl<|aW (.int .i64 (-1))<|RQ.nil<|ah<|wp_ret ?_
   cases hm
   exact (aV rfl rfl rfl ⟨rfl,T⟩)
  rintro g f w3 ⟨i2,dQ,iF,D6,Qz,av3,T,hm⟩;rcases g with _|g
  ·simp only [cO] at hm; cases hm
  obtain ⟨eU,d_,hm⟩ :∃z,z=cO d0 d1 K1 g∧fM d0 d1 z K1 i2=some r:=⟨_,rfl,hm⟩;unfold fM at hm;refine wp_seq<|au rfl<|uZ (.bool (decide (i2 < (d0.length:Int)))) Qz D6 rfl<|RQ.nil<|ah<|wp_seq ?_;rcases aB (decide (i2 < (d0.length:Int))) with c4|c4
  ·replace hm:=cF c4 hm;have pc4:=of_decide_eq_false c4;refine iH c4<|wp_exit ?_;exact (bQ (bQ (iW ⟨_,rfl,⟨T,(by rw [hK1] at hm; exact hm)⟩⟩)))
  replace hm:=cT c4 hm;have pc4:=of_decide_eq_true c4;refine ig c4<|wp_skip<|ah<|wp_seq<|wp_block<|wp_seq<|au rfl<|aT Qz<|aW (.int .i64 i2)<|RQ.nil<|ah<|wp_seq<|cZ rfl<|aT iF<|aT dQ<|dF (.int .i64 i2) ?_;obtain ⟨x5,hx8,hm⟩:=bnd hm;obtain ⟨k6,hk9,az6,hx8⟩:=aU hx8;obtain ⟨b12,o13,rfl,av4⟩:=ha0.addr (by omega);obtain ⟨cs7,afj,aao⟩:=ha0.el hx8;have aIZ:=afj;obtain ⟨A14,n14,c14,A15,n15,c15,A16,n16,c16,A17,n17,c17,rfl,⟨h14,r14⟩,⟨h15,r15⟩,⟨h16,r16⟩,⟨h17,r17⟩⟩:=afj;obtain ⟨rfl,q14⟩:=bI h14 r14;obtain ⟨rfl,q15⟩:=bI h15 r15;obtain ⟨rfl,q16⟩:=bI h16 r16;obtain ⟨rfl,q17⟩:=bI h17 r17;refine RQ.y rfl (Y.indexAddr (m:=k6) (sz:=8) rfl rfl hk9 az6 (by kernel_rfl))<|LC [.int .i64 x5.kind,.int .i64 x5.value,.slice A14 x5.data.length c14,.int .i64 x5.closure.term.kind,.int .i64 x5.closure.term.value,.slice A15 x5.closure.term.data.length c15,.slice A16 x5.closure.term.kids.length c16,.slice A17 x5.closure.env.length c17] rfl (QC (bV (cellT T (aao 0 _ rfl))) (bV (cellT T (aao 1 _ rfl))) (bV (cellT T (aao 2 _ rfl))) (bV (cellT T (aao 3 _ rfl))) (bV (cellT T (aao 4 _ rfl))) (bV (cellT T (aao 5 _ rfl))) (bV (cellT T (aao 6 _ rfl))) (bV (cellT T (aao 7 _ rfl)))) ?_;obtain ⟨Je,e19,hm⟩:=bnd hm;refine RQ.Jb rfl rfl (qZ rfl) aan (v:=.bool Je) (bel (K:=fun _=>True) fun w' hb'=>hf1 x5 Je e19 w' (Tt T hb') _ (fE (R:=nS) ⟨_,_,_,_,_,_,_,_,_,_,_,_,rfl,⟨aY.now aG h14 (dB) (Tt T hb'),r14⟩,⟨aY.now aG h15 (dB) (Tt T hb'),r15⟩,⟨aY.now aK h16 (dB) (Tt T hb'),r16⟩,⟨aY.now aG h17 (dB) (Tt T hb'),r17⟩⟩))<|RQ.nil ?_;intro w20 adY;have aA8:=adY.size;have T:=Tt T adY;refine ah ?_;rcases aB Je with EC|EC
  ·replace hm:=cF EC hm;refine iH EC<|wp_skip ?_;refine eF (ah ?_);refine au rfl<|RQ.y rfl (Y.dS Qz rfl (bn (m:=i2) (by omega)))<|dF (.int .i64 (i2+1))<|RQ.nil ?_;exact (ah ⟨g,_,Nat.lt_succ_self _,rfl,⟨(i2+1),dQ,iF,D6,rfl,(by omega),T,(by rw [← d_]; exact hm)⟩⟩)
  replace hm:=cT EC hm;refine ig EC<|wp_seq<|au rfl<|dF (.int .i64 i2)<|aW (.int .i64 i2)<|RQ.nil<|ah<|wp_ret ?_
  cases hm
  exact (bC (aF (aF (jG (bC (aF (aV rfl rfl rfl ⟨rfl,T⟩)))))))
noncomputable def fO (d0:List aO) (d1:aO→Option Bool):Option Bool:=
  ((iO d0 d1).bind fun y1=>some (decide (y1 ≥ 0)))
set_option maxHeartbeats 2000000 in
theorem Ae (d0:List aO) (d1:aO→Option Bool) (r:Bool) (hm:fO d0 d1=some r) (v0:Value) (PE:FuncId) (qx:Array Value) (w:World) (hv0:Sl nS 8 w v0 d0) (aan:isGo Tryz.prog PE=true) (hf1 :∀(x0:aO) (b:Bool),d1 x0=some b→∀w1,Below w.heap.size w w1→∀y0,St nS w1 y0 x0→Calls Tryz.prog PE (#[y0] ++ qx) w1 fun e w2=>e=.returned (.bool b)∧Below w1.heap.size w1 w2) :
    Calls Tryz.prog 60 #[v0,.func (.func PE) #[] qx] w fun e w'=>e=.returned (.bool r)∧Below w.heap.size w w':=by
  obtain ⟨Bc,na0,ca0,rfl,ha0,GN⟩:=hv0;obtain ⟨rfl,qa0⟩:=bI ha0 GN;have T:=Below.refl w.heap.size w;unfold fO at hm;refine enter 9 Tryz.func60 rfl rfl rfl ?_;intro f hf;have s0:f 0=.slice Bc d0.length ca0:=hf 0 _ rfl;have s1:f 1=.func (.func PE) #[] qx:=hf 1 _ rfl;refine wp_seq<|au rfl<|aW (.bool false)<|RQ.nil<|ah<|wp_seq<|cZ rfl<|aT s0<|aT s1 ?_;obtain ⟨y1,e2,hm⟩:=bnd hm;refine RQ.call rfl (qV rfl rfl) (by kernel_rfl) (v:=.int .i64 y1) (bel (K:=fun _=>True) fun w' hb'=>(Bq d0 d1 _ e2 _ _ _ w' (eY kF ha0 GN (Tt T hb')) aan (fun x0 b hx w1 hb1 y0 hy0=>hf1 x0 b hx w1 (Tt (Tt T hb') hb1) y0 hy0)))<|iq (.bool (decide (y1 ≥ 0)))<|aW (.bool (decide (y1 ≥ 0)))<|RQ.nil ?_;intro w3 hb4;have T:=Tt T hb4;refine ah<|wp_ret ?_
  cases hm
  exact (aV rfl rfl rfl ⟨rfl,T⟩)
noncomputable def wR (d0:aO) (d1:aN) (d2:dY):Option Bool:=
  ((qJ d1 d2 d0).bind fun GI=>some (!GI))
set_option maxHeartbeats 2000000 in
theorem WY (d0:aO) (d1:aN) (d2:dY) (r:Bool) (hm:wR d0 d1 d2=some r) (v0:Value) (v1:Value) (v2:Value) (w:World) (hv0:St nS w v0 d0) (hv1:Pt jQ w v1 d1) (hv2:Pt iI w v2 d2) :
    Calls Tryz.prog 61 #[v0,v1,v2] w fun e w'=>e=.returned (.bool r)∧Below w.heap.size w w':=by
  obtain ⟨lg,rfl,⟨A1,n1,c1,A2,n2,c2,A3,n3,c3,A4,n4,c4,rfl,⟨h1,r1⟩,⟨h2,r2⟩,⟨h3,r3⟩,⟨h4,r4⟩⟩⟩:=hv0;obtain ⟨rfl,q1⟩:=bI h1 r1;obtain ⟨rfl,q2⟩:=bI h2 r2;obtain ⟨rfl,q3⟩:=bI h3 r3;obtain ⟨rfl,q4⟩:=bI h4 r4;obtain ⟨P_,TU,SG,rfl,V9,KW,vk⟩:=hv1;have ahc:=KW;obtain ⟨A5,n5,c5,A6,n6,c6,A7,n7,c7,A8,n8,c8,A9,n9,c9,rfl,⟨h5,r5⟩,⟨h6,r6⟩,⟨h7,r7⟩,⟨h8,r8⟩,⟨h9,r9⟩⟩:=KW;obtain ⟨rfl,q5⟩:=bI h5 r5;obtain ⟨rfl,q6⟩:=bI h6 r6;obtain ⟨rfl,q7⟩:=bI h7 r7;obtain ⟨rfl,q8⟩:=bI h8 r8;obtain ⟨rfl,q9⟩:=bI h9 r9;obtain ⟨ba2,oa2,aQT,rfl,bbe,aQ7,aZf⟩:=hv2;have bbf:=aQ7;obtain ⟨A10,n10,c10,rfl,⟨h10,r10⟩⟩:=aQ7;obtain ⟨rfl,q10⟩:=bI h10 r10;have T:=Below.refl w.heap.size w;unfold wR at hm;refine enter 9 Tryz.func61 rfl rfl rfl ?_;intro f hf;have s0:f 0=.agg #[.int .i64 d0.kind,.int .i64 d0.value,.slice A1 d0.data.length c1,.int .i64 d0.closure.term.kind,.int .i64 d0.closure.term.value,.slice A2 d0.closure.term.data.length c2,.slice A3 d0.closure.term.kids.length c3,.slice A4 d0.closure.env.length c4]:=hf 0 _ rfl;have s1:f 1=.pointer (some ⟨P_,TU,none⟩):=hf 1 _ rfl;have s2:f 2=.pointer (some ⟨ba2,oa2,none⟩):=hf 2 _ rfl;refine wp_seq<|bF rfl ?_;refine RL.box rfl s0 (fun uS gY Ad WV=>?_);replace gY:dD uS w.heap.size 77 #[.int .i64 d0.kind,.int .i64 d0.value,.slice A1 d0.data.length c1,.int .i64 d0.closure.term.kind,.int .i64 d0.closure.term.value,.slice A2 d0.closure.term.data.length c2,.slice A3 d0.closure.term.kids.length c3,.slice A4 d0.closure.env.length c4]:=gY;have ap_:w.heap.size≤w.heap.size:=T.size;have T:=Tt T Ad;refine Ez (.bool false)<|RL.nil<|ah<|wp_seq<|cZ rfl<|LC [.slice A10 d2.defs.length c10] s2 (FD (bV (cellT T (aZf 0 _ rfl))))<|LC [.int .i64 d0.kind,.int .i64 d0.value,.slice A1 d0.data.length c1,.int .i64 d0.closure.term.kind,.int .i64 d0.closure.term.value,.slice A2 d0.closure.term.data.length c2,.slice A3 d0.closure.term.kids.length c3,.slice A4 d0.closure.env.length c4] rfl (QC (bV (aj gY (i:=0) rfl)) (bV (aj gY (i:=1) rfl)) (bV (aj gY (i:=2) rfl)) (bV (aj gY (i:=3) rfl)) (bV (aj gY (i:=4) rfl)) (bV (aj gY (i:=5) rfl)) (bV (aj gY (i:=6) rfl)) (bV (aj gY (i:=7) rfl))) ?_;obtain ⟨GI,e16,hm⟩:=bnd hm;refine RQ.call rfl (Vu s1 rfl rfl) (by kernel_rfl) (v:=.bool GI) (bel (K:=fun _=>True) fun w' hb'=>(QG d1 d2 d0 _ e16 _ _ _ w' (l9 fP V9 ahc vk (Tt T hb')) (fE (R:=iI) ⟨_,_,_,rfl,⟨aY.now aK h10 (dB) (Tt T hb'),r10⟩⟩) (fE (R:=nS) ⟨_,_,_,_,_,_,_,_,_,_,_,_,rfl,⟨aY.now aG h1 (dB) (Tt T hb'),r1⟩,⟨aY.now aG h2 (dB) (Tt T hb'),r2⟩,⟨aY.now aK h3 (dB) (Tt T hb'),r3⟩,⟨aY.now aG h4 (dB) (Tt T hb'),r4⟩⟩)))<|RQ.y rfl (Y.not (b':=(!GI)) rfl rfl)<|aW (.bool (!GI))<|RQ.nil ?_
  intro w17 PN;have T:=Tt T PN;refine ah<|wp_ret ?_
  cases hm
  exact (aV rfl rfl rfl ⟨rfl,T⟩)
noncomputable def nP (d0:dY) (d1:aN):Option Bool:=
  ((fO d1.stack (fun x0=>wR x0 d1 d0)).bind fun y28=>some (!y28))
noncomputable def vI (d0:dY) (d1:aN) (eU:Int→Option Bool) (K1:Option Bool) (i32:Int):Option Bool:=
  (bif (decide (i32 < (d1.heap.length:Int))) then ((fC d1.heap i32).bind fun I5=>((iG d1 d0 (⟨(⟨I5.closure.term.kind,I5.closure.term.value,I5.closure.term.data,I5.closure.term.kids⟩:ak),I5.closure.env⟩:ay)).bind fun y54=>(bif y54 then (bif I5.done then ((qH (⟨(⟨I5.closure.term.kind,I5.closure.term.value,I5.closure.term.data,I5.closure.term.kids⟩:ak),I5.closure.env⟩:ay)).bind fun y62=>(bif y62 then (eU (i32+1)) else some false)) else (eU (i32+1))) else some false))) else (K1))
noncomputable def jK (d0:dY) (d1:aN) (K1:Option Bool):Nat→Int→Option Bool
  |0,_=>none
  |g+1,i32=>vI d0 d1 (jK d0 d1 K1 g) K1 i32
noncomputable def AB (d0:dY) (d1:aN):Option Bool:=
  ((vH d0).bind fun GI=>(bif GI then (bif (decide ((d1.heap.length:Int) > 2000)) then some false else (bif (decide ((d1.stack.length:Int) > 400)) then some false else ((iG d1 d0 (⟨(⟨d1.control.term.kind,d1.control.term.value,d1.control.term.data,d1.control.term.kids⟩:ak),d1.control.env⟩:ay)).bind fun y22=>(bif y22 then (jK d0 d1 (nP d0 d1) (d1.heap.length+1) 0) else some false)))) else some false))
set_option maxHeartbeats 2000000 in
theorem aay (d0:dY) (d1:aN) (r:Bool) (hm:AB d0 d1=some r) (v0:Value) (v1:Value) (w:World) (hv0:St iI w v0 d0) (hv1:St jQ w v1 d1) :
    Calls Tryz.prog 25 #[v0,v1] w fun e w'=>e=.returned (.bool r)∧Below w.heap.size w w':=by
  obtain ⟨lg,rfl,⟨A1,n1,c1,rfl,⟨h1,r1⟩⟩⟩:=hv0;obtain ⟨rfl,q1⟩:=bI h1 r1;obtain ⟨SG,rfl,⟨A2,n2,c2,A3,n3,c3,A4,n4,c4,A5,n5,c5,A6,n6,c6,rfl,⟨h2,r2⟩,⟨h3,r3⟩,⟨h4,r4⟩,⟨h5,r5⟩,⟨h6,r6⟩⟩⟩:=hv1;obtain ⟨rfl,q2⟩:=bI h2 r2;obtain ⟨rfl,q3⟩:=bI h3 r3;obtain ⟨rfl,q4⟩:=bI h4 r4;obtain ⟨rfl,q5⟩:=bI h5 r5;obtain ⟨rfl,q6⟩:=bI h6 r6;have T:=Below.refl w.heap.size w;unfold AB at hm;refine enter 57 Tryz.func25 rfl rfl rfl ?_;intro f hf;have s0:f 0=.agg #[.slice A1 d0.defs.length c1]:=hf 0 _ rfl;have s1:f 1=.agg #[.int .i64 d1.control.term.kind,.int .i64 d1.control.term.value,.slice A2 d1.control.term.data.length c2,.slice A3 d1.control.term.kids.length c3,.slice A4 d1.control.env.length c4,.slice A5 d1.stack.length c5,.slice A6 d1.heap.length c6]:=hf 1 _ rfl;refine wp_seq<|bF rfl ?_;refine RL.box rfl s0 (fun w7 B8 Zc aj_=>?_);replace B8:dD w7 w.heap.size 48 #[.slice A1 d0.defs.length c1]:=B8;have GB8:w.heap.size≤w.heap.size:=T.size;have T:=Tt T Zc;refine RL.box rfl s1 (fun uS gY Ad WV=>?_);replace gY:dD uS w7.heap.size 44 #[.int .i64 d1.control.term.kind,.int .i64 d1.control.term.value,.slice A2 d1.control.term.data.length c2,.slice A3 d1.control.term.kids.length c3,.slice A4 d1.control.env.length c4,.slice A5 d1.stack.length c5,.slice A6 d1.heap.length c6]:=gY;have ap_:w.heap.size≤w7.heap.size:=T.size;have z_:=Nat.ne_of_lt B8.lt;have B8:=aX B8 Ad;have T:=Tt T Ad;refine Ez (.bool false)<|RL.nil<|ah<|wp_seq<|wp_seq<|cZ rfl<|LC [.slice A1 d0.defs.length c1] rfl (FD (bV (aj B8 (i:=0) rfl))) ?_;obtain ⟨GI,e16,hm⟩:=bnd hm;refine RQ.call rfl (qZ rfl) (by kernel_rfl) (v:=.bool GI) (bel (K:=fun _=>True) fun w' hb'=>(Wq d0 _ e16 _ w' (fE (R:=iI) ⟨_,_,_,rfl,⟨aY.now aK h1 (dB) (Tt T hb'),r1⟩⟩)))<|RQ.y rfl (Y.not (b':=(!GI)) rfl rfl)<|dF (.bool (!GI)) ?_;rcases aB GI with c17|c17
  ·replace hm:=cF c17 hm;iterate 4 refine RQ.skip (Gq (dj:=10) rfl (gQ rfl c17 rfl) rfl) ?_
   refine dN true (.bool true) (gQ rfl c17 rfl)<|dF (.bool true) ?_;iterate 4 refine RQ.skip (zZ 16) ?_
   refine dN true (.bool true) rfl<|dF (.bool true) ?_;iterate 5 refine RQ.skip (zZ 22) ?_
   refine dN true (.bool true) rfl<|RQ.nil ?_;intro w18 EP;have ahd:=EP.size;have B8:=aX B8 EP;have gY:=aX gY EP;have T:=Tt T EP;refine ah<|dX rfl rfl<|wp_seq<|au rfl<|aW (.bool false)<|RQ.nil<|ah<|wp_ret ?_
   cases hm
   exact (aF (aV rfl rfl rfl ⟨rfl,T⟩))
  replace hm:=cT c17 hm;refine RQ.y (eG (dj:=10) rfl (gQ rfl c17 rfl)) (Y.fieldAddr (off:=6) rfl (by kernel_rfl))<|RQ.y (eG (dj:=10) rfl (gQ rfl c17 rfl)) (Y.load (v:=.slice A6 d1.heap.length c6) rfl (by kernel_rfl) (bV (aj gY (i:=6) rfl)))<|RQ.y (eG (dj:=10) rfl (gQ rfl c17 rfl)) (Y.len (by kernel_rfl) rfl)<|RQ.y (eG (dj:=10) rfl (gQ rfl c17 rfl)) (Y.dS (v:=.bool (decide ((d1.heap.length:Int) > 2000))) rfl rfl rfl)<|dN false (.bool (decide ((d1.heap.length:Int) > 2000))) (gQ rfl c17 rfl)<|dF (.bool (decide ((d1.heap.length:Int) > 2000))) ?_;rcases aB (decide ((d1.heap.length:Int) > 2000)) with c20|c20
  ·replace hm:=cF c20 hm;have aKY:=of_decide_eq_false c20;refine RQ.y (bT 16 c20) (Y.fieldAddr (off:=5) rfl (by kernel_rfl))<|RQ.y (bT 16 c20) (Y.load (v:=.slice A5 d1.stack.length c5) rfl (by kernel_rfl) (bV (aj gY (i:=5) rfl)))<|RQ.y (bT 16 c20) (Y.len (by kernel_rfl) rfl)<|RQ.y (bT 16 c20) (Y.dS (v:=.bool (decide ((d1.stack.length:Int) > 400))) rfl rfl rfl)<|dN false (.bool (decide ((d1.stack.length:Int) > 400))) (vb rfl c20)<|dF (.bool (decide ((d1.stack.length:Int) > 400))) ?_;rcases aB (decide ((d1.stack.length:Int) > 400)) with c21|c21
   ·replace hm:=cF c21 hm;have aZg:=of_decide_eq_false c21;refine RQ.y (bT 22 c21) (Y.wH (cs:=[.slice A1 d0.defs.length c1]) rfl (by kernel_rfl) (FD (bV (aj B8 (i:=0) rfl))))<|RQ.y (bT 22 c21) (Y.fieldAddr (off:=0) rfl (by kernel_rfl))<|RQ.y (bT 22 c21) (Y.wH (cs:=[.int .i64 d1.control.term.kind,.int .i64 d1.control.term.value,.slice A2 d1.control.term.data.length c2,.slice A3 d1.control.term.kids.length c3,.slice A4 d1.control.env.length c4]) rfl (by kernel_rfl) (cells5 (bV (aj gY (i:=0) rfl)) (bV (aj gY (i:=1) rfl)) (bV (aj gY (i:=2) rfl)) (bV (aj gY (i:=3) rfl)) (bV (aj gY (i:=4) rfl)))) ?_;obtain ⟨y22,e23,hm⟩:=bnd hm;refine RQ.call (bT 22 c21) (Vu rfl rfl rfl) (by kernel_rfl) (v:=.bool y22) (bel (K:=fun _=>True) fun w' hb'=>(qG d1 d0 (⟨(⟨d1.control.term.kind,d1.control.term.value,d1.control.term.data,d1.control.term.kids⟩:ak),d1.control.env⟩:ay) _ e23 _ _ _ w' (Vw (R:=jQ) (aX gY hb') ⟨_,_,_,_,_,_,_,_,_,_,_,_,_,_,_,rfl,⟨aY.now aG h2 (dB) (Tt T hb'),r2⟩,⟨aY.now aK h3 (dB) (Tt T hb'),r3⟩,⟨aY.now aG h4 (dB) (Tt T hb'),r4⟩,⟨aY.now kF h5 (dB) (Tt T hb'),r5⟩,⟨aY.now nN h6 (dB) (Tt T hb'),r6⟩⟩) (fE (R:=iI) ⟨_,_,_,rfl,⟨aY.now aK h1 (dB) (Tt T hb'),r1⟩⟩) (fE (R:=dM) ⟨_,_,_,_,_,_,_,_,_,rfl,⟨aY.now aG h2 (dB) (Tt T hb'),r2⟩,⟨aY.now aK h3 (dB) (Tt T hb'),r3⟩,⟨aY.now aG h4 (dB) (Tt T hb'),r4⟩⟩)))<|RQ.y (bT 22 c21) (Y.not (b':=(!y22)) rfl rfl)<|dN false (.bool (!y22)) (vb rfl c21)<|RQ.nil ?_;intro w24 PI;have afl:=PI.size;have B8:=aX B8 PI;have gY:=aX gY PI;have T:=Tt T PI;refine ah ?_;rcases aB y22 with Jj|Jj
    ·replace hm:=cF Jj hm;refine dX rfl (gQ rfl Jj rfl)<|wp_seq<|au rfl<|aW (.bool false)<|RQ.nil<|ah<|wp_ret ?_
     cases hm
     exact (aF (aV rfl rfl rfl ⟨rfl,T⟩))
    replace hm:=cT Jj hm;refine gU rfl (gQ rfl Jj rfl)<|wp_skip<|ah<|wp_seq<|wp_seq<|au rfl<|gy 6 rfl<|gZ (.slice A6 d1.heap.length c6) rfl (cu (aj gY (i:=6) rfl))<|yH rfl<|dF (.int .i64 0)<|RQ.nil<|ah<|wp_block ?_;obtain ⟨K1,hK1,hm⟩ :∃K,K=(nP d0 d1)∧jK d0 d1 K (d1.heap.length+1) 0=some r:=⟨_,rfl,hm⟩;refine dG (fun g f w'=>∃(i32:Int),f 2=.pointer (some ⟨w.heap.size,0,none⟩)∧f 3=.pointer (some ⟨w7.heap.size,0,none⟩)∧f 30=.slice A6 d1.heap.length c6∧f 31=.int .i64 (d1.heap.length:Int)∧f 32=.int .i64 i32∧0≤i32∧dD w' w.heap.size 48 #[.slice A1 d0.defs.length c1]∧dD w' w7.heap.size 44 #[.int .i64 d1.control.term.kind,.int .i64 d1.control.term.value,.slice A2 d1.control.term.data.length c2,.slice A3 d1.control.term.kids.length c3,.slice A4 d1.control.env.length c4,.slice A5 d1.stack.length c5,.slice A6 d1.heap.length c6]∧Below w.heap.size w w'∧jK d0 d1 K1 g i32=some r) 0 (fun f w'=>f 2=.pointer (some ⟨w.heap.size,0,none⟩)∧f 3=.pointer (some ⟨w7.heap.size,0,none⟩)∧dD w' w.heap.size 48 #[.slice A1 d0.defs.length c1]∧dD w' w7.heap.size 44 #[.int .i64 d1.control.term.kind,.int .i64 d1.control.term.value,.slice A2 d1.control.term.data.length c2,.slice A3 d1.control.term.kids.length c3,.slice A4 d1.control.env.length c4,.slice A5 d1.stack.length c5,.slice A6 d1.heap.length c6]∧Below w.heap.size w w'∧nP d0 d1  = some r) (d1.heap.length+1) ⟨0,rfl,rfl,rfl,rfl,rfl,(by omega),B8,gY,T,hm⟩ ?_ ?_
    ·rintro f w27 ⟨Ho,Bg,B8,gY,T,hm⟩;unfold nP at hm;refine dW (ah ?_);refine wp_seq<|cZ rfl<|gy 5 Bg<|gZ (.slice A5 d1.stack.length c5) rfl (bV (aj gY (i:=5) rfl))<|RQ.y rfl (Y.makeFunc (vals:=#[.pointer (some ⟨w7.heap.size,0,none⟩),.pointer (some ⟨w.heap.size,0,none⟩)]) (qV Bg Ho)) ?_;obtain ⟨y28,e29,hm⟩:=bnd hm;refine RQ.call rfl (qV rfl rfl) (by kernel_rfl) (v:=.bool y28) (bel (K:=fun _=>True) fun w' hb'=>(Ae d1.stack (fun x0=>wR x0 d1 d0) _ e29 _ _ _ w' (eY kF h5 r5 (Tt T hb')) (by kernel_rfl) (fun x0 b hx w1 hb1 y0 hy0=>Calls.arr (by simp) (WY x0 d1 d0 _ hx _ _ _ w1 hy0 (Vw (R:=jQ) (aX gY (Tt hb' hb1)) ⟨_,_,_,_,_,_,_,_,_,_,_,_,_,_,_,rfl,⟨aY.now aG h2 (dB) (Tt (Tt T hb') hb1),r2⟩,⟨aY.now aK h3 (dB) (Tt (Tt T hb') hb1),r3⟩,⟨aY.now aG h4 (dB) (Tt (Tt T hb') hb1),r4⟩,⟨aY.now kF h5 (dB) (Tt (Tt T hb') hb1),r5⟩,⟨aY.now nN h6 (dB) (Tt (Tt T hb') hb1),r6⟩⟩) (Vw (R:=iI) (aX B8 (Tt hb' hb1)) ⟨_,_,_,rfl,⟨aY.now aK h1 (dB) (Tt (Tt T hb') hb1),r1⟩⟩)))))<|RQ.y rfl (Y.not (b':=(!y28)) rfl rfl)<|aW (.bool (!y28))<|RQ.nil ?_;intro w30 KY;have ahm:=KY.size;have T:=Tt T KY;refine ah<|wp_ret ?_
     cases hm
     exact (aV rfl rfl rfl ⟨rfl,T⟩)
    rintro g f w33 ⟨i32,yT,jE,aBg,aBh,awy,aZh,B8,gY,T,hm⟩;rcases g with _|g
    ·simp only [jK] at hm; cases hm
    obtain ⟨eU,d_,hm⟩ :∃z,z=jK d0 d1 K1 g∧vI d0 d1 z K1 i32=some r:=⟨_,rfl,hm⟩;unfold vI at hm;refine wp_seq<|au rfl<|uZ (.bool (decide (i32 < (d1.heap.length:Int)))) awy aBh rfl<|RQ.nil<|ah<|wp_seq ?_;rcases aB (decide (i32 < (d1.heap.length:Int))) with c34|c34
    ·replace hm:=cF c34 hm;have pc34:=of_decide_eq_false c34;refine iH c34<|wp_exit ?_;exact (bQ (bQ (iW ⟨_,rfl,⟨yT,jE,B8,gY,T,(by rw [hK1] at hm; exact hm)⟩⟩)))
    replace hm:=cT c34 hm;have pc34:=of_decide_eq_true c34;refine ig c34<|wp_skip<|ah<|wp_seq<|wp_block<|wp_seq<|bF rfl ?_;obtain ⟨I5,hx38,hm⟩:=bnd hm;obtain ⟨k36,aLC,aLD,hx38⟩:=aU hx38;obtain ⟨b42,o43,rfl,aQ8⟩:=h6.addr (by omega);obtain ⟨aQ9,aaz,WZ⟩:=h6.el hx38;have aLE:=aaz;obtain ⟨A44,n44,Uh,A45,n45,ZF,A46,n46,c46,rfl,⟨h44,r44⟩,⟨h45,r45⟩,⟨h46,r46⟩⟩:=aaz;obtain ⟨rfl,q44⟩:=bI h44 r44;obtain ⟨rfl,q45⟩:=bI h45 r45;obtain ⟨rfl,q46⟩:=bI h46 r46;refine RL.y rfl (Y.indexAddr (m:=k36) (sz:=6) aBg awy aLC aLD (by kernel_rfl))<|Sm [.bool I5.done,.int .i64 I5.closure.term.kind,.int .i64 I5.closure.term.value,.slice A44 I5.closure.term.data.length Uh,.slice A45 I5.closure.term.kids.length ZF,.slice A46 I5.closure.env.length c46] rfl (QB (cu (cellT T (WZ 0 _ rfl))) (cu (cellT T (WZ 1 _ rfl))) (cu (cellT T (WZ 2 _ rfl))) (cu (cellT T (WZ 3 _ rfl))) (cu (cellT T (WZ 4 _ rfl))) (cu (cellT T (WZ 5 _ rfl)))) ?_;refine RL.alloc (z:=.agg #[.bool false,.int .i64 0,.int .i64 0,.slice none 0 0,.slice none 0 0,.slice none 0 0]) rfl (by kernel_rfl) (fun w47 B48 aqb awz=>?_);replace B48:dD w47 w33.heap.size 73 #[.bool false,.int .i64 0,.int .i64 0,.slice none 0 0,.slice none 0 0,.slice none 0 0]:=B48;have bbg:w.heap.size≤w33.heap.size:=T.size;have atj:=Nat.ne_of_lt B8.lt;have atl:=Nat.ne_of_lt gY.lt;have B8:=aX B8 aqb;have gY:=aX gY aqb;have T:=Tt T aqb;refine RL.store (v:=.agg #[.bool I5.done,.int .i64 I5.closure.term.kind,.int .i64 I5.closure.term.value,.slice A44 I5.closure.term.data.length Uh,.slice A45 I5.closure.term.kids.length ZF,.slice A46 I5.closure.env.length c46]) (cs':=#[.bool I5.done,.int .i64 I5.closure.term.kind,.int .i64 I5.closure.term.value,.slice A44 I5.closure.term.data.length Uh,.slice A45 I5.closure.term.kids.length ZF,.slice A46 I5.closure.env.length c46]) rfl rfl rfl B48 (by kernel_rfl) (by rfl) (by rfl) (by rfl) (fun w51 B52 MR=>?_);have aJs:=MR.size;have B8:=B8.bK MR (by intro hin; simp at hin; exact atj hin);have gY:=gY.bK MR (by intro hin; simp at hin; exact atl hin);have T:=T.trans (MR.below (by first|(simp; done)|(simp; omega)));refine RL.nil<|ah<|wp_seq<|cZ rfl<|LC [.slice A1 d0.defs.length c1] yT (FD (bV (aj B8 (i:=0) rfl)))<|gy 1 rfl<|LC [.int .i64 I5.closure.term.kind,.int .i64 I5.closure.term.value,.slice A44 I5.closure.term.data.length Uh,.slice A45 I5.closure.term.kids.length ZF,.slice A46 I5.closure.env.length c46] rfl (cells5 (bV (aj B52 (i:=1) rfl)) (bV (aj B52 (i:=2) rfl)) (bV (aj B52 (i:=3) rfl)) (bV (aj B52 (i:=4) rfl)) (bV (aj B52 (i:=5) rfl))) ?_
    obtain ⟨y54,e55,hm⟩:=bnd hm;refine RQ.call rfl (Vu jE rfl rfl) (by kernel_rfl) (v:=.bool y54) (bel (K:=fun _=>True) fun w' hb'=>(qG d1 d0 (⟨(⟨I5.closure.term.kind,I5.closure.term.value,I5.closure.term.data,I5.closure.term.kids⟩:ak),I5.closure.env⟩:ay) _ e55 _ _ _ w' (Vw (R:=jQ) (aX gY hb') ⟨_,_,_,_,_,_,_,_,_,_,_,_,_,_,_,rfl,⟨aY.now aG h2 (dB) (Tt T hb'),r2⟩,⟨aY.now aK h3 (dB) (Tt T hb'),r3⟩,⟨aY.now aG h4 (dB) (Tt T hb'),r4⟩,⟨aY.now kF h5 (dB) (Tt T hb'),r5⟩,⟨aY.now nN h6 (dB) (Tt T hb'),r6⟩⟩) (fE (R:=iI) ⟨_,_,_,rfl,⟨aY.now aK h1 (dB) (Tt T hb'),r1⟩⟩) (fE (R:=dM) ⟨_,_,_,_,_,_,_,_,_,rfl,⟨aY.now aG h44 (dB) (Tt T hb'),r44⟩,⟨aY.now aK h45 (dB) (Tt T hb'),r45⟩,⟨aY.now aG h46 (dB) (Tt T hb'),r46⟩⟩)))<|RQ.y rfl (Y.not (b':=(!y54)) rfl rfl)<|dF (.bool (!y54)) ?_;rcases aB y54 with Ui|Ui
    ·replace hm:=cF Ui hm;iterate 3 refine RQ.skip (Gq (dj:=41) rfl (gQ rfl Ui rfl) rfl) ?_
     iterate 4 refine RQ.skip rfl ?_
     refine RQ.skip (Gq (dj:=41) rfl (gQ rfl Ui rfl) rfl)<|dN true (.bool true) (gQ rfl Ui rfl)<|RQ.nil ?_;intro w57 akb;have aA9:=akb.size;have B8:=aX B8 akb;have gY:=aX gY akb;have T:=Tt T akb;refine ah<|dX rfl rfl<|wp_seq<|au rfl<|aW (.bool false)<|RQ.nil<|ah<|wp_ret ?_
     cases hm
     exact (bC (aF (aF (jG (bC (aF (aV rfl rfl rfl ⟨rfl,T⟩)))))))
    replace hm:=cT Ui hm;refine RQ.y (eG (dj:=41) rfl (gQ rfl Ui rfl)) (Y.fieldAddr (off:=0) rfl (by kernel_rfl))<|RQ.y (eG (dj:=41) rfl (gQ rfl Ui rfl)) (Y.load (v:=.bool I5.done) rfl (by kernel_rfl) (bV (aj B52 (i:=0) rfl)))<|RQ.y (eG (dj:=41) rfl (gQ rfl Ui rfl)) (Y.move (v:=.bool I5.done) rfl) ?_;rcases aB I5.done with c59|c59
    ·replace hm:=cF c59 hm;iterate 4 refine RQ.skip (oL 44 c59) ?_
     refine RQ.y (eG (dj:=41) rfl (gQ rfl Ui rfl)) (Y.pick (b:=false) (v:=.bool false) (vb rfl c59) rfl)<|dN false (.bool false) (gQ rfl Ui rfl)<|RQ.nil ?_;intro w60 GL;have aJt:=GL.size;have B8:=aX B8 GL;have gY:=aX gY GL;have T:=Tt T GL;refine ah<|gU rfl rfl<|wp_skip ?_;refine eF (ah ?_);refine au rfl<|RQ.y rfl (Y.dS awy rfl (bn (m:=i32) (by omega)))<|dF (.int .i64 (i32+1))<|RQ.nil ?_;exact (ah ⟨g,_,Nat.lt_succ_self _,rfl,⟨(i32+1),yT,jE,aBg,aBh,rfl,(by omega),B8,gY,T,(by rw [← d_]; exact hm)⟩⟩)
    replace hm:=cT c59 hm;refine RQ.y (bT 44 c59) (Y.fieldAddr (off:=1) rfl (by kernel_rfl))<|RQ.y (bT 44 c59) (Y.wH (cs:=[.int .i64 I5.closure.term.kind,.int .i64 I5.closure.term.value,.slice A44 I5.closure.term.data.length Uh,.slice A45 I5.closure.term.kids.length ZF,.slice A46 I5.closure.env.length c46]) rfl (by kernel_rfl) (cells5 (bV (aj B52 (i:=1) rfl)) (bV (aj B52 (i:=2) rfl)) (bV (aj B52 (i:=3) rfl)) (bV (aj B52 (i:=4) rfl)) (bV (aj B52 (i:=5) rfl)))) ?_;obtain ⟨y62,e63,hm⟩:=bnd hm;refine RQ.call (bT 44 c59) (qZ rfl) (by kernel_rfl) (v:=.bool y62) (bel (K:=fun _=>True) fun w' hb'=>(QE (⟨(⟨I5.closure.term.kind,I5.closure.term.value,I5.closure.term.data,I5.closure.term.kids⟩:ak),I5.closure.env⟩:ay) _ e63 _ w' (fE (R:=dM) ⟨_,_,_,_,_,_,_,_,_,rfl,⟨aY.now aG h44 (dB) (Tt T hb'),r44⟩,⟨aY.now aK h45 (dB) (Tt T hb'),r45⟩,⟨aY.now aG h46 (dB) (Tt T hb'),r46⟩⟩)))<|RQ.y (bT 44 c59) (Y.not (b':=(!y62)) rfl rfl)<|RQ.y (eG (dj:=41) rfl (gQ rfl Ui rfl)) (Y.pick (b:=true) (v:=.bool (!y62)) (vb rfl c59) rfl)<|dN false (.bool (!y62)) (gQ rfl Ui rfl)<|RQ.nil ?_;intro w64 Wi;have aAI:=Wi.size;have B8:=aX B8 Wi;have gY:=aX gY Wi;have T:=Tt T Wi;refine ah ?_;rcases aB y62 with c66|c66
    ·replace hm:=cF c66 hm;refine dX rfl (gQ rfl c66 rfl)<|wp_seq<|au rfl<|aW (.bool false)<|RQ.nil<|ah<|wp_ret ?_
     cases hm
     exact (bC (aF (aF (jG (bC (aF (aV rfl rfl rfl ⟨rfl,T⟩)))))))
    replace hm:=cT c66 hm;refine gU rfl (gQ rfl c66 rfl)<|wp_skip ?_;refine eF (ah ?_);refine au rfl<|RQ.y rfl (Y.dS awy rfl (bn (m:=i32) (by omega)))<|dF (.int .i64 (i32+1))<|RQ.nil ?_;exact (ah ⟨g,_,Nat.lt_succ_self _,rfl,⟨(i32+1),yT,jE,aBg,aBh,rfl,(by omega),B8,gY,T,(by rw [← d_]; exact hm)⟩⟩)
   replace hm:=cT c21 hm;have aZg:=of_decide_eq_true c21;iterate 5 refine RQ.skip (oL 22 c21) ?_
   refine dN true (.bool true) (vb rfl c21)<|RQ.nil ?_;intro w68 as3;have aI6:=as3.size;have B8:=aX B8 as3;have gY:=aX gY as3;have T:=Tt T as3;refine ah<|dX rfl rfl<|wp_seq<|au rfl<|aW (.bool false)<|RQ.nil<|ah<|wp_ret ?_
   cases hm
   exact (aF (aV rfl rfl rfl ⟨rfl,T⟩))
  replace hm:=cT c20 hm;have aKY:=of_decide_eq_true c20;iterate 4 refine RQ.skip (oL 16 c20) ?_
  refine dN true (.bool true) (vb rfl c20)<|dF (.bool true) ?_;iterate 5 refine RQ.skip (zZ 22) ?_
  refine dN true (.bool true) rfl<|RQ.nil ?_;intro w70 Wj;have aI5:=Wj.size;have B8:=aX B8 Wj;have gY:=aX gY Wj;have T:=Tt T Wj;refine ah<|dX rfl rfl<|wp_seq<|au rfl<|aW (.bool false)<|RQ.nil<|ah<|wp_ret ?_
  cases hm
  exact (aF (aV rfl rfl rfl ⟨rfl,T⟩))
end
section
open Go.RowKit
theorem ak.aQ_ {x y:ak} (h:y∈x.kids):SizeOf.sizeOf y < SizeOf.sizeOf x:=by
 obtain ⟨a,b,c,d⟩:=x
 have:=List.sizeOf_lt_of_mem h
 simp only [ak.mk.sizeOf_spec]
 simp only at this
 omega
theorem ak.aZi (x:ak):0 < SizeOf.sizeOf x:=by cases x; simp; omega
theorem loopA {α ρ:Type} {L:Nat→Int→Option ρ} {d:List α} {p:α→Bool} {no K:Option ρ} (h :∀g (k:Nat) (hk:k < d.length),L (g+1) (k:Int)=bif p d[k] then L g ((k:Int)+1) else no) (he :∀g,L (g+1) (d.length:Int)=K):L (d.length+1) 0=bif d.all p then K else no:=by
 have key :∀(m k g:Nat),k+m=d.length→m < g→L g (k:Int)=bif (d.drop k).all p then K else no:=by
  intro m
  induction m with
  |zero=>
   intro k g hk hg
   obtain ⟨g,rfl⟩ :∃g',g=g'+1:=⟨g - 1,by omega⟩
   rw [show k=d.length by omega,he,List.drop_length]; rfl
  |succ m ih=>
   intro k g hk hg
   obtain ⟨g,rfl⟩ :∃g',g=g'+1:=⟨g - 1,by omega⟩
   have hl:k < d.length:=by omega
   rw [h g k hl,List.drop_eq_getElem_cons hl,List.all_cons]
   cases hp:p d[k] with
   |false=>rfl
   |true=>rw [cond_true,Bool.true_and,show ((k:Int)+1)=((k+1:Nat):Int) by omega]; exact ih (k+1) g (by omega) (by omega)
 have:=key d.length 0 (d.length+1) (by omega) (by omega)
 simpa using this
def idxs (d:List Int):Bool:=d.all fun k=>ni k 0 23
/-- The own form of a node. -/
def Hw (x:ak):Bool:=
 (if x.kind=1 then ni x.value 0 255 && (decide (x.data.length=0) && decide (x.kids.length=0))
 else if x.kind=2 then ni x.value (-2147483648) 2147483647 && (decide (x.data.length=0) && decide (x.kids.length=0))
 else if x.kind=3 then ni x.value 1 6 && (decide (x.data.length=0) && decide (x.kids.length=2))
 else if x.kind=4 ∨ x.kind=6 then decide (x.value=0) && (decide (x.data.length=0) && decide (x.kids.length=1))
 else if x.kind=5 ∨ x.kind=7 then decide (x.value=0) && (decide (x.data.length=0) && decide (x.kids.length=2))
 else if x.kind=8 then ni x.value 0 3 && (decide (x.data.length=0) && decide (x.kids.length≤3))
 else if x.kind=9 then decide (x.value=0) && ((decide (1≤x.data.length) && decide (x.data.length≤4)) && decide (x.kids.length=1))
 else if x.kind=10 then decide (x.value=0) && (decide (x.data.length=2) && decide (x.kids.length=1))
 else if x.kind=11 then ni x.value 0 23 && (decide (x.data.length=0) && decide (x.kids.length=0))
 else false) && idxs x.data
mutual
def Hy:ak→Bool
 |⟨k,v,d,ks⟩=>Hw ⟨k,v,d,ks⟩ && amr ks
def amr:List ak→Bool
 |[]=>true
 |x :: xs=>Hy x && amr xs
end
mutual
def iw:ak→Nat
 |⟨_,_,_,ks⟩=>ou ks+1
def ou:List ak→Nat
 |[]=>0
 |x :: xs=>if iw x > ou xs then iw x else ou xs
end
mutual
def dV:ak→Nat
 |⟨_,_,_,ks⟩=>1+Hz ks
def Hz:List ak→Nat
 |[]=>0
 |x :: xs=>dV x+Hz xs
end
theorem Un (x:ak):Hy x=(Hw x && amr x.kids):=by
 obtain ⟨a,b,c,d⟩:=x
 rw [Hy]
theorem abt :∀xs:List ak,amr xs=xs.all Hy
 |[]=>by rw [amr]; rfl
 |x :: xs=>by rw [amr,abt xs,List.all_cons]
theorem DC (x:ak):iw x=ou x.kids+1:=by
 obtain ⟨a,b,c,d⟩:=x
 rw [iw]
theorem DF :∀(xs:List ak) (m:Nat),ou xs≤m↔∀x∈xs,iw x≤m
 |[],m=>by rw [ou]; simp
 |x :: xs,m=>by
  rw [ou]
  have ih:=DF xs m
  simp only [List.mem_cons,forall_eq_or_imp]
  rw [← ih]
  split <;> omega
theorem Gy (x:ak):dV x=1+Hz x.kids:=by
 obtain ⟨a,b,c,d⟩:=x
 rw [dV]
theorem FI :∀xs:List ak,Hz xs=(xs.map dV).sum
 |[]=>by rw [Hz]; rfl
 |x :: xs=>by rw [Hz,FI xs,List.map_cons,List.sum_cons]
mutual
theorem aaA :∀x:ak,iw x≤dV x
 |⟨k,v,d,ks⟩=>by
  have:=abu ks
  rw [iw,dV]
  omega
theorem abu :∀xs:List ak,ou xs≤Hz xs
 |[]=>by rw [ou]; omega
 |x :: xs=>by
  have h1:=aaA x
  have h2:=abu xs
  rw [ou,Hz]
  split <;> omega
end
theorem W9 {xs:List ak} {k:Nat} (hk:k < xs.length):((xs.take k).map dV).sum+dV xs[k]≤(xs.map dV).sum:=by
 have h:xs=xs.take k ++ xs[k] :: xs.drop (k+1):=by rw [← List.drop_eq_getElem_cons hk,List.take_append_drop]
 have e:=congrArg (fun l=>(l.map dV).sum) h
 simp only [List.map_append,List.sum_append,List.map_cons,List.sum_cons] at e
 omega
theorem aLF {L:Nat→Int→Int→Int→Option (Int × Int × Bool)} {ks:List ak} {self:ak→Option (Int × Int × Bool)} {K:Int→Int→Option (Int × Int × Bool)}
  (h :∀g a b i,L (g+1) a b i=bif decide (i < (ks.length:Int)) then (fC ks i).bind fun x=>(self x).bind fun y=>bif y.2.2 then (ck (y.1+1)).bind fun s=>(ck (b+y.2.1)).bind fun s2=>L g (if s > a then s else a) s2 (i+1) else some (0,0,false) else K a b)
  (hs :∀x∈ks,∃r,self x=some r∧r.2.2=Hy x∧(Hy x=true→r.1=iw x∧r.2.1=dV x)) (hb:(ks.map dV).sum≤4294967296) :
  L (ks.length+1) 1 1 0=bif ks.all Hy then K ((ou ks+1:Nat):Int) (1+((ks.map dV).sum:Int)) else some (0,0,false):=by
 have hsplit :∀k,k≤ks.length→True:=fun _ _=>trivial
 have key :∀(m k g:Nat),k+m=ks.length→m < g→∀dep:Nat,(∀M,dep≤M↔1≤M∧∀x∈ks.take k,iw x+1≤M)→L g (dep:Int) (1+(((ks.take k).map dV).sum:Int)) (k:Int)=bif (ks.drop k).all Hy then K ((ou ks+1:Nat):Int) (1+((ks.map dV).sum:Int)) else some (0,0,false):=by
  intro m
  induction m with
  |zero=>
   intro k g hk hg dep ahq
   obtain ⟨g,rfl⟩ :∃g',g=g'+1:=⟨g - 1,by omega⟩
   obtain rfl:k=ks.length:=by omega
   rw [h,LG,cond_false,List.take_length,List.drop_length]
   have e:dep=ou ks+1:=by
    rw [List.take_length] at ahq
    have h1:=(ahq dep).1 (Nat.le_refl _)
    have h2:=(ahq (ou ks+1)).2 ⟨by omega,fun x hx=>by have:=(DF ks (ou ks)).1 (Nat.le_refl _) x hx; omega⟩
    have h3:=(DF ks (dep - 1)).2 (fun x hx=>by have:=h1.2 x hx; omega)
    omega
   rw [e]; rfl
  |succ m ih=>
   intro k g hk hg dep ahq
   obtain ⟨g,rfl⟩ :∃g',g=g'+1:=⟨g - 1,by omega⟩
   have hl:k < ks.length:=by omega
   have hm:=List.getElem_mem hl
   have hle:=W9 hl
   obtain ⟨r,hr,hr1,hr2⟩:=hs _ hm
   rw [h,LD hl,cond_true,jY hl,Option.bind_some,hr,Option.bind_some,hr1,List.drop_eq_getElem_cons hl,List.all_cons]
   cases hx:Hy ks[k] with
   |false=>rfl
   |true=>
    obtain ⟨e1,e2⟩:=hr2 hx
    have hdl:=aaA ks[k]
    rw [cond_true,Bool.true_and,e1,e2,yA (by omega),Option.bind_some,yA (by omega),Option.bind_some]
    have e3:(1+(((ks.take k).map dV).sum:Int)+(dV ks[k] : Int))=1+(((ks.take (k+1)).map dV).sum:Int):=by
     rw [take_snoc hl,List.map_append,List.sum_append]
     simp
     omega
    have e4:(if (iw ks[k] : Int)+1 > (dep:Int) then (iw ks[k] : Int)+1 else (dep:Int))=((if iw ks[k] + 1 > dep then iw ks[k] + 1 else dep:Nat):Int):=by split <;> split <;> omega
    rw [e3,e4,show ((k:Int)+1)=((k+1:Nat):Int) by omega]
    refine ih (k+1) g (by omega) (by omega) _ (fun M=>?_)
    have hd:=ahq M
    rw [take_snoc hl]
    simp only [List.mem_append,List.mem_singleton]
    constructor
    ·intro hM
     have hdM:dep≤M:=by split at hM <;> omega
     refine ⟨(hd.1 hdM).1,fun x hx=>?_⟩
     rcases hx with hx|hx
     ·exact (hd.1 hdM).2 x hx
     ·subst hx; split at hM <;> omega
    ·rintro ⟨hM,hall⟩
     have h1:=hd.2 ⟨hM,fun x hx=>hall x (.inl hx)⟩
     have h2:=hall _ (.inr rfl)
     split <;> omega
 have:=key ks.length 0 (ks.length+1) (by omega) (by omega) 1 (fun M=>by simp)
 simpa using this
theorem extC {L:Nat→Int→Int→Int→Option (Int × Int)} {ks:List ak} {self:ak→Option (Int × Int)} {K:Int→Int→Option (Int × Int)}
  (h :∀g a b i,L (g+1) a b i=bif decide (i < (ks.length:Int)) then (fC ks i).bind fun x=>(self x).bind fun y=>(ck (y.1+1)).bind fun s=>(ck (b+y.2)).bind fun s2=>L g (if s > a then s else a) s2 (i+1) else K a b)
  (hs :∀x∈ks,self x=some ((iw x:Int),(dV x:Int))) (hb:(ks.map dV).sum≤4294967296) :
  L (ks.length+1) 1 1 0=K ((ou ks+1:Nat):Int) (1+((ks.map dV).sum:Int)):=by
 have hsplit :∀k,k≤ks.length→True:=fun _ _=>trivial
 have key :∀(m k g:Nat),k+m=ks.length→m < g→∀dep:Nat,(∀M,dep≤M↔1≤M∧∀x∈ks.take k,iw x+1≤M)→L g (dep:Int) (1+(((ks.take k).map dV).sum:Int)) (k:Int)=K ((ou ks+1:Nat):Int) (1+((ks.map dV).sum:Int)):=by
  intro m
  induction m with
  |zero=>
   intro k g hk hg dep ahq
   obtain ⟨g,rfl⟩ :∃g',g=g'+1:=⟨g - 1,by omega⟩
   obtain rfl:k=ks.length:=by omega
   rw [h,LG,cond_false,List.take_length]
   have e:dep=ou ks+1:=by
    rw [List.take_length] at ahq
    have h1:=(ahq dep).1 (Nat.le_refl _)
    have h2:=(ahq (ou ks+1)).2 ⟨by omega,fun x hx=>by have:=(DF ks (ou ks)).1 (Nat.le_refl _) x hx; omega⟩
    have h3:=(DF ks (dep - 1)).2 (fun x hx=>by have:=h1.2 x hx; omega)
    omega
   rw [e]
  |succ m ih=>
   intro k g hk hg dep ahq
   obtain ⟨g,rfl⟩ :∃g',g=g'+1:=⟨g - 1,by omega⟩
   have hl:k < ks.length:=by omega
   have hm:=List.getElem_mem hl
   have hle:=W9 hl
   have hr:=hs _ hm
   rw [h,LD hl,cond_true,jY hl,Option.bind_some,hr,Option.bind_some]
   have hdl:=aaA ks[k]
   rw [yA (by omega),Option.bind_some,yA (by omega),Option.bind_some]
   have e3:(1+(((ks.take k).map dV).sum:Int)+(dV ks[k] : Int))=1+(((ks.take (k+1)).map dV).sum:Int):=by
    rw [take_snoc hl,List.map_append,List.sum_append]
    simp
    omega
   have e4:(if (iw ks[k] : Int)+1 > (dep:Int) then (iw ks[k] : Int)+1 else (dep:Int))=((if iw ks[k] + 1 > dep then iw ks[k] + 1 else dep:Nat):Int):=by split <;> split <;> omega
   rw [e3,e4,show ((k:Int)+1)=((k+1:Nat):Int) by omega]
   refine ih (k+1) g (by omega) (by omega) _ (fun M=>?_)
   have hd:=ahq M
   rw [take_snoc hl]
   simp only [List.mem_append,List.mem_singleton]
   constructor
   ·intro hM
    have hdM:dep≤M:=by split at hM <;> omega
    refine ⟨(hd.1 hdM).1,fun x hx=>?_⟩
    rcases hx with hx|hx
    ·exact (hd.1 hdM).2 x hx
    ·subst hx; split at hM <;> omega
   ·rintro ⟨hM,hall⟩
    have h1:=hd.2 ⟨hM,fun x hx=>hall x (.inl hx)⟩
    have h2:=hall _ (.inr rfl)
    split <;> omega
 have:=key ks.length 0 (ks.length+1) (by omega) (by omega) 1 (fun M=>by simp)
 simpa using this
end
section
open Go.RowKit
theorem ZE (n m:Nat):((n:Int)==(m:Int))=decide (n=m):=by rw [Bool.eq_iff_iff]; simp; try omega
theorem atm (n:Nat):((n:Int)==0)=decide (n=0):=ZE n 0
theorem aBi (n:Nat):((n:Int)==1)=decide (n=1):=ZE n 1
theorem aLG (n:Nat):((n:Int)==2)=decide (n=2):=ZE n 2
theorem yC (v m:Int):(v==m)=decide (v=m):=by rw [Bool.eq_iff_iff]; simp
theorem W_ (n:Nat):ni (n:Int) 0 0=decide (n=0):=by unfold ni; rw [Bool.eq_iff_iff]; simp; try omega
theorem Xa (n:Nat):ni (n:Int) 1 1=decide (n=1):=by unfold ni; rw [Bool.eq_iff_iff]; simp; try omega
theorem Xb (n:Nat):ni (n:Int) 2 2=decide (n=2):=by unfold ni; rw [Bool.eq_iff_iff]; simp; try omega
theorem Xc (n:Nat):ni (n:Int) 0 3=decide (n≤3):=by unfold ni; rw [Bool.eq_iff_iff]; simp; try omega
theorem Vz (n:Nat):ni (n:Int) 1 4=(decide (1≤n) && decide (n≤4)):=by unfold ni; rw [Bool.eq_iff_iff]; simp; try omega
theorem aRa (n:Nat):ni (n:Int) 0 (-1)=false:=by unfold ni; simp; try omega
theorem aGK (d:List Int):idxs d = !(d.any fun k=>!ag5 k):=by
 rw [List.not_any_eq_all_not]; unfold idxs
 congr 1; funext k; simp [ni,ag5]
theorem aBj {d:List Int} (h:d.length=0):idxs d=true:=by rw [List.eq_nil_of_length_eq_zero h]; rfl
theorem aGL (x:ak):tV x=some (Hw x):=by
 have hc:=Hg x.data (fun x0=>bM x0) (fun k=>!ag5 k) (fun y _=>by simp [bM,av_])
 have hv:decide (x.value ≥ 0)=decide (0≤x.value):=rfl
 have g1:decide ((x.data.length:Int) ≥ 1)=decide (1≤x.data.length):=decide_eq_decide.2 (by omega)
 have g4:decide ((x.data.length:Int)≤4)=decide (x.data.length≤4):=decide_eq_decide.2 (by omega)
 have g3:decide ((x.kids.length:Int)≤3)=decide (x.kids.length≤3):=decide_eq_decide.2 (by omega)
 have v4:decide (x.value < 4)=decide (x.value≤3):=decide_eq_decide.2 (by omega)
 have hi:idxs x.data = !(x.data.any fun k=>!ag5 k):=aGK _
 unfold tV Hw
 rw [hc,awc,apW,av_]
 simp -implicitDefEqProofs only [Option.bind_some,atm,aBi,aLG,g1,g4,g3,v4,hv,yC x.kind,yC x.value]
 rw [← hi]
 by_cases k1:x.kind=1
 ·rw [k1]
  simp -implicitDefEqProofs only [decide_true,if_true,reduceIte,reduceCtorEq,Int.reduceEq,decide_false,cond_true,cond_false,or_false,or_true,false_or,true_or]
  unfold ni
  cases decide (0≤x.value) <;> cases decide (x.value≤255) <;> cases decide (x.data.length=0) <;> cases decide (x.kids.length=0) <;> cases idxs x.data <;> rfl
 by_cases k2:x.kind=2
 ·rw [k2]
  simp -implicitDefEqProofs only [decide_true,if_true,reduceIte,reduceCtorEq,Int.reduceEq,decide_false,cond_true,cond_false,or_false,or_true,false_or,true_or]
  unfold ni anx
  cases decide (-2147483648≤x.value) <;> cases decide (x.value≤2147483647) <;> cases decide (x.data.length=0) <;> cases decide (x.kids.length=0) <;> cases idxs x.data <;> rfl
 by_cases k3:x.kind=3
 ·rw [k3]
  simp -implicitDefEqProofs only [decide_true,if_true,reduceIte,reduceCtorEq,Int.reduceEq,decide_false,cond_true,cond_false,or_false,or_true,false_or,true_or]
  unfold ni av9
  cases decide (1≤x.value) <;> cases decide (x.value≤6) <;> cases decide (x.data.length=0) <;> cases decide (x.kids.length=2) <;> cases idxs x.data <;> rfl
 by_cases k4:x.kind=4
 ·rw [k4]
  simp -implicitDefEqProofs only [decide_true,if_true,reduceIte,reduceCtorEq,Int.reduceEq,decide_false,cond_true,cond_false,or_false,or_true,false_or,true_or]
  cases decide (x.value=0) <;> cases decide (x.data.length=0) <;> cases decide (x.kids.length=1) <;> cases idxs x.data <;> rfl
 by_cases k6:x.kind=6
 ·rw [k6]
  simp -implicitDefEqProofs only [decide_true,if_true,reduceIte,reduceCtorEq,Int.reduceEq,decide_false,cond_true,cond_false,or_false,or_true,false_or,true_or]
  cases decide (x.value=0) <;> cases decide (x.data.length=0) <;> cases decide (x.kids.length=1) <;> cases idxs x.data <;> rfl
 by_cases k5:x.kind=5
 ·rw [k5]
  simp -implicitDefEqProofs only [decide_true,if_true,reduceIte,reduceCtorEq,Int.reduceEq,decide_false,cond_true,cond_false,or_false,or_true,false_or,true_or]
  cases decide (x.value=0) <;> cases decide (x.data.length=0) <;> cases decide (x.kids.length=2) <;> cases idxs x.data <;> rfl
 by_cases k7:x.kind=7
 ·rw [k7]
  simp -implicitDefEqProofs only [decide_true,if_true,reduceIte,reduceCtorEq,Int.reduceEq,decide_false,cond_true,cond_false,or_false,or_true,false_or,true_or]
  cases decide (x.value=0) <;> cases decide (x.data.length=0) <;> cases decide (x.kids.length=2) <;> cases idxs x.data <;> rfl
 by_cases k8:x.kind=8
 ·rw [k8]
  simp -implicitDefEqProofs only [decide_true,if_true,reduceIte,reduceCtorEq,Int.reduceEq,decide_false,cond_true,cond_false,or_false,or_true,false_or,true_or]
  by_cases h0:x.data.length=0
  ·rw [aBj h0,decide_eq_true h0]
   unfold ni
   cases decide (0≤x.value) <;> cases decide (x.value≤3) <;> cases decide (x.kids.length≤3) <;> rfl
  ·rw [decide_eq_false h0]
   cases ni x.value 0 3 <;> rfl
 by_cases k9:x.kind=9
 ·rw [k9]
  simp -implicitDefEqProofs only [decide_true,if_true,reduceIte,reduceCtorEq,Int.reduceEq,decide_false,cond_true,cond_false,or_false,or_true,false_or,true_or]
  cases decide (x.value=0) <;> cases decide (1≤x.data.length) <;> cases decide (x.data.length≤4) <;> cases decide (x.kids.length=1) <;> cases idxs x.data <;> rfl
 by_cases k10:x.kind=10
 ·rw [k10]
  simp -implicitDefEqProofs only [decide_true,if_true,reduceIte,reduceCtorEq,Int.reduceEq,decide_false,cond_true,cond_false,or_false,or_true,false_or,true_or]
  cases decide (x.value=0) <;> cases decide (x.data.length=2) <;> cases decide (x.kids.length=1) <;> cases idxs x.data <;> rfl
 by_cases k11:x.kind=11
 ·rw [k11]
  simp -implicitDefEqProofs only [decide_true,if_true,reduceIte,reduceCtorEq,Int.reduceEq,decide_false,cond_true,cond_false,or_false,or_true,false_or,true_or]
  unfold ni ag5
  cases decide (0≤x.value) <;> cases decide (x.value≤23) <;> cases decide (x.data.length=0) <;> cases decide (x.kids.length=0) <;> cases idxs x.data <;> rfl
 simp [k1,k2,k3,k4,k6,k5,k7,k8,k9,k10,k11]
mutual
def rE:ak→Nat
 |⟨_,_,d,ks⟩=>d.length+(ks.length+E5 ks)
def E5:List ak→Nat
 |[]=>0
 |x :: xs=>rE x+E5 xs
end
mutual
theorem SS :∀x:ak,dV x≤1+rE x
 |⟨k,v,d,ks⟩=>by
  have:=ahr ks
  rw [dV,rE]
  omega
theorem ahr :∀xs:List ak,Hz xs≤xs.length+E5 xs
 |[]=>by rw [Hz]; omega
 |x :: xs=>by
  have h1:=SS x
  have h2:=ahr xs
  rw [Hz,E5,List.length_cons]
  omega
end
/-- A valid core term. -/
def EI (x:ak):Bool:=Hy x && (decide (iw x≤80) && decide (dV x≤400))
theorem ams :∀(dJ:Nat) (x:ak),SizeOf.sizeOf x≤dJ→dV x≤4294967296→∃r,oZ dJ x=some r∧r.2.2=Hy x∧(Hy x=true→r.1=iw x∧r.2.1=dV x)
 |0,x,h,_=>by have:=x.pos; omega
 |dJ+1,x,hg,hb=>by
  have ih:=ams dJ
  have e:oZ (dJ+1) x=wO (oZ dJ) x:=rfl
  have hkb:(x.kids.map dV).sum≤4294967296:=by rw [Gy,FI] at hb; omega
  rw [e]
  unfold wO
  rw [aGL,Option.bind_some,aLF (L:=nO x (oZ dJ) vF) (fun g a b i=>rfl) (fun y hy=>ih y (by have:=ak.Df hy; omega) (by have:=Hl (f:=dV) hy; omega)) hkb]
  rw [Un,abt,DC,Gy,FI]
  cases hf:Hw x with
  |false=>exact ⟨_,rfl,rfl,fun h=>by cases h⟩
  |true=>
   rw [cond_true,Bool.true_and]
   cases hk:x.kids.all Hy with
   |false=>exact ⟨_,rfl,rfl,fun h=>by cases h⟩
   |true=>exact ⟨_,rfl,rfl,fun _=>⟨rfl,by simp⟩⟩
theorem awC :∀(dJ:Nat) (x:ak),SizeOf.sizeOf x≤dJ→dV x≤4294967296→nU dJ x=some ((iw x:Int),(dV x:Int))
 |0,x,h,_=>by have:=x.pos; omega
 |dJ+1,x,hg,hb=>by
  have ih:=awC dJ
  have e:nU (dJ+1) x=vG (nU dJ) x:=rfl
  have hkb:(x.kids.map dV).sum≤4294967296:=by rw [Gy,FI] at hb; omega
  rw [e]
  unfold vG
  rw [extC (L:=mJ x (nU dJ) o8) (fun g a b i=>rfl) (fun y hy=>ih y (by have:=ak.Df hy; omega) (by have:=Hl (f:=dV) hy; omega)) hkb]
  rw [DC,Gy,FI]
  unfold o8
  simp
theorem abv (x:ak) (hb:dV x≤4294967296):vY x=some (EI x):=by
 unfold vY EZ EI
 obtain ⟨r,e,h1,h2⟩:=ams _ x (Nat.le_refl _) hb
 rw [e,Option.bind_some,h1,awC _ x (Nat.le_refl _) hb,Option.bind_some]
 cases ho:Hy x with
 |false=>rfl
 |true=>
  rw [cond_true,Bool.true_and]
  simp only
  rw [show decide ((iw x:Int)≤80)=decide (iw x≤80) from decide_eq_decide.2 (by omega),show decide ((dV x:Int)≤400)=decide (dV x≤400) from decide_eq_decide.2 (by omega)]
  cases decide (iw x≤80) <;> rfl
/-- What l06Nodes answers. -/
def N7 (x:ak) (d left:Int):Int:=if Hy x=true∧(iw x:Int)≤d∧(dV x:Int)≤left then (dV x:Int) else -1
theorem aLH {L:Nat→Int→Int→Option Int} {ks:List ak} {self:ak→Int→Int→Option Int} {d left:Int}
  (h :∀g acc i,L (g+1) acc i=bif decide (i < (ks.length:Int)) then (fC ks i).bind fun x=>(ck (d - 1)).bind fun s=>(ck (left - acc)).bind fun s1=>(self x s s1).bind fun y=>bif decide (y < 0) then some (-1) else (ck (acc+y)).bind fun s2=>L g s2 (i+1) else some acc)
  (hd:-9223372036854775808≤d - 1∧d - 1≤9223372036854775807) (hl0:1≤left) (hl1:left≤4294967296) (hs :∀x∈ks,∀m:Int,-4294967296≤m→m≤4294967296→self x (d - 1) m=some (N7 x (d - 1) m)) (hb:(ks.map dV).sum≤4294967296) :
  L (ks.length+1) 1 0=some (if (∀x∈ks,Hy x=true∧(iw x:Int)≤d - 1)∧1+((ks.map dV).sum:Int)≤left then 1+((ks.map dV).sum:Int) else -1):=by
 have key :∀(m k g:Nat),k+m=ks.length→m < g→1+(((ks.take k).map dV).sum:Int)≤left→L g (1+(((ks.take k).map dV).sum:Int)) (k:Int)=some (if (∀x∈ks.drop k,Hy x=true∧(iw x:Int)≤d - 1)∧1+((ks.map dV).sum:Int)≤left then 1+((ks.map dV).sum:Int) else -1):=by
  intro m
  induction m with
  |zero=>
   intro k g hk hg hle0
   obtain ⟨g,rfl⟩ :∃g',g=g'+1:=⟨g - 1,by omega⟩
   obtain rfl:k=ks.length:=by omega
   rw [List.take_length] at hle0
   rw [h,LG,cond_false,List.take_length,List.drop_length,if_pos ⟨by simp,hle0⟩]
  |succ m ih=>
   intro k g hk hg hle0
   obtain ⟨g,rfl⟩ :∃g',g=g'+1:=⟨g - 1,by omega⟩
   have hl:k < ks.length:=by omega
   have hm:=List.getElem_mem hl
   have hle:=W9 hl
   rw [h,LD hl,cond_true,jY hl,Option.bind_some,yA hd,Option.bind_some,yA (by omega),Option.bind_some,hs _ hm _ (by omega) (by omega),Option.bind_some,List.drop_eq_getElem_cons hl]
   have e1:(1+(((ks.take k).map dV).sum:Int)+(dV ks[k] : Int))=1+(((ks.take (k+1)).map dV).sum:Int):=by
    rw [take_snoc hl,List.map_append,List.sum_append]
    simp
    omega
   unfold N7
   by_cases hx:Hy ks[k] = true∧(iw ks[k] : Int)≤d - 1∧(dV ks[k] : Int)≤left - (1+(((ks.take k).map dV).sum:Int))
   ·rw [if_pos hx,decide_eq_false (by omega),cond_false,yA (by omega),Option.bind_some]
    rw [e1,show ((k:Int)+1)=((k+1:Nat):Int) by omega,ih (k+1) g (by omega) (by omega) (by omega)]
    congr 1
    apply aPP
    simp only [List.mem_cons,forall_eq_or_imp]
    exact ⟨fun h=>⟨⟨⟨hx.1,hx.2.1⟩,h.1⟩,h.2⟩,fun h=>⟨h.1.2,h.2⟩⟩
   ·rw [if_neg hx,decide_eq_true (by omega),cond_true,if_neg (fun hall=>hx ⟨(hall.1 _ List.mem_cons_self).1,(hall.1 _ List.mem_cons_self).2,by omega⟩)]
 have:=key ks.length 0 (ks.length+1) (by omega) (by omega) (by simpa using hl0)
 simpa using this
theorem amu :∀(dJ:Nat) (x:ak) (d left:Int),SizeOf.sizeOf x≤dJ→-4294967296≤d→d≤4294967296→-4294967296≤left→left≤4294967296→dV x≤4294967296→lq dJ x d left=some (N7 x d left)
 |0,x,d,left,h,_,_,_,_,_=>by have:=x.pos; omega
 |dJ+1,x,d,left,hg,h0,h1,hl0,hl1,hb=>by
  have ih:=amu dJ
  have e:lq (dJ+1) x d left=yS (lq dJ) x d left:=rfl
  have hkb:(x.kids.map dV).sum≤4294967296:=by rw [Gy,FI] at hb; omega
  have hpos:=Gy x
  have hdp:=DC x
  have hsh :∃y,BP x.kind=some y∧(ni (x.kids.length:Int) y.1 y.2.1 && (ni (x.data.length:Int) y.2.2.1 y.2.2.2 && ((match uP x with|some b=>b|none=>false) && idxs x.data)))=Hw x:=by
   unfold BP uP Hw
   simp -implicitDefEqProofs only [yC x.kind,yC x.value]
   by_cases k1:x.kind=1
   ·refine ⟨_,by rw [k1]; rfl,?_⟩
    rw [k1]
    simp -implicitDefEqProofs only [decide_true,if_true,reduceIte,Int.reduceEq,decide_false,cond_true,cond_false,or_false,or_true,false_or,true_or,W_,Xa,Xb,Xc,Vz]
    cases ni x.value 0 255 <;> cases decide (x.data.length=0) <;> cases decide (x.kids.length=0) <;> cases idxs x.data <;> rfl
   by_cases k2:x.kind=2
   ·refine ⟨_,by rw [k2]; rfl,?_⟩
    rw [k2]
    simp -implicitDefEqProofs only [decide_true,if_true,reduceIte,Int.reduceEq,decide_false,cond_true,cond_false,or_false,or_true,false_or,true_or,W_,Xa,Xb,Xc,Vz]
    cases ni x.value (-2147483648) 2147483647 <;> cases decide (x.data.length=0) <;> cases decide (x.kids.length=0) <;> cases idxs x.data <;> rfl
   by_cases k11:x.kind=11
   ·refine ⟨_,by rw [k11]; rfl,?_⟩
    rw [k11]
    simp -implicitDefEqProofs only [decide_true,if_true,reduceIte,Int.reduceEq,decide_false,cond_true,cond_false,or_false,or_true,false_or,true_or,W_,Xa,Xb,Xc,Vz]
    cases ni x.value 0 23 <;> cases decide (x.data.length=0) <;> cases decide (x.kids.length=0) <;> cases idxs x.data <;> rfl
   by_cases k3:x.kind=3
   ·refine ⟨_,by rw [k3]; rfl,?_⟩
    rw [k3]
    simp -implicitDefEqProofs only [decide_true,if_true,reduceIte,Int.reduceEq,decide_false,cond_true,cond_false,or_false,or_true,false_or,true_or,W_,Xa,Xb,Xc,Vz]
    cases ni x.value 1 6 <;> cases decide (x.data.length=0) <;> cases decide (x.kids.length=2) <;> cases idxs x.data <;> rfl
   by_cases k5:x.kind=5
   ·refine ⟨_,by rw [k5]; rfl,?_⟩
    rw [k5]
    simp -implicitDefEqProofs only [decide_true,if_true,reduceIte,Int.reduceEq,decide_false,cond_true,cond_false,or_false,or_true,false_or,true_or,W_,Xa,Xb,Xc,Vz]
    cases decide (x.value=0) <;> cases decide (x.data.length=0) <;> cases decide (x.kids.length=2) <;> cases idxs x.data <;> rfl
   by_cases k7:x.kind=7
   ·refine ⟨_,by rw [k7]; rfl,?_⟩
    rw [k7]
    simp -implicitDefEqProofs only [decide_true,if_true,reduceIte,Int.reduceEq,decide_false,cond_true,cond_false,or_false,or_true,false_or,true_or,W_,Xa,Xb,Xc,Vz]
    cases decide (x.value=0) <;> cases decide (x.data.length=0) <;> cases decide (x.kids.length=2) <;> cases idxs x.data <;> rfl
   by_cases k4:x.kind=4
   ·refine ⟨_,by rw [k4]; rfl,?_⟩
    rw [k4]
    simp -implicitDefEqProofs only [decide_true,if_true,reduceIte,Int.reduceEq,decide_false,cond_true,cond_false,or_false,or_true,false_or,true_or,W_,Xa,Xb,Xc,Vz]
    cases decide (x.value=0) <;> cases decide (x.data.length=0) <;> cases decide (x.kids.length=1) <;> cases idxs x.data <;> rfl
   by_cases k6:x.kind=6
   ·refine ⟨_,by rw [k6]; rfl,?_⟩
    rw [k6]
    simp -implicitDefEqProofs only [decide_true,if_true,reduceIte,Int.reduceEq,decide_false,cond_true,cond_false,or_false,or_true,false_or,true_or,W_,Xa,Xb,Xc,Vz]
    cases decide (x.value=0) <;> cases decide (x.data.length=0) <;> cases decide (x.kids.length=1) <;> cases idxs x.data <;> rfl
   by_cases k8:x.kind=8
   ·refine ⟨_,by rw [k8]; rfl,?_⟩
    rw [k8]
    simp -implicitDefEqProofs only [decide_true,if_true,reduceIte,Int.reduceEq,decide_false,cond_true,cond_false,or_false,or_true,false_or,true_or,W_,Xa,Xb,Xc,Vz]
    cases ni x.value 0 3 <;> cases decide (x.data.length=0) <;> cases decide (x.kids.length≤3) <;> cases idxs x.data <;> rfl
   by_cases k9:x.kind=9
   ·refine ⟨_,by rw [k9]; rfl,?_⟩
    rw [k9]
    simp -implicitDefEqProofs only [decide_true,if_true,reduceIte,Int.reduceEq,decide_false,cond_true,cond_false,or_false,or_true,false_or,true_or,W_,Xa,Xb,Xc,Vz]
    cases decide (x.value=0) <;> cases decide (1≤x.data.length) <;> cases decide (x.data.length≤4) <;> cases decide (x.kids.length=1) <;> cases idxs x.data <;> rfl
   by_cases k10:x.kind=10
   ·refine ⟨_,by rw [k10]; rfl,?_⟩
    rw [k10]
    simp -implicitDefEqProofs only [decide_true,if_true,reduceIte,Int.reduceEq,decide_false,cond_true,cond_false,or_false,or_true,false_or,true_or,W_,Xa,Xb,Xc,Vz]
    cases decide (x.value=0) <;> cases decide (x.data.length=2) <;> cases decide (x.kids.length=1) <;> cases idxs x.data <;> rfl
   refine ⟨_,by simp only [k1,k2,k3,k4,k6,k5,k7,k8,k9,k10,k11,decide_false,cond_false]; rfl,?_⟩
   simp [aRa,k1,k2,k3,k4,k6,k5,k7,k8,k9,k10,k11]
  have hval :∃b,uP x=some b:=by
   unfold uP
   cases x.kind==1 <;> cases x.kind==2 <;> cases x.kind==3 <;> cases x.kind==8 <;> cases x.kind==11 <;> exact ⟨_,rfl⟩
  obtain ⟨y,hy,hform⟩:=hsh
  obtain ⟨bv,hbv⟩:=hval
  rw [hbv] at hform
  simp only at hform
  rw [e]
  unfold yS
  rw [hy,Option.bind_some,hbv,Option.bind_some]
  have hbad:Hw x=false→N7 x d left = -1:=fun hf=>by
   unfold N7
   rw [Un,hf,Bool.false_and,if_neg (by simp)]
  by_cases hd:d < 1
  ·rw [decide_eq_true hd,cond_true]
   unfold N7
   rw [if_neg (by omega)]
  rw [decide_eq_false hd,cond_false]
  by_cases hl:left < 1
  ·rw [decide_eq_true hl,cond_true]
   unfold N7
   rw [if_neg (by omega)]
  rw [decide_eq_false hl,cond_false]
  have hs :∀z∈x.kids,∀m:Int,-4294967296≤m→m≤4294967296→lq dJ z (d - 1) m=some (N7 z (d - 1) m):=fun z hz m hm0 hm1=>
   ih z (d - 1) m (by have:=ak.Df hz; omega) (by omega) (by omega) hm0 hm1 (by have:=Hl (f:=dV) hz; omega)
  have hkids:=aLH (L:=oN x d left (lq dJ) wJ) (fun g acc i=>rfl) (by omega) (by omega) hl1 hs hkb
  have hdata:=loopA (L:=kH x (oO x d left (lq dJ))) (d:=x.data) (p:=fun k=>ni k 0 23) (no:=some (-1)) (K:=oO x d left (lq dJ))
   (fun g k hk=>by simp -implicitDefEqProofs only [kH,wK,LD hk,cond_true,jY hk,Option.bind_some])
   (fun g=>by simp -implicitDefEqProofs only [kH,wK,LG,cond_false])
  rw [hdata]
  unfold oO
  rw [hkids]
  have hfin:Hw x=true→N7 x d left=(if (∀z∈x.kids,Hy z=true∧(iw z:Int)≤d - 1)∧1+((x.kids.map dV).sum:Int)≤left then 1+((x.kids.map dV).sum:Int) else -1):=fun hf=>by
   unfold N7
   rw [Un,hf,Bool.true_and,abt,Gy,FI,DC]
   have hc:(x.kids.all Hy=true∧((ou x.kids+1:Nat):Int)≤d∧((1+(x.kids.map dV).sum:Nat):Int)≤left)↔((∀z∈x.kids,Hy z=true∧(iw z:Int)≤d - 1)∧1+((x.kids.map dV).sum:Int)≤left):=by
    rw [List.all_eq_true]
    have hdl:=DF x.kids (d - 1).toNat
    constructor
    ·rintro ⟨a,b,c⟩
     refine ⟨fun z hz=>⟨a z hz,?_⟩,by omega⟩
     have:=hdl.1 (by omega) z hz
     omega
    ·rintro ⟨a,c⟩
     refine ⟨fun z hz=>(a z hz).1,?_,by omega⟩
     have:=hdl.2 (fun z hz=>by have:=(a z hz).2; omega)
     omega
   rw [aPP hc]
   split <;> simp
  revert hform
  have hix:(x.data.all fun k=>ni k 0 23)=idxs x.data:=rfl
  rw [hix]
  cases h1:ni (x.kids.length:Int) y.1 y.2.1 <;> cases h2:ni (x.data.length:Int) y.2.2.1 y.2.2.2 <;> cases bv <;> cases h4:idxs x.data <;> intro hform <;> first
   |(rw [hbad hform.symm]; rfl)
   |(rw [hfin hform.symm]; rfl)
theorem aBk (x:ak) (hb:dV x≤4294967296):D7 x=some (EI x):=by
 unfold D7
 rw [amu _ x 80 400 (Nat.le_refl _) (by decide) (by decide) (by decide) (by decide) hb,Option.bind_some]
 unfold N7 EI
 have hp:=Gy x
 congr 1
 by_cases h:Hy x=true∧(iw x:Int)≤80∧(dV x:Int)≤400
 ·rw [if_pos h,h.1,decide_eq_true (show iw x≤80 by omega),decide_eq_true (show dV x≤400 by omega),decide_eq_true (by omega)]; rfl
 ·rw [if_neg h]
  symm
  rw [show decide ((-1:Int) > 0)=false by decide,← Bool.not_eq_true]
  intro hh
  simp at hh
  exact h ⟨hh.1,by omega,by omega⟩
end
section
open Go.RowKit
theorem KZ {α:Type} (d:List α) (p:α→Bool):(!(d.any fun x=>!p x))=d.all p:=by
 rw [List.not_any_eq_all_not]
 simp
end
section
open Go.RowKit
def SV (k:Int) (i:Nat):Int:=if k=4 then 1 else if k=7∧i=1 then 1 else 0
def abL (f:ak→Int→Bool) (k:Int):List ak→Nat→Int→Bool
 |[],_,_=>false
 |y :: ys,i,d=>f y (d+SV k i)||abL f k ys (i+1) d
/-- Whether a term has a free variable of d or more. -/
def Zl:Nat→ak→Int→Bool
 |0,_,_=>false
 |g+1,x,d=>if x.kind=1 then decide (d≤x.value) else abL (Zl g) x.kind x.kids 0 d
theorem agy (k:Int) (i:Nat):0≤SV k i∧SV k i≤1:=by unfold SV; split <;> (try split) <;> omega
theorem aBl {L:Nat→Int→Option Bool} {ks:List ak} {f:ak→Int→Bool} {kd d:Int} {hit:Bool} (h :∀g (k:Nat) (hk:k < ks.length),L (g+1) (k:Int)=bif f ks[k] (d+SV kd k) then some hit else L g ((k:Int)+1)) (he :∀g,L (g+1) (ks.length:Int)=some (!hit)):L (ks.length+1) 0=some (if abL f kd ks 0 d=true then hit else !hit):=by
 have key :∀(m k g:Nat),k+m=ks.length→m < g→L g (k:Int)=some (if abL f kd (ks.drop k) k d=true then hit else !hit):=by
  intro m
  induction m with
  |zero=>
   intro k g hk hg
   obtain ⟨g,rfl⟩ :∃g',g=g'+1:=⟨g - 1,by omega⟩
   rw [show k=ks.length by omega,he,List.drop_length]; rfl
  |succ m ih=>
   intro k g hk hg
   obtain ⟨g,rfl⟩ :∃g',g=g'+1:=⟨g - 1,by omega⟩
   have hl:k < ks.length:=by omega
   rw [h g k hl,List.drop_eq_getElem_cons hl,abL]
   cases hp:f ks[k] (d+SV kd k) with
   |true=>rfl
   |false=>rw [cond_false,Bool.false_or,show ((k:Int)+1)=((k+1:Nat):Int) by omega]; exact ih (k+1) g (by omega) (by omega)
 have:=key ks.length 0 (ks.length+1) (by omega) (by omega)
 simpa using this
theorem ahs {x y:ak} {m:Nat} (h:iw x≤m+1) (hy:y∈x.kids):iw y≤m:=by
 have e:=DC x
 exact (DF x.kids m).1 (by omega) y hy
theorem aqc (x:ak) (k:Nat):yI x (k:Int)=some (SV x.kind k):=by
 unfold yI SV
 rw [yC x.kind,yC x.kind]
 by_cases h4:x.kind=4
 ·rw [decide_eq_true h4,if_pos h4]; rfl
 ·rw [decide_eq_false h4,cond_false,if_neg h4]
  by_cases h7:x.kind=7
  ·rw [decide_eq_true h7,cond_true,aBi]
   by_cases hk:k=1
   ·rw [decide_eq_true hk,if_pos ⟨h7,hk⟩]; rfl
   ·rw [decide_eq_false hk,if_neg (fun h=>hk h.2)]; rfl
  ·rw [decide_eq_false h7,cond_false,if_neg (fun h=>h7 h.1)]
theorem aht :∀(dJ:Nat) (x:ak) (d:Int) (m:Nat),SizeOf.sizeOf x≤dJ→iw x≤m→0≤d→d+m≤9223372036854775807→oG dJ x d=some (Zl dJ x d)
 |0,x,d,m,h,_,_,_=>by have:=x.pos; omega
 |dJ+1,x,d,m,hg,hm,h0,h1=>by
  have e:oG (dJ+1) x d=yU (oG dJ) x d:=rfl
  have ec:Zl (dJ+1) x d=if x.kind=1 then decide (d≤x.value) else abL (Zl dJ) x.kind x.kids 0 d:=rfl
  have hp:=DC x
  obtain ⟨m,rfl⟩ :∃m',m=m'+1:=⟨m - 1,by omega⟩
  rw [e,ec]
  unfold yU
  rw [yC x.kind]
  by_cases hk:x.kind=1
  ·rw [decide_eq_true hk,cond_true,if_pos hk]
  ·rw [decide_eq_false hk,cond_false,if_neg hk]
   rw [aBl (L:=kJ x d (oG dJ) rZ) (ks:=x.kids) (f:=Zl dJ) (kd:=x.kind) (d:=d) (hit:=true)
    (fun g k hk=>by
     have hb:=agy x.kind k
     have hy:=List.getElem_mem hk
     simp -implicitDefEqProofs only [kJ,wL,LD hk,cond_true,jY hk,Option.bind_some,aqc,yA (show -9223372036854775808≤d+SV x.kind k∧d+SV x.kind k≤9223372036854775807 by omega),aht dJ x.kids[k] (d+SV x.kind k) m (by have:=ak.Df hy; omega) (ahs hm hy) (by omega) (by omega)])
    (fun g=>by simp -implicitDefEqProofs only [kJ,wL,LG,cond_false,rZ,Bool.not_true])]
   cases abL (Zl dJ) x.kind x.kids 0 d <;> rfl
theorem aBm (x:ak) (k:Nat):uH x (k:Int)=some (SV x.kind k):=by
 unfold uH SV D5
 rw [yC x.kind,yC x.kind]
 by_cases h4:x.kind=4
 ·rw [decide_eq_true h4,if_pos h4]; rfl
 ·rw [decide_eq_false h4,cond_false,if_neg h4]
  by_cases h7:x.kind=7
  ·rw [decide_eq_true h7,cond_true,aBi]
   by_cases hk:k=1
   ·rw [decide_eq_true hk,if_pos ⟨h7,hk⟩]; rfl
   ·rw [decide_eq_false hk,if_neg (fun h=>hk h.2)]; rfl
  ·rw [decide_eq_false h7,cond_false,if_neg (fun h=>h7 h.1)]; rfl
theorem awD {x:ak} (h:Hy x=true) (hk:x.kind=1):x.kids=[]:=by
 rw [Un] at h
 have hf:Hw x=true:=by revert h; cases Hw x <;> simp
 unfold Hw at hf
 rw [if_pos hk] at hf
 simp at hf
 exact hf.1.2.2
theorem aBn {x y:ak} (h:Hy x=true) (hy:y∈x.kids):Hy y=true:=by
 rw [Un,abt,Bool.and_eq_true] at h
 exact List.all_eq_true.1 h.2 y hy
theorem aaB :∀(dJ:Nat) (x:ak) (d:Int) (m:Nat),SizeOf.sizeOf x≤dJ→Hy x=true→iw x≤m→0≤d→d+m≤9223372036854775807→jC dJ x d=some (!Zl dJ x d)
 |0,x,d,m,h,_,_,_,_=>by have:=x.pos; omega
 |dJ+1,x,d,m,hg,ho,hm,h0,h1=>by
  have e:jC (dJ+1) x d=tX (jC dJ) x d:=rfl
  have ec:Zl (dJ+1) x d=if x.kind=1 then decide (d≤x.value) else abL (Zl dJ) x.kind x.kids 0 d:=rfl
  have hp:=DC x
  obtain ⟨m,rfl⟩ :∃m',m=m'+1:=⟨m - 1,by omega⟩
  rw [e,ec]
  unfold tX
  rw [yC x.kind]
  by_cases hk:x.kind=1
  ·rw [decide_eq_true hk,cond_true,if_pos hk,awD ho hk]
   by_cases hv:d≤x.value
   ·rw [show decide (x.value ≥ d)=decide (d≤x.value) from rfl,decide_eq_true hv]; rfl
   ·rw [show decide (x.value ≥ d)=decide (d≤x.value) from rfl,decide_eq_false hv,cond_false]
    have hl:x.kids.length=0:=by rw [awD ho hk]; rfl
    show jH x d (jC dJ) rO 1 0=_
    simp -implicitDefEqProofs only [jH,yg,hl]
    rfl
  ·rw [decide_eq_false hk,cond_false,if_neg hk]
   rw [aBl (L:=iL x d (jC dJ) nX) (ks:=x.kids) (f:=Zl dJ) (kd:=x.kind) (d:=d) (hit:=false)
    (fun g k hk=>by
     have hb:=agy x.kind k
     have hy:=List.getElem_mem hk
     simp -implicitDefEqProofs only [iL,rM,LD hk,cond_true,jY hk,Option.bind_some,aBm,yA (show -9223372036854775808≤d+SV x.kind k∧d+SV x.kind k≤9223372036854775807 by omega),aaB dJ x.kids[k] (d+SV x.kind k) m (by have:=ak.Df hy; omega) (aBn ho hy) (ahs hm hy) (by omega) (by omega)]
     cases Zl dJ x.kids[k] (d+SV x.kind k) <;> rfl)
    (fun g=>by simp -implicitDefEqProofs only [iL,rM,LG,cond_false,nX,Bool.not_false])]
   cases abL (Zl dJ) x.kind x.kids 0 d <;> rfl
theorem anF {d:List ak} {f:ak→Option Bool} {p:ak→Bool} (h :∀x∈d,f x=some (p x)):dL d f=some (d.any p):=by
 unfold dL jm
 rw [aPO (L:=dw d f fA) (d:=d) (p:=p)
  (fun g k hk=>by simp -implicitDefEqProofs only [dw,gu,LD hk,cond_true,jY hk,Option.bind_some,h _ (List.getElem_mem hk)])
  (fun g=>by simp -implicitDefEqProofs only [dw,gu,LG,cond_false,fA]) _ (Nat.lt_succ_self _)]
 rw [Option.bind_some,awg]
theorem aGM {d:List aO} {f:aO→Option Bool} {p:aO→Bool} (h :∀x∈d,f x=some (p x)):fO d f=some (d.any p):=by
 unfold fO iO
 rw [aPO (L:=cO d f eP) (d:=d) (p:=p)
  (fun g k hk=>by simp -implicitDefEqProofs only [cO,fM,LD hk,cond_true,jY hk,Option.bind_some,h _ (List.getElem_mem hk)])
  (fun g=>by simp -implicitDefEqProofs only [cO,fM,LG,cond_false,eP]) _ (Nat.lt_succ_self _)]
 rw [Option.bind_some,awg]
/-- Whether a node meets q. -/
def DI:Nat→(ak→Bool)→ak→Bool
 |0,_,_=>false
 |g+1,q,x=>q x||x.kids.any (DI g q)
def erB (c:ak):Bool:=decide (c.kind=6)||decide (c.kind=7)
def Uo (n:Int) (c:ak):Bool:=(decide (c.kind=11) && decide (n≤c.value))||c.data.any fun k=>decide (n≤k)
theorem aBo :∀(dJ:Nat) (x:ak) (f:ak→Option Bool) (q:ak→Bool),(∀y,f y=some (q y))→SizeOf.sizeOf x≤dJ→oh dJ x f=some (DI dJ q x)
 |0,x,f,q,_,h=>by have:=x.pos; omega
 |dJ+1,x,f,q,hf,hg=>by
  have e:oh (dJ+1) x f=(f x).bind fun y11=>bif y11 then some true else (dL x.kids (fun x0=>oh dJ x0 f)).bind fun uN=>some uN:=rfl
  have ec:DI (dJ+1) q x=(q x||x.kids.any (DI dJ q)):=rfl
  rw [e,ec,hf,Option.bind_some,anF (p:=DI dJ q) (fun y hy=>aBo dJ y f q hf (by have:=ak.Df hy; omega)),Option.bind_some]
  cases q x <;> rfl
theorem ad3 :∀(dJ:Nat) (x:ak),SizeOf.sizeOf x≤dJ→ny dJ x=some (!DI dJ erB x)
 |0,x,h=>by have:=x.pos; omega
 |dJ+1,x,hg=>by
  have e:ny (dJ+1) x=wM (ny dJ) x:=rfl
  have ec:DI (dJ+1) erB x=(erB x||x.kids.any (DI dJ erB)):=rfl
  rw [e,ec]
  unfold wM erB
  rw [yC x.kind,yC x.kind,loopA (L:=jI x (ny dJ) qW) (d:=x.kids) (p:=fun y=>!DI dJ erB y) (no:=some false) (K:=some true)
   (fun g k hk=>by
    have hy:=List.getElem_mem hk
    simp -implicitDefEqProofs only [jI,vg,LD hk,cond_true,jY hk,Option.bind_some,ad3 dJ x.kids[k] (by have:=ak.Df hy; omega)])
   (fun g=>by simp -implicitDefEqProofs only [jI,vg,LG,cond_false,qW])]
  rw [← List.not_any_eq_all_not]
  have ex:(DI dJ fun c=>decide (c.kind=6)||decide (c.kind=7))=DI dJ erB:=rfl
  rw [ex]
  cases decide (x.kind=6) <;> cases decide (x.kind=7) <;> cases x.kids.any (DI dJ erB) <;> rfl
theorem agz (n:Int) :∀(dJ:Nat) (x:ak),SizeOf.sizeOf x≤dJ→ji dJ x n=some (!DI dJ (Uo n) x)
 |0,x,h=>by have:=x.pos; omega
 |dJ+1,x,hg=>by
  have e:ji (dJ+1) x n=Ar (ji dJ) x n:=rfl
  have ec:DI (dJ+1) (Uo n) x=(Uo n x||x.kids.any (DI dJ (Uo n))):=rfl
  have K2:=loopA (L:=lM x n (ji dJ) uw) (d:=x.kids) (p:=fun y=>!DI dJ (Uo n) y) (no:=some false) (K:=some true)
   (fun g k hk=>by
    have hy:=List.getElem_mem hk
    simp -implicitDefEqProofs only [lM,yV,LD hk,cond_true,jY hk,Option.bind_some,agz n dJ x.kids[k] (by have:=ak.Df hy; omega)])
   (fun g=>by simp -implicitDefEqProofs only [lM,yV,LG,cond_false,uw])
  have K4:=loopA (L:=lQ x n (ji dJ) uy) (d:=x.kids) (p:=fun y=>!DI dJ (Uo n) y) (no:=some false) (K:=some true)
   (fun g k hk=>by
    have hy:=List.getElem_mem hk
    simp -implicitDefEqProofs only [lQ,yY,LD hk,cond_true,jY hk,Option.bind_some,agz n dJ x.kids[k] (by have:=ak.Df hy; omega)])
   (fun g=>by simp -implicitDefEqProofs only [lQ,yY,LG,cond_false,uy])
  have hn :∀a:Int,(bif decide (n≤a) then some false else some true)=(bif !decide (n≤a) then some true else some false):=fun a=>by cases decide (n≤a) <;> rfl
  have K1:=loopA (L:=lN x n (qC x n (ji dJ))) (d:=x.data) (p:=fun a=>!decide (n≤a)) (no:=some false) (K:=qC x n (ji dJ))
   (fun g k hk=>by
    simp -implicitDefEqProofs only [lN,yX,LD hk,cond_true,jY hk,Option.bind_some,ge_iff_le]
    cases decide (n≤x.data[k]) <;> rfl)
   (fun g=>by simp -implicitDefEqProofs only [lN,yX,LG,cond_false])
  have K3:=loopA (L:=lS x n (qE x n (ji dJ))) (d:=x.data) (p:=fun a=>!decide (n≤a)) (no:=some false) (K:=qE x n (ji dJ))
   (fun g k hk=>by
    simp -implicitDefEqProofs only [lS,yZ,LD hk,cond_true,jY hk,Option.bind_some,ge_iff_le]
    cases decide (n≤x.data[k]) <;> rfl)
   (fun g=>by simp -implicitDefEqProofs only [lS,yZ,LG,cond_false])
  rw [e,ec]
  unfold Ar
  rw [K1,K3]
  unfold qC qE
  rw [K2,K4,← List.not_any_eq_all_not,← List.not_any_eq_all_not,yC x.kind]
  have er:Uo n x=((decide (x.kind=11) && decide (n≤x.value))||x.data.any fun k=>decide (n≤k)):=rfl
  rw [er]
  have eg:decide (x.value ≥ n)=decide (n≤x.value):=rfl
  rw [eg]
  cases decide (x.kind=11) <;> cases decide (n≤x.value) <;> cases (x.data.any fun k=>decide (n≤k)) <;> cases x.kids.any (DI dJ (Uo n)) <;> rfl
theorem aqd (x:ak) (n:Int):vZ x n=some (!DI (SizeOf.sizeOf x) (Uo n) x):=by
 unfold vZ
 rw [aBo _ x _ (Uo n) (fun y=>?_) (Nat.le_refl _),Option.bind_some]
 unfold wP Uo
 have hc:=Hg y.data (fun x0=>mM x0 n) (fun k=>decide (n≤k)) (fun z _=>rfl)
 rw [hc,yC y.kind]
 have eg:decide (y.value ≥ n)=decide (n≤y.value):=rfl
 rw [eg]
 cases decide (y.kind=11) <;> cases decide (n≤y.value) <;> rfl
theorem amv (x:ak) (hb:dV x≤4294967296):yK x=some (EI x && !DI (SizeOf.sizeOf x) erB x):=by
 unfold yK
 rw [abv x hb,Option.bind_some,aBo _ x _ erB (fun y=>by unfold zo erB; rw [yC y.kind,yC y.kind]; cases decide (y.kind=6) <;> rfl) (Nat.le_refl _),Option.bind_some]
 cases EI x <;> rfl
theorem Bv {x:ak} (h:EI x=true):Hy x=true∧iw x≤80:=by
 unfold EI at h
 simp at h
 exact ⟨h.1,h.2.1⟩
noncomputable def Xd (x:ak):Bool:=EI x && !Zl (SizeOf.sizeOf x) x 0
theorem axL (x:ak) (hb:dV x≤4294967296):Am x=some (Xd x):=by
 unfold Am Xd
 rw [aBk x hb,Option.bind_some]
 cases hv:EI x with
 |false=>rfl
 |true=>rw [cond_true,aht _ x 0 80 (Nat.le_refl _) (Bv hv).2 (by decide) (by decide),Option.bind_some]; rfl
theorem axM (x:ak) (hb:dV x≤4294967296):BZ x=some (Xd x):=by
 unfold BZ Xd
 rw [abv x hb,Option.bind_some]
 cases hv:EI x with
 |false=>rfl
 |true=>rw [cond_true,aaB _ x 0 80 (Nat.le_refl _) (Bv hv).1 (Bv hv).2 (by decide) (by decide),Option.bind_some]; rfl
/-- A valid book, and an erased one. -/
noncomputable def Xe (b:dY):Bool:=ni (b.defs.length:Int) 1 24 && b.defs.all fun x=>Xd x && !DI (SizeOf.sizeOf x) (Uo (b.defs.length:Int)) x
noncomputable def ahu (b:dY):Bool:=Xe b && b.defs.all fun x=>!DI (SizeOf.sizeOf x) erB x
theorem aGN (b:dY) (hb :∀x∈b.defs,dV x≤4294967296):Dy b=some (ahu b):=by
 have h1:Dx b=some (Xe b):=by
  unfold Dx Xe
  rw [loopA (L:=lT b uz) (d:=b.defs) (p:=fun x=>Xd x && !DI (SizeOf.sizeOf x) (Uo (b.defs.length:Int)) x) (no:=some false) (K:=some true)
   (fun g k hk=>by
    have hy:=List.getElem_mem hk
    simp -implicitDefEqProofs only [lT,zf,LD hk,cond_true,jY hk,Option.bind_some,axL _ (hb _ hy),agz (b.defs.length:Int) _ b.defs[k] (Nat.le_refl _)]
    cases Xd b.defs[k] <;> cases DI (SizeOf.sizeOf b.defs[k]) (Uo (b.defs.length:Int)) b.defs[k] <;> rfl)
   (fun g=>by simp -implicitDefEqProofs only [lT,zf,LG,cond_false,uz])]
  cases ni (b.defs.length:Int) 1 24 <;> cases (b.defs.all fun x=>Xd x && !DI (SizeOf.sizeOf x) (Uo (b.defs.length:Int)) x) <;> rfl
 unfold Dy ahu
 rw [h1,Option.bind_some,loopA (L:=lU b uD) (d:=b.defs) (p:=fun x=>!DI (SizeOf.sizeOf x) erB x) (no:=some false) (K:=some true)
   (fun g k hk=>by simp -implicitDefEqProofs only [lU,zh,LD hk,cond_true,jY hk,Option.bind_some,ad3 _ b.defs[k] (Nat.le_refl _)])
   (fun g=>by simp -implicitDefEqProofs only [lU,zh,LG,cond_false,uD])]
 cases Xe b <;> cases (b.defs.all fun x=>!DI (SizeOf.sizeOf x) erB x) <;> rfl
theorem aGO (b:dY) (hb :∀x∈b.defs,dV x≤4294967296):vH b=some (ahu b):=by
 have h1:AA b=some (Xe b):=by
  unfold AA Xe
  rw [anF (p:=fun x=>!(Xd x && !DI (SizeOf.sizeOf x) (Uo (b.defs.length:Int)) x)) (fun x hx=>by
   unfold wQ
   rw [axM x (hb x hx),aqd,Option.bind_some,Option.bind_some]
   cases Xd x <;> rfl),Option.bind_some,KZ]
  have i1:decide ((b.defs.length:Int) < 1) = !decide (1≤(b.defs.length:Int)):=by rw [Bool.eq_iff_iff]; simp
  have i2:decide ((b.defs.length:Int) > 24) = !decide ((b.defs.length:Int)≤24):=by rw [Bool.eq_iff_iff]; simp
  rw [i1,i2]
  unfold ni
  cases decide (1≤(b.defs.length:Int)) <;> cases decide ((b.defs.length:Int)≤24) <;> rfl
 unfold vH ahu
 rw [h1,Option.bind_some,anF (p:=fun x=>!(EI x && !DI (SizeOf.sizeOf x) erB x)) (fun x hx=>by
   unfold rP
   rw [amv x (hb x hx),Option.bind_some]),Option.bind_some,KZ]
 cases ho:Xe b with
 |false=>rfl
 |true=>
  rw [cond_true,Bool.true_and]
  congr 1
  rw [Bool.eq_iff_iff,List.all_eq_true,List.all_eq_true]
  unfold Xe at ho
  rw [Bool.and_eq_true,List.all_eq_true] at ho
  have hv :∀x∈b.defs,EI x=true:=fun x hx=>by
   have:=ho.2 x hx
   unfold Xd at this
   simp at this
   exact this.1.1
  constructor
  ·intro h x hx
   have:=h x hx
   rw [hv x hx,Bool.true_and] at this
   exact this
  ·intro h x hx
   rw [hv x hx,Bool.true_and]
   exact h x hx
theorem PW (x:ak):(⟨x.kind,x.value,x.data,x.kids⟩:ak)=x:=by cases x; rfl
/-- A valid closure beside a book of n definitions and a heap. -/
noncomputable def HY (n heap:Int) (c:ay):Bool:=
 ((EI c.term && !DI (SizeOf.sizeOf c.term) erB c.term) && (!DI (SizeOf.sizeOf c.term) (Uo n) c.term && !Zl (SizeOf.sizeOf c.term) c.term (c.env.length:Int))) && (decide (c.env.length≤256) && c.env.all fun a=>ni a 0 (heap - 1))
theorem ahv (b:dY) (c:ay) (heap:Int) (hb:dV c.term≤4294967296) (he:c.env.length≤1048576) (h0:0≤heap) (h1:heap≤1048576):qF b c heap=some (HY (b.defs.length:Int) heap c):=by
 unfold qF HY
 rw [aBk _ hb,Option.bind_some]
 cases hv:EI c.term with
 |false=>rfl
 |true=>
  rw [ad3 _ _ (Nat.le_refl _),agz _ _ _ (Nat.le_refl _),aht _ _ (c.env.length:Int) 80 (Nat.le_refl _) (Bv hv).2 (by omega) (by omega),Option.bind_some,Option.bind_some,Option.bind_some]
  rw [loopA (L:=jk c heap oW) (d:=c.env) (p:=fun a=>ni a 0 (heap - 1)) (no:=some false) (K:=some true)
   (fun g k hk=>by simp -implicitDefEqProofs only [jk,tJ,LD hk,cond_true,jY hk,Option.bind_some,yA (show -9223372036854775808≤heap - 1∧heap - 1≤9223372036854775807 by omega)])
   (fun g=>by simp -implicitDefEqProofs only [jk,tJ,LG,cond_false,oW])]
  have i2:decide ((c.env.length:Int) > 256) = !decide (c.env.length≤256):=by rw [Bool.eq_iff_iff]; simp; omega
  rw [i2]
  cases DI (SizeOf.sizeOf c.term) erB c.term <;> cases DI (SizeOf.sizeOf c.term) (Uo (b.defs.length:Int)) c.term <;> cases Zl (SizeOf.sizeOf c.term) c.term (c.env.length:Int) <;> cases decide (c.env.length≤256) <;> cases (c.env.all fun a=>ni a 0 (heap - 1)) <;> rfl
theorem awE (m:aN) (a:Int):iM m a=some (ni a 0 ((m.heap.length:Int) - 1)):=by
 unfold iM ni
 have e1:decide (a ≥ 0)=decide (0≤a):=rfl
 have e2:decide (a < (m.heap.length:Int))=decide (a≤(m.heap.length:Int) - 1):=decide_eq_decide.2 (by omega)
 rw [e1,e2]
 cases decide (0≤a) <;> rfl
theorem ahw (m:aN) (b:dY) (c:ay) (hb:dV c.term≤4294967296) (he:c.env.length≤1048576):iG m b c=some (HY (b.defs.length:Int) (m.heap.length:Int) c):=by
 unfold iG HY
 rw [PW,amv _ hb,Option.bind_some]
 cases hv:EI c.term with
 |false=>rfl
 |true=>
  have hc:=Hg c.env (fun x0=>jS x0 m) (fun a=>!ni a 0 ((m.heap.length:Int) - 1)) (fun z _=>by unfold jS; rw [awE,Option.bind_some])
  rw [aqd,aaB _ _ (c.env.length:Int) 80 (Nat.le_refl _) (Bv hv).1 (Bv hv).2 (by omega) (by omega),hc,Option.bind_some,Option.bind_some,Option.bind_some,KZ]
  have i2:decide ((c.env.length:Int) > 256) = !decide (c.env.length≤256):=by rw [Bool.eq_iff_iff]; simp; omega
  rw [i2]
  cases DI (SizeOf.sizeOf c.term) erB c.term <;> cases DI (SizeOf.sizeOf c.term) (Uo (b.defs.length:Int)) c.term <;> cases Zl (SizeOf.sizeOf c.term) c.term (c.env.length:Int) <;> cases decide (c.env.length≤256) <;> cases (c.env.all fun a=>ni a 0 ((m.heap.length:Int) - 1)) <;> rfl
end
section
open Go.RowKit Go.ChangeShapes
/-- An own slice of numbers, wherever it begins in its block. -/
def OwQ (w:World) (lo:Nat) (v:Value) (xs:List Int):Prop:=
 (v=.slice none 0 0∧xs=[]) ∨∃g off cap,v=.slice (some ⟨g,off,none⟩) xs.length cap∧lo≤g∧g < w.heap.size∧xs.length≤cap∧cap≤maxLen∧(∀j,j < cap→(w.cell? ⟨g,off+j,none⟩).isSome=true∧w.frozen? ⟨g,off+j,none⟩=false)∧∀j u,(xs.flatMap encI)[j]? = some u→w.cell? ⟨g,off+j,none⟩=some u
section
variable {w w' : World} {lo : Nat} {v v' : Value} {xs : List Int} {c : Nat} {A : Option Addr}
theorem flI (xs:List Int):(xs.flatMap encI).length=xs.length:=by induction xs with|nil=>rfl|cons x xs ih=>simp [encI,ih]
theorem atn (xs:List Int) (j:Nat):(xs.flatMap encI)[j]? = xs[j]?.map (Value.int .i64):=by
 induction xs generalizing j with
 |nil=>simp
 |cons x xs ih=>cases j with
  |zero=>simp [encI]
  |succ j=>simp [encI,ih]
theorem OwQ.same (h:OwQ w lo v xs) (hs:w.heap.size≤w'.heap.size) (hb :∀b,v.ownBlock=some b→w'.heap[b]? = w.heap[b]?):OwQ w' lo v xs:=by
 rcases h with h|⟨g,off,cap,rfl,h1,h2,h3,h4,h5,h6⟩
 ·exact .inl h
 ·have hg:=hb g rfl
  refine .inr ⟨g,off,cap,rfl,h1,Nat.lt_of_lt_of_le h2 hs,h3,h4,fun j hj=>?_,fun j u hj=>?_⟩
  ·rw [World.cell?_of_block (a:=⟨g,off+j,none⟩) hg,World.frozen?_of_block (a:=⟨g,off+j,none⟩) hg]; exact h5 j hj
  ·rw [World.cell?_of_block (a:=⟨g,off+j,none⟩) hg]; exact h6 j u hj
theorem OwQ.lt (h:OwQ w lo v xs) :∀b,v.ownBlock=some b→lo≤b∧b < w.heap.size:=by
 rcases h with ⟨rfl,_⟩|⟨g,off,cap,rfl,h1,h2,_⟩
 ·intro b hb; cases hb
 ·intro b hb; cases hb; exact ⟨h1,h2⟩
theorem OwQ.form (h:OwQ w lo v xs) :∃A c,v=.slice A xs.length c:=by
 rcases h with ⟨rfl,rfl⟩|⟨g,off,cap,rfl,_⟩
 ·exact ⟨none,0,rfl⟩
 ·exact ⟨_,_,rfl⟩
theorem OwQ.head {x:Int} (h:OwQ w lo v (x :: xs)) :∃g off cap,v=.slice (some ⟨g,off,none⟩) (xs.length+1) cap∧xs.length+1≤cap∧w.cell? ⟨g,off,none⟩=some (.int .i64 x)∧∀Av,(if cap=1 then (some ⟨g,off,none⟩:Option Addr) else (some ⟨g,off,none⟩:Option Addr).map (·.add (1 * 1)))=Av→(Value.slice Av (xs.length+1 - 1) (cap - 1)).ownBlock=some g∧OwQ w lo (.slice Av (xs.length+1 - 1) (cap - 1)) xs:=by
 rcases h with ⟨_,h⟩|⟨g,off,cap,rfl,h1,h2,h3,h4,h5,h6⟩
 ·cases h
 ·refine ⟨g,off,cap,rfl,by simpa using h3,by simpa using h6 0 (.int .i64 x) (by simp [encI]),?_⟩
  intro Av e
  simp only [List.length_cons] at h3
  by_cases hc:cap=1
  ·rw [if_pos hc] at e
   subst e
   have hx:xs=[]:=List.eq_nil_of_length_eq_zero (by omega)
   subst hx
   subst hc
   exact ⟨rfl,.inr ⟨g,off,0,rfl,h1,h2,Nat.le_refl _,Nat.zero_le _,fun j hj=>absurd hj (Nat.not_lt_zero _),fun j u hj=>by simp at hj⟩⟩
  ·rw [if_neg hc] at e
   subst e
   refine ⟨rfl,.inr ⟨g,off+1,cap - 1,rfl,h1,h2,by omega,by omega,fun j hj=>?_,fun j u hj=>?_⟩⟩
   ·have:=h5 (j+1) (by omega)
    rwa [show off+(j+1)=off+1+j by omega] at this
   ·have:=h6 (j+1) u (by rw [atn] at hj ⊢; simpa using hj)
    rwa [show off+(j+1)=off+1+j by omega] at this
theorem OwQ.of {k:Nat} (h:w.ownsRow lo 2 1 v k (xs.flatMap encI)):OwQ w lo v xs:=by
 have hl:=h.1
 rw [flI] at hl
 rcases h.2 with ⟨rfl,rfl⟩|⟨g,cap,cur,rfl,h1,h2,h3,h4,h5,h6⟩
 ·exact .inl ⟨rfl,List.eq_nil_of_length_eq_zero (by omega)⟩
 ·have hk:k=xs.length:=by omega
  subst hk
  have hcell :∀j,w.cell? ⟨g,0+j,none⟩=cur[j]?:=fun j=>by rw [Nat.zero_add]; simp [World.cell?,h2]
  refine .inr ⟨g,0,cap,rfl,h1,(Array.getElem?_eq_some_iff.1 h2).1,h3,h4,fun j hj=>⟨?_,?_⟩,fun j u hj=>?_⟩
  ·rw [hcell,Array.getElem?_eq_getElem (by omega)]; rfl
  ·simp [World.frozen?,h2]
  ·rw [hcell,← Array.getElem?_toList]
   have hj':=hj
   rw [← h6] at hj'
   rw [List.getElem?_take] at hj'
   split at hj'
   ·exact hj'
   ·cases hj'
end
section
variable {P : Program} {ops : Array Oper} {f : Nat → Value} {rest : List Oper} {Q : (Nat → Value) → World → Prop} {w : World} {d : Option Tmp} {ty : TypeId} {pos : String} {af : Array Edge} {g : Option (Nat × Bool)} {x y : Operand} {t : TypeId} {z : Value} {bb : Nat}
theorem RL.aGP {v:Value} {k:Nat} {xs:List Int} {a:Int} {lo:Nat} (A:afV P t 2 z 1 bb) (hg:gV f ops ⟨d,.call ⟨.builtin .append,#[x,y],#[t,t]⟩,ty,pos,af,g⟩=true)
  (hx:ev f x=v) (hy:ev f y=.slice (some ⟨k,0,none⟩) 1 1) (hc:w.cell? ⟨k,0,none⟩=some (.int .i64 a)) (hv:OwQ w lo v xs) (hlo:lo≤w.heap.size) (hk:xs.length+1≤4294967296)
  (h :∀v' w1,OwQ w1 lo v' (xs ++ [a])→w.grownBy w1 v.ownBlock→Below lo w w1→(∀b,v'.ownBlock=some b→v.ownBlock=some b ∨ w.heap.size≤b)→RL P ops Q rest (ED f d v') w1):RL P ops Q (⟨d,.call ⟨.builtin .append,#[x,y],#[t,t]⟩,ty,pos,af,g⟩ :: rest) f w:=by
 have hrun :∀v' w1,(Builtin.append_ #[t,t] ty #[v,.slice (some ⟨k,0,none⟩) 1 1]).run P w=.ok v' w1→(execOp (ev f) ⟨d,.call ⟨.builtin .append,#[x,y],#[t,t]⟩,ty,pos,af,g⟩).run P w=.ok (.value v') w1:=fun v' w1 h0=>by
  simp [execOp,resolve,invoke,builtin,hx,hy,h0]
 obtain ⟨i0,hi,hz0,hz1,hz2⟩:=info_parts A.info
 have hnews :∀j u,([a].flatMap encI)[j]? = some u→w.cell? ((⟨k,0,none⟩:Addr).add j)=some u:=fun j u hj=>by
  rcases j with _|j
  ·simp [encI] at hj; subst hj; exact hc
  ·simp [encI] at hj
 have hl:([a].flatMap encI).length=1 * 1:=rfl
 have h1c :∀u∈[a].flatMap encI,u.oneCell'=true:=fun u hu=>by simp [encI] at hu; subst hu; rfl
 have fin :∀v' w1,(Builtin.append_ #[t,t] ty #[v,.slice (some ⟨k,0,none⟩) 1 1]).run P w=.ok v' w1→OwQ w1 lo v' (xs ++ [a])→w.grownBy w1 v.ownBlock→(∀b,v'.ownBlock=some b→v.ownBlock=some b ∨ w.heap.size≤b)→RL P ops Q (⟨d,.call ⟨.builtin .append,#[x,y],#[t,t]⟩,ty,pos,af,g⟩ :: rest) f w:=fun v' w1 h0 h1 h2 h3=>by
  refine .inl ⟨hg,?_⟩
  rw [hrun v' w1 h0]
  exact h v' w1 h1 h2 ((Below.refl lo w).grown h2 hlo (fun b hb=>(hv.lt b hb).1)) h3
 have hmx:xs.length+1≤maxLen:=by unfold maxLen; omega
 have hby:(xs.length+1) * bb≤140737488355328:=Nat.le_trans (Nat.mul_le_mul hk A.bb) (by decide)
 have hv0:=hv
 rcases hv with ⟨rfl,rfl⟩|⟨b,off,cap,rfl,hb1,hb2,hb3,hb4,hb5,hb6⟩
 ·obtain ⟨v',w1,h0,hr,h3,h4⟩:=WL A (by decide) (World.ownsRow_nil w lo 2 1) hlo ⟨k,0,none⟩ 1 1 ([a].flatMap encI) hl hnews h1c (by omega) ty
  exact fin v' w1 h0 (OwQ.of (by simpa using hr)) h3 h4
 ·by_cases hroom:xs.length+1≤cap
  ·have hsz:i0.size=1:=hz1
   have hspare :∀j,j < ([a].flatMap encI).length→(w.cell? ⟨b,off+xs.length * i0.size+j,none⟩).isSome=true∧w.frozen? ⟨b,off+xs.length * i0.size+j,none⟩=false:=fun j hj=>by
    rw [hsz,Nat.mul_one,Nat.add_assoc]
    exact hb5 _ (by simp [encI] at hj; omega)
   have h0:=run_append_room_cells (P:=P) (w:=w) t ty 2 i0 A.und hi b off xs.length cap ⟨k,0,none⟩ 1 1 ([a].flatMap encI) (by rw [hsz]; rfl) hnews h1c hroom (fun j hj=>(hspare j hj).1) (fun j hj=>(hspare j hj).2)
   have hkb:=World.keptBut_setCells b (may:=fun p=>∃j,p=.cell b j) ([a].flatMap encI) (off+xs.length * i0.size) w (fun j _=>⟨_,rfl⟩)
   have hbl :∀m,m < w.heap.size→m ≠ b→(w.setCells b (off+xs.length * i0.size) ([a].flatMap encI)).heap[m]? = w.heap[m]?:=fun m hm hne=>(World.keptBut_setCells b (may:=fun p=>p.block=b) ([a].flatMap encI) (off+xs.length * i0.size) w (fun _ _=>rfl)).block hm (fun _ hp e=>hne (e.symm.trans hp))
   have hin:=World.cell?_setCells_in b ([a].flatMap encI) (off+xs.length * i0.size) w (fun j hj=>(hspare j hj).1)
   have hsz2:(w.setCells b (off+xs.length * i0.size) ([a].flatMap encI)).heap.size=w.heap.size:=by simp [World.setCells,encI]
   refine fin _ _ h0 ?_ ⟨hkb.1,?_,hkb.2.1,Nat.le_of_eq hsz2.symm,fun m hm hne=>hbl m hm (fun e=>hne (by rw [e]; rfl))⟩ (fun m hm=>.inl hm)
   ·refine .inr ⟨b,off,cap,by simp,hb1,by rw [hsz2]; exact hb2,by simpa using hroom,hb4,fun j hj=>⟨?_,?_⟩,fun j u hj=>?_⟩
    ·by_cases hjj:j=xs.length
     ·have:=hin 0 (by simp [encI])
      rw [hsz,Nat.mul_one,Nat.add_zero] at this
      rw [hsz,Nat.mul_one,hjj,this]; rfl
     ·rw [World.cell?_setCells_out b _ _ w ⟨b,off+j,none⟩ (fun _ _=>by rw [hsz]; simp [encI]; omega)]
      exact (hb5 j hj).1
    ·rw [World.frozen?_setCells]; exact (hb5 j hj).2
    ·rw [atn] at hj
     by_cases hjj:j=xs.length
     ·subst hjj
      have:=hin 0 (by simp [encI])
      rw [hsz,Nat.mul_one,Nat.add_zero] at this
      simp at hj
      subst hj
      rw [hsz,Nat.mul_one,this]; rfl
     ·have hlt:j < xs.length:=by
       have:=lt_of_some (show (xs ++ [a])[j]? = some _ from (Option.map_eq_some_iff.1 hj).choose_spec.1)
       simp at this; omega
      rw [World.cell?_setCells_out b _ _ w ⟨b,off+j,none⟩ (fun _ _=>by rw [hsz]; simp [encI]; omega)]
      exact hb6 j u (by rw [atn]; rw [List.getElem?_append_left hlt] at hj; exact hj)
   ·simp [World.setCells,encI]
  ·have holds :∀j u,(xs.flatMap encI)[j]? = some u→w.cell? ((⟨b,off,none⟩:Addr).add j)=some u:=fun j u hj=>by rw [Addr.add_eq]; exact hb6 j u hj
   obtain ⟨v',w1,h0,hr,hgr⟩:=run_append_arg_grows (P:=P) (w:=w) t ty 2 i0 z 1 bb A.und hi hz0 hz1 hz2 A.zs (by decide) ⟨b,off,none⟩ xs.length cap (xs.flatMap encI) (by rw [flI]; omega) holds ⟨k,0,none⟩ 1 1 ([a].flatMap encI) hl hnews (by omega) hmx hby
   have hq:OwQ w1 w.heap.size v' (xs ++ [a]):=OwQ.of (k:=xs.length+1) (by rw [List.flatMap_append]; exact hr)
   refine fin v' w1 h0 ?_ ⟨hgr.os,hgr.tape,hgr.output,hgr.size,fun m hm _=>hgr.block m hm (by simp)⟩ (fun m hm=>.inr (hq.lt m hm).1)
   rcases hq with hq|⟨g2,o2,c2,e,hq1,r⟩
   ·exact .inl hq
   ·exact .inr ⟨g2,o2,c2,e,Nat.le_trans hlo hq1,r⟩
end
end
section
open Go.RowKit
set_option maxRecDepth 100000
/-- The blocks that mark writes to. -/
def Sx (go gq:Nat) (vo vq:Value) (b:Nat):Prop:=b=go ∨ b=gq ∨ vo.ownBlock=some b ∨ vq.ownBlock=some b
/-- All blocks but some stay. -/
structure Fq (S:Nat→Prop) (w w':World):Prop where
 size:w.heap.size≤w'.heap.size
 block :∀b,b < w.heap.size→¬ S b→w'.heap[b]? = w.heap[b]?
/-- The captured variables: the cell go holds the marks vo, the cell gq the queue vq; all of the call's own. -/
structure MkS (w w':World) (go gq:Nat) (vo vq:Value) (l:List Bool) (q:List Int):Prop where
 bo:dD w' go 70 #[vo]
 bq:dD w' gq 25 #[vq]
 ho:aA 4 T_ 1 w' w.heap.size vo l
 hq:OwQ w' w.heap.size vq q
 lgo:w.heap.size≤go
 lgq:w.heap.size≤gq
 ne:go ≠ gq
 o1:vo.ownBlock ≠ some go
 o2:vo.ownBlock ≠ some gq
 q1:vq.ownBlock ≠ some go
 q2:vq.ownBlock ≠ some gq
 dj :∀b,vq.ownBlock=some b→vo.ownBlock ≠ some b
 T:Below w.heap.size w w'
section
variable {w w1 w2 w3 : World} {go gq : Nat} {vo vq v' : Value} {l l' : List Bool} {q q' : List Int} {S : Nat → Prop} {b : Nat}
theorem Fq.refl:Fq S w w:=⟨Nat.le_refl _,fun _ _ _=>rfl⟩
theorem Fq.below (F:Fq S w w1) (hb:Below w1.heap.size w1 w2):Fq S w w2:=⟨Nat.le_trans F.size hb.size,fun k hk hn=>(hb.block k (Nat.lt_of_lt_of_le hk F.size)).trans (F.block k hk hn)⟩
theorem Fq.only (F:Fq S w w1) (ho:Only [b] w1 w2) (h:S b ∨ w.heap.size≤b):Fq S w w2:=⟨Nat.le_trans F.size (Nat.le_of_eq ho.size.symm),fun k hk hn=>(ho.block k (by
 intro hin; simp at hin; subst hin
 rcases h with h|h
 ·exact hn h
 ·omega)).trans (F.block k hk hn)⟩
theorem Fq.grown (F:Fq S w w1) (hg:w1.grownBy w2 vq.ownBlock) (h :∀k,vq.ownBlock=some k→S k ∨ w.heap.size≤k):Fq S w w2:=⟨Nat.le_trans F.size hg.size,fun k hk hn=>(hg.block k (Nat.lt_of_lt_of_le hk F.size) (fun e=>by
 rcases h k e.symm with h|h
 ·exact hn h
 ·omega)).trans (F.block k hk hn)⟩
theorem MkS.below (M:MkS w w1 go gq vo vq l q) (hb:Below w1.heap.size w1 w2):MkS w w2 go gq vo vq l q:=
 ⟨aX M.bo hb,aX M.bq hb,aA.below M.ho hb,M.hq.same hb.size (fun k hk=>hb.block k (M.hq.lt k hk).2),M.lgo,M.lgq,M.ne,M.o1,M.o2,M.q1,M.q2,M.dj,Tt M.T hb⟩
theorem MkS.aLI (M:MkS w w1 go gq vo vq l q) (hv:vo.ownBlock=some b) (ho:Only [b] w1 w2) (G:aA 4 T_ 1 w2 w.heap.size vo l'):MkS w w2 go gq vo vq l' q:=
  have hne :∀k,k ≠ b→w2.heap[k]? = w1.heap[k]?:=fun k hk=>ho.block k (by simpa using hk)
  ⟨(hne go (fun e => M.o1 (by rw [hv, e]))).trans M.bo, (hne gq (fun e => M.o2 (by rw [hv, e]))).trans M.bq, G, M.hq.same (Nat.le_of_eq ho.size.symm) (fun k hk => hne k (fun e => M.dj k hk (by rw [hv, e]))), M.lgo, M.lgq, M.ne, M.o1, M.o2, M.q1, M.q2, M.dj,
   M.T.trans (ho.below (by intro k hk; simp at hk; subst hk; exact (M.ho.lt k hv).1))⟩
theorem MkS.aLJ (M:MkS w w1 go gq vo vq l q) (ho:Only [gq] w1 w2) (B:dD w2 gq 25 #[v']) (G:OwQ w1 w.heap.size v' q') (hv :∀k,v'.ownBlock=some k→vq.ownBlock=some k):MkS w w2 go gq vo v' l q':=
  have hne :∀k,k ≠ gq→w2.heap[k]? = w1.heap[k]?:=fun k hk=>ho.block k (by simpa using hk)
  ⟨(hne go M.ne).trans M.bo, B, aA.only M.ho ho M.o2, G.same (Nat.le_of_eq ho.size.symm) (fun k hk => hne k (fun e => M.q2 (by rw [hv k hk, e]))), M.lgo, M.lgq, M.ne, M.o1, M.o2, fun e => M.q1 (hv _ e), fun e => M.q2 (hv _ e), fun k hk => M.dj k (hv k hk),
   M.T.trans (ho.below (by intro k hk; simp at hk; subst hk; exact M.lgq))⟩
theorem MkS.push (M:MkS w w1 go gq vo vq l q) (hg:w1.grownBy w2 vq.ownBlock) (hbl:Below w.heap.size w1 w2) (G:OwQ w2 w.heap.size v' q') (hn :∀k,v'.ownBlock=some k→vq.ownBlock=some k ∨ w1.heap.size≤k) (ho:Only [gq] w2 w3) (B:dD w3 gq 25 #[v']):MkS w w3 go gq vo v' l q':=
  have hne :∀k,k ≠ gq→w3.heap[k]? = w2.heap[k]?:=fun k hk=>ho.block k (by simpa using hk)
  have hgo:vo.ownBlock=none ∨ vo.ownBlock ≠ vq.ownBlock:=by
    cases hv:vo.ownBlock with
    |none=>exact .inl rfl
    |some k=>exact .inr (fun e=>M.dj k e.symm hv)
  ⟨(hne go M.ne).trans (dD.kept M.bo hg M.q1),B,aA.only (aA.kept M.ho hg hgo) ho M.o2,G.same (Nat.le_of_eq ho.size.symm) (fun k hk=>hne k (fun e=>by
      rcases hn k hk with h|h
      · exact M.q2 (by rw [h,e])
      · have:=M.bq.lt; omega)),M.lgo,M.lgq,M.ne,M.o1,M.o2,
   fun e => by
      rcases hn _ e with h|h
      · exact M.q1 h
      · have:=M.bo.lt; omega,
   fun e => by
      rcases hn _ e with h|h
      · exact M.q2 h
      · have:=M.bq.lt; omega,
   fun k hk => by
      rcases hn k hk with h|h
      · exact M.dj k h
      · intro e; have:=(M.ho.lt k e).2; omega,
   (M.T.trans hbl).trans (ho.below (by intro k hk; simp at hk; subst hk; exact M.lgq))⟩
end
/-- What mark does: for each address not yet marked, it marks it and puts it into the queue. -/
def mkM:List Int→List Bool→List Int→Option (List Bool × List Int)
 |[],l,q=>some (l,q)
 |a :: xs,l,q=>(fC l a).bind fun b=>bif b then mkM xs l q else (yB (q.length+1≤4294967296)).bind fun _=>mkM xs (kX l a true) (q ++ [a])
theorem aaC (d0:List Int) (l:List Bool) (q:List Int) (r:List Bool × List Int) (hm:mkM d0 l q=some r) (w ws:World) (go gq:Nat) (vo vq:Value) (Bc:Option Addr) (ca0:Nat) (M:MkS w ws go gq vo vq l q)
  (ha0:aY nR 1 ws ws.heap.size Bc d0.length d0) (GN:d0.length≤ca0∧ca0≤maxLen) (hA:0 < d0.length→∀b o,Bc=some ⟨b,o,none⟩→¬ Sx go gq vo vq b) :
  Calls Tryz.prog 64 #[.slice Bc d0.length ca0,.pointer (some ⟨go,0,none⟩),.pointer (some ⟨gq,0,none⟩)] ws fun e w'=>e=.returned (.tuple #[])∧∃vq',MkS w w' go gq vo vq' r.1 r.2∧Fq (Sx go gq vo vq) ws w'∧∀b,vq'.ownBlock=some b→vq.ownBlock=some b ∨ ws.heap.size≤b:=by
 have qa0:=anm GN
 obtain ⟨Ap,cp,hvo⟩:=aA.form M.ho
 subst hvo
 refine enter 25 Tryz.func64 rfl rfl rfl ?_
 intro f hf
 have s0:f 0=.slice Bc d0.length ca0:=hf 0 _ rfl
 have s1:f 1=.pointer (some ⟨go,0,none⟩):=hf 1 _ rfl
 have s2:f 2=.pointer (some ⟨gq,0,none⟩):=hf 2 _ rfl
 refine wp_seq ?_
 refine au rfl ?_
 refine RQ.y rfl (Y.move (v:=.slice Bc d0.length ca0) s0) ?_
 refine RQ.y rfl (Y.len (by kernel_rfl) rfl) ?_
 refine RQ.y rfl (Y.move (v:=.int .i64 0) rfl) ?_
 refine RQ.nil ?_
 refine ah ?_
 refine wp_block ?_
 refine dG (fun g f w'=>∃(k:Nat) (l1:List Bool) (q1:List Int) (vq1:Value),f 1=.pointer (some ⟨go,0,none⟩)∧f 2=.pointer (some ⟨gq,0,none⟩)∧f 6=.slice Bc d0.length ca0∧f 7=.int .i64 (d0.length:Int)∧f 8=.int .i64 (k:Int)∧d0.length+1≤g+k∧k≤d0.length∧MkS w w' go gq (.slice Ap l.length cp) vq1 l1 q1∧Fq (Sx go gq (.slice Ap l.length cp) vq) ws w'∧(∀b,vq1.ownBlock=some b→vq.ownBlock=some b ∨ ws.heap.size≤b)∧mkM (d0.drop k) l1 q1=some r) 0
  (fun f w'=>∃vq1,MkS w w' go gq (.slice Ap l.length cp) vq1 r.1 r.2∧Fq (Sx go gq (.slice Ap l.length cp) vq) ws w'∧∀b,vq1.ownBlock=some b→vq.ownBlock=some b ∨ ws.heap.size≤b) (d0.length+1) ⟨0,l,q,vq,s1,s2,rfl,rfl,rfl,by omega,by omega,M,Fq.refl,fun b h=>.inl h,by simpa using hm⟩ ?_ ?_
 ·rintro f WQ ⟨vq1,h1,h2,h3⟩
  exact (dW (aPD rfl ⟨rfl,vq1,h1,h2,h3⟩))
 ·rintro g f w3 ⟨k,l1,q1,vq1,s1,s2,s6,s7,s8,hg,hk,M,F,hv,hm⟩
  rcases g with _|g
  ·omega
  refine wp_seq ?_
  refine au rfl ?_
  refine RQ.y rfl (Y.dS (v:=.bool (decide ((k:Int) < (d0.length:Int)))) s8 s7 rfl) ?_
  refine RQ.nil ?_
  refine ah ?_
  refine wp_seq ?_
  rcases aB (decide ((k:Int) < (d0.length:Int))) with c4|c4
  ·have pc4:=of_decide_eq_false c4
   refine gU rfl (vb rfl c4) ?_
   refine wp_exit ?_
   have hd:d0.drop k=[]:=List.drop_eq_nil_of_le (by omega)
   rw [hd] at hm
   unfold mkM at hm
   obtain rfl:=sj hm
   exact (bQ (bQ (iW ⟨_,rfl,⟨vq1,M,F,hv⟩⟩)))
  ·have pc4:=of_decide_eq_true c4
   have hkl:k < d0.length:=by omega
   refine dX rfl (vb rfl c4) ?_
   refine wp_skip ?_
   refine ah ?_
   refine wp_seq ?_
   refine wp_block ?_
   refine wp_seq ?_
   refine au rfl ?_
   obtain ⟨b12,o13,rfl,av4⟩:=ha0.addr (by omega)
   have hx:d0[k]? = some d0[k]:=List.getElem?_eq_getElem hkl
   obtain ⟨cs,hR,hc⟩:=ha0.el hx
   obtain rfl:=hR
   have hcell:w3.cell? ⟨b12,o13+k * 1+0,none⟩=some (.int .i64 d0[k]):=(World.cell?_of_block (a:=⟨b12,o13+k * 1+0,none⟩) (F.block b12 av4 (hA (by omega) b12 o13 rfl))).trans (hc 0 _ rfl)
   have hdr:d0.drop k=d0[k] :: d0.drop (k+1):=List.drop_eq_getElem_cons hkl
   rw [hdr] at hm
   generalize hxe:d0[k] = x at hm hcell
   refine RQ.y rfl (Y.indexAddr (m:=k) (sz:=1) s6 s8 rfl hkl (by kernel_rfl)) ?_
   refine RQ.y rfl (Y.load (v:=.int .i64 x) rfl (by kernel_rfl) (cu hcell)) ?_
   refine RQ.y rfl (Y.assign (v:=.int .i64 x) rfl) ?_
   refine RQ.nil ?_
   refine ah ?_
   refine wp_seq ?_
   refine au rfl ?_
   unfold mkM at hm
   obtain ⟨x37,hx39,hm⟩:=bnd hm
   obtain ⟨k38,aAS,aQj,hx39⟩:=aU hx39
   have hlen:=aA.ZE M.ho
   obtain ⟨b42,hAp⟩:=aA.GU M.ho (by omega)
   subst hAp
   refine RQ.y rfl (Y.load (v:=.slice (some ⟨b42,0,none⟩) l.length cp) s1 (by kernel_rfl) (cu (aj M.bo (i:=0) rfl))) ?_
   refine RQ.y rfl (Y.move (v:=.int .i64 x) rfl) ?_
   refine RQ.y rfl (Y.indexAddr (m:=k38) (sz:=1) rfl rfl aAS (by omega) (by kernel_rfl)) ?_
   refine RQ.y rfl (Y.load (v:=.bool x37) rfl (by kernel_rfl) (cu (aA.cell fB M.ho hx39 (j:=0) rfl))) ?_
   refine RQ.y rfl (Y.not (b':=(!x37)) rfl rfl) ?_
   refine RQ.nil ?_
   refine ah ?_
   rcases aB x37 with c43|c43
   ·replace hm:=cF c43 hm
    obtain ⟨_,m66,hm⟩:=bnd hm
    have aK7:=h_ m66
    refine dX rfl (gQ rfl c43 rfl) ?_
    refine wp_seq ?_
    refine bF rfl ?_
    refine RL.y rfl (Y.load (v:=.slice (some ⟨b42,0,none⟩) l.length cp) s1 (by kernel_rfl) (cu (aj M.bo (i:=0) rfl))) ?_
    refine RL.y rfl (Y.move (v:=.int .i64 x) rfl) ?_
    refine RL.y rfl (Y.indexAddr (m:=k38) (sz:=1) rfl rfl aAS (by omega) (by kernel_rfl)) ?_
    refine RL.ano (k:=k38) (a:=true) fB rfl rfl rfl M.ho aQj rfl (by kernel_rfl) (fun w49 G50 as4=>?_)
    have F:=F.only as4 (.inl (.inr (.inr (.inl rfl))))
    have M:=M.aLI rfl as4 G50
    refine RL.nil ?_
    refine ah ?_
    refine bF rfl ?_
    refine RL.y rfl (Y.load (v:=vq1) s2 (by kernel_rfl) (cu (aj M.bq (i:=0) rfl))) ?_
    refine RL.y rfl (Y.move (v:=.int .i64 x) rfl) ?_
    refine RL.yD (e:=2) (cells:=#[.int .i64 x]) rfl (pm1 rfl) (by kernel_rfl) (fun w5 B5 hb5 aAn=>?_)
    have F:=F.below hb5
    have F5:=F.size
    have M:=M.below hb5
    refine RL.aGP Gs rfl rfl rfl (aj B5 (i:=0) rfl) M.hq M.T.size aK7 (fun v6 w6 G6 aLK aZj aRc=>?_)
    have F:=F.grown aLK (fun b hb=>by
     rcases hv b hb with h|h
     ·exact .inl (.inr (.inr (.inr h)))
     ·exact .inr h)
    have Bq6:=dD.kept M.bq aLK M.q2
    obtain ⟨A6,c6,hv6⟩:=G6.form
    subst hv6
    refine RL.store (v:=.slice A6 (q1 ++ [x]).length c6) (cs':=#[.slice A6 (q1 ++ [x]).length c6]) rfl s2 rfl Bq6 (by kernel_rfl) (by rfl) (by rfl) (by rfl) (fun w7 B7 ho7=>?_)
    have hv7 :∀b,(Value.slice A6 (q1 ++ [x]).length c6).ownBlock=some b→vq.ownBlock=some b ∨ ws.heap.size≤b:=fun b hb=>by
     rcases aRc b hb with h|h
     ·exact hv b h
     ·exact .inr (by omega)
    have M:=M.push aLK aZj G6 aRc ho7 B7
    have F:=F.only ho7 (.inl (.inr (.inl rfl)))
    refine RL.nil ?_
    refine eF (ah ?_)
    refine au rfl ?_
    refine RQ.y rfl (Y.dS s8 rfl (bn (m:=k) (by omega))) ?_
    refine RQ.y rfl (Y.move (v:=.int .i64 ((k:Int)+1)) rfl) ?_
    refine RQ.nil ?_
    exact (ah ⟨g,_,Nat.lt_succ_self _,rfl,⟨k+1,_,_,_,s1,s2,s6,s7,rfl,by omega,by omega,M,F,hv7,by rw [yc aAS] at hm; exact hm⟩⟩)
   ·replace hm:=cT c43 hm
    refine gU rfl (gQ rfl c43 rfl) ?_
    refine wp_skip ?_
    refine eF (ah ?_)
    refine au rfl ?_
    refine RQ.y rfl (Y.dS s8 rfl (bn (m:=k) (by omega))) ?_
    refine RQ.y rfl (Y.move (v:=.int .i64 ((k:Int)+1)) rfl) ?_
    refine RQ.nil ?_
    exact (ah ⟨g,_,Nat.lt_succ_self _,rfl,⟨k+1,l1,q1,vq1,s1,s2,s6,s7,rfl,by omega,by omega,M,F,hv,hm⟩⟩)
end
section
open Go.RowKit
set_option maxRecDepth 100000
section
variable {w w1 : World} {go gq : Nat} {vo vq : Value} {l : List Bool} {q : List Int} {b : Nat}
theorem MkS.old (M:MkS w w1 go gq vo vq l q) (h:b < w.heap.size):¬ Sx go gq vo vq b:=by
 rintro (e|e|e|e)
 ·have:=M.lgo; omega
 ·have:=M.lgq; omega
 ·have:=(M.ho.lt b e).1; omega
 ·have:=(M.hq.lt b e).1; omega
theorem MkS.fresh (M:MkS w w1 go gq vo vq l q) (h:w1.heap.size≤b):¬ Sx go gq vo vq b:=by
 rintro (e|e|e|e)
 ·have:=M.bo.lt; omega
 ·have:=M.bq.lt; omega
 ·have:=(M.ho.lt b e).2; omega
 ·have:=(M.hq.lt b e).2; omega
theorem MkS.aBp {R:Rd Int} {n:Nat} {A:Option Addr} {xs:List Int} (M:MkS w w1 go gq vo vq l q) (h:aY R 1 w w.heap.size A n xs):0 < n→∀b o,A=some ⟨b,o,none⟩→¬ Sx go gq vo vq b:=fun hn b o e=>by
 obtain ⟨b',o',e',hb⟩:=h.addr hn
 rw [e] at e'
 injection e' with e'
 injection e' with e1
 exact M.old (by rw [e1]; exact hb)
theorem MkS.bK {k:Nat} {w2:World} (M:MkS w w1 go gq vo vq l q) (ho:Only [k] w1 w2) (hk:¬ Sx go gq vo vq k) (hw:w.heap.size≤k):MkS w w2 go gq vo vq l q:=
  have hne :∀b,b ≠ k→w2.heap[b]? = w1.heap[b]?:=fun b hb=>ho.block b (by simpa using hb)
  ⟨(hne go (fun e => hk (.inl e.symm))).trans M.bo, (hne gq (fun e => hk (.inr (.inl e.symm)))).trans M.bq, aA.only M.ho ho (fun e => hk (.inr (.inr (.inl e)))), M.hq.same (Nat.le_of_eq ho.size.symm) (fun b hb => hne b (fun e => hk (.inr (.inr (.inr (by rw [← e]; exact hb)))))), M.lgo, M.lgq, M.ne, M.o1, M.o2, M.q1, M.q2, M.dj,
   M.T.trans (ho.below (by intro b hb; simp at hb; subst hb; exact hw))⟩
end
theorem aLL {b k n c:Nat} (h:b ≠ k):(Value.slice (some ⟨b,0,none⟩) n c).ownBlock ≠ some k:=fun e=>h (Option.some.inj e)
/-- What the frames of the stack reach at once. -/
def stM:List aO→List Bool→List Int→Option (List Bool × List Int)
 |[],l,q=>some (l,q)
 |x :: xs,l,q=>(bif x.kind==1||x.kind==2 then mkM [x.value] l q else some (l,q)).bind fun s=>(mkM x.closure.env s.1 s.2).bind fun s=>stM xs s.1 s.2
/-- The queue is worked off. -/
def dqM (d0:aN):Nat→List Bool→List Int→Option (List Bool)
 |0,_,_=>none
 |_+1,l,[]=>some l
 |g+1,l,a :: q=>(fC d0.heap a).bind fun t=>(mkM t.closure.env l q).bind fun s=>dqM d0 g s.1 s.2
def r_ (dJ:Nat) (d0:aN):Option (List Bool):=
  (yB (d0.heap.length≤4294967296)).bind fun _=>(mkM d0.control.env (List.replicate d0.heap.length false) []).bind fun s0=>(stM d0.stack s0.1 s0.2).bind fun s1=>dqM d0 dJ s1.1 s1.2
set_option maxHeartbeats 2000000 in
theorem aaD (dJ:Nat) (d0:aN) (r:List Bool) (hm:r_ dJ d0=some r) (v0:Value) (w:World) (hv0:Pt jQ w v0 d0) :
    Calls Tryz.prog 27 #[v0] w fun e w'=>(∃(v0:Value),e=.returned (v0)∧aA 4 T_ 1 w' w.heap.size v0 r)∧Below w.heap.size w w':=by
  obtain ⟨qg,qh,lg,rfl,qm,jR,eu⟩:=hv0;have qB:=jR;obtain ⟨A1,n1,c1,A2,n2,c2,A3,n3,c3,A4,n4,c4,A5,n5,c5,rfl,⟨h1,r1⟩,⟨h2,r2⟩,⟨h3,r3⟩,⟨h4,r4⟩,⟨h5,r5⟩⟩:=jR;obtain ⟨rfl,q3⟩:=bI h3 r3;obtain ⟨rfl,q4⟩:=bI h4 r4;obtain ⟨rfl,q5⟩:=bI h5 r5;have T:=Below.refl w.heap.size w;unfold r_ at hm;obtain ⟨_,m6,hm⟩:=bnd hm;have hk7:=h_ m6;obtain ⟨s0m,hm0,hm⟩:=bnd hm;obtain ⟨s1m,hm1,hm⟩:=bnd hm;refine enter 71 Tryz.func27 rfl rfl rfl ?_;intro f hf;have s0:f 0=.pointer (some ⟨qg,qh,none⟩):=hf 0 _ rfl;refine wp_seq<|au rfl<|aW (.slice none 0 0)<|RQ.nil<|ah<|wp_seq<|bF rfl<|kE s0<|aLn rfl<|rC 6 rfl<|I7 (.slice A5 d0.heap.length c5) rfl (cu (cellT T (eu 6 _ rfl)))<|aLz rfl ?_;refine RL.make (enc:=T_) (z0:=false) (n:=d0.heap.length) apR (by decide) rfl rfl rfl rfl hk7 (fun w8 G9 Au aAB=>?_);have T:=Tt T Au;refine RL.alloc (z:=.slice none 0 0) rfl (by kernel_rfl) (fun uS B11 Bo WV=>?_);have G9:=aA.below G9 Bo;have T:=Tt T Bo;refine RL.store (v:=(.slice (some ⟨w.heap.size,0,none⟩) d0.heap.length d0.heap.length)) (cs':=#[(.slice (some ⟨w.heap.size,0,none⟩) d0.heap.length d0.heap.length)]) rfl rfl rfl B11 (by kernel_rfl) (by rfl) (by rfl) (by rfl) (fun w12 gY aLM=>?_);have G9:=aA.only G9 aLM (aLL (by omega));have T:=T.trans (aLM.below (by intro b hb; simp at hb; subst hb; omega));have bbh:=aLM.size;refine RL.nil<|ah<|wp_seq<|bF rfl ?_;refine RL.alloc (z:=.slice none 0 0) rfl (by kernel_rfl) (fun w13 B13 Ad apZ=>?_);have G9:=aA.below G9 Ad;have gY:=aX gY Ad;have T:=Tt T Ad;replace gY:dD w13 w8.heap.size 70 #[(.slice (some ⟨w.heap.size,0,none⟩) d0.heap.length d0.heap.length)]:=gY;replace B13:dD w13 w12.heap.size 25 #[.slice none 0 0]:=B13;have M:MkS w w13 w8.heap.size w12.heap.size (.slice (some ⟨w.heap.size,0,none⟩) d0.heap.length d0.heap.length) (.slice none 0 0) (List.replicate d0.heap.length false) []:=
   ⟨gY,B13,G9,.inl ⟨rfl,rfl⟩,by omega,by omega,by omega,aLL (by omega),aLL (by omega),(fun e=>by cases e),(fun e=>by cases e),(fun b e=>by cases e),T⟩
  generalize hgo:w8.heap.size=go at M ⊢;generalize hgq:w12.heap.size=gq at M ⊢;refine RL.nil<|ah<|wp_seq<|au rfl<|RQ.y rfl (Y.makeFunc (vals:=#[.pointer (some ⟨go,0,none⟩),.pointer (some ⟨gq,0,none⟩)]) (qV rfl rfl))<|aW (.func (.func 64) #[] #[.pointer (some ⟨go,0,none⟩),.pointer (some ⟨gq,0,none⟩)])<|RQ.nil<|ah<|wp_seq<|bF rfl<|aLm (.func (.func 64) #[] #[.pointer (some ⟨go,0,none⟩),.pointer (some ⟨gq,0,none⟩)])<|kE s0<|aLn rfl<|rC 0 rfl<|rC 4 rfl<|I7 (.slice A3 d0.control.env.length c3) rfl (cu (cellT T (eu 4 _ rfl))) ?_;refine RL.Jb rfl rfl (qZ rfl) (by kernel_rfl) ((aaC d0.control.env _ _ _ hm0 w _ go gq _ _ A3 c3 M (aY.now aG h3 (dB) T) r3 (M.aBp h3)).mono ?_);rintro _ WQ ⟨rfl,aZk,M,F14,bbj⟩;refine ⟨_,rfl,?_⟩;refine RL.nil<|ah<|wp_seq<|wp_seq<|au rfl<|aT s0<|Du rfl<|gy 5 rfl<|gZ (.slice A4 d0.stack.length c4) rfl (cu (cellT M.T (eu 5 _ rfl)))<|yH rfl<|dF (.int .i64 0)<|RQ.nil<|ah<|wp_block ?_;refine dG (fun g f w'=>∃(k:Nat) (l1:List Bool) (q1:List Int) (vq1:Value),f 0=.pointer (some ⟨qg,qh,none⟩)∧f 3=.pointer (some ⟨go,0,none⟩)∧f 4=.pointer (some ⟨gq,0,none⟩)∧f 5=.func (.func 64) #[] #[.pointer (some ⟨go,0,none⟩),.pointer (some ⟨gq,0,none⟩)]∧f 26=.slice A4 d0.stack.length c4∧f 27=.int .i64 (d0.stack.length:Int)∧f 28=.int .i64 (k:Int)∧d0.stack.length+1≤g+k∧k≤d0.stack.length∧MkS w w' go gq (.slice (some ⟨w.heap.size,0,none⟩) d0.heap.length d0.heap.length) vq1 l1 q1∧stM (d0.stack.drop k) l1 q1=some s1m) 0
   (fun f w'=>∃vq1,f 0=.pointer (some ⟨qg,qh,none⟩)∧f 3=.pointer (some ⟨go,0,none⟩)∧f 4=.pointer (some ⟨gq,0,none⟩)∧f 5=.func (.func 64) #[] #[.pointer (some ⟨go,0,none⟩),.pointer (some ⟨gq,0,none⟩)]∧MkS w w' go gq (.slice (some ⟨w.heap.size,0,none⟩) d0.heap.length d0.heap.length) vq1 s1m.1 s1m.2) (d0.stack.length+1) ⟨0,_,_,aZk,s0,rfl,rfl,rfl,rfl,rfl,rfl,by omega,by omega,M,by simpa using hm1⟩ ?_ ?_
  ·rintro f w20 ⟨vq1,s0,s3,s4,s5,M⟩;refine dW (ah ?_);refine wp_seq<|wp_block ?_;refine dG (fun g f w'=>∃(l1:List Bool) (q1:List Int) (vq1:Value),f 0=.pointer (some ⟨qg,qh,none⟩)∧f 3=.pointer (some ⟨go,0,none⟩)∧f 4=.pointer (some ⟨gq,0,none⟩)∧f 5=.func (.func 64) #[] #[.pointer (some ⟨go,0,none⟩),.pointer (some ⟨gq,0,none⟩)]∧MkS w w' go gq (.slice (some ⟨w.heap.size,0,none⟩) d0.heap.length d0.heap.length) vq1 l1 q1∧dqM d0 g l1 q1=some r) 2
    (fun f w'=>∃(vq1:Value) (q1:List Int),f 3=.pointer (some ⟨go,0,none⟩)∧MkS w w' go gq (.slice (some ⟨w.heap.size,0,none⟩) d0.heap.length d0.heap.length) vq1 r q1) dJ ⟨_,_,vq1,s0,s3,s4,s5,M,hm⟩ ?_ ?_
   ·rintro f w21 ⟨vq1,q1,s3,M⟩;refine dW (ah ?_);refine wp_seq<|au rfl<|gZ (.slice (some ⟨w.heap.size,0,none⟩) d0.heap.length d0.heap.length) s3 (cu (aj M.bo (i:=0) rfl))<|aW (.slice (some ⟨w.heap.size,0,none⟩) d0.heap.length d0.heap.length)<|RQ.nil<|ah<|wp_ret ?_;exact (aV rfl rfl rfl ⟨⟨_,rfl,M.ho⟩,M.T⟩)
   rintro g f w3 ⟨l1,q1,vq1,s0,s3,s4,s5,M,hm⟩;rcases g with _|g
   ·simp only [dqM] at hm; cases hm
   refine wp_seq<|wp_seq<|au rfl ?_;rcases q1 with _|⟨a,q1⟩
   ·obtain ⟨Aq,cq,hvq⟩:=M.hq.form;subst hvq;refine gZ (.slice Aq ([] : List Int).length cq) s4 (cu (aj M.bq (i:=0) rfl))<|yH rfl<|iq (.bool false)<|RQ.nil<|ah<|gU rfl rfl<|wp_exit ?_;simp only [dqM] at hm;obtain rfl:=sj hm;exact (bQ (bQ (iW ⟨_,rfl,⟨_,_,s3,M⟩⟩)))
   obtain ⟨bq,oq,cq,hvq,hcq,hcell,htl⟩:=M.hq.head;subst hvq;have hlq:((q1.length:Nat):Int)+1≤9223372036854775807:=by
    rcases M.hq with ⟨h,_⟩|⟨g1,o1,c1',e1,_,_,_,hcm,_⟩
    ·cases h
    injection e1 with _ _ e3;subst e3;unfold maxLen at hcm;omega
   refine gZ (.slice (some ⟨bq,oq,none⟩) (q1.length+1) cq) s4 (cu (aj M.bq (i:=0) rfl))<|yH rfl<|iq (.bool (decide (((q1.length+1:Nat):Int) > 0)))<|RQ.nil<|ah<|dX rfl (vb rfl (by simp))<|wp_skip<|ah<|wp_block<|wp_seq<|au rfl<|gZ (.slice (some ⟨bq,oq,none⟩) (q1.length+1) cq) s4 (cu (aj M.bq (i:=0) rfl))<|RQ.y rfl (Y.indexAddr (m:=0) (sz:=1) rfl rfl rfl (by omega) (by kernel_rfl))<|gZ (.int .i64 a) rfl (cu hcell)<|aW (.int .i64 a)<|RQ.nil<|ah<|wp_seq<|bF rfl<|I7 (.slice (some ⟨bq,oq,none⟩) (q1.length+1) cq) s4 (cu (aj M.bq (i:=0) rfl)) ?_;obtain ⟨Av,eA⟩ :∃Av,(if cq=1 then (some ⟨bq,oq,none⟩:Option Addr) else (some ⟨bq,oq,none⟩:Option Addr).map (·.add (1 * 1)))=Av:=⟨_,rfl⟩;obtain ⟨htb,htq⟩:=htl Av eA;refine RL.y rfl (Y.aKq (l:=1) (sz:=1) rfl rfl rfl (by omega) (by kernel_rfl) eA) ?_;refine RL.store (v:=.slice Av (q1.length+1 - 1) (cq - 1)) (cs':=#[.slice Av (q1.length+1 - 1) (cq - 1)]) rfl s4 rfl M.bq (by kernel_rfl) (by rfl) (by rfl) (by rfl) (fun w31 B31 aZl=>?_);have M:=M.aLJ aZl B31 htq (fun k hk=>by rw [htb] at hk; exact hk);refine RL.nil<|ah<|bF rfl ?_;simp only [dqM] at hm;obtain ⟨x54,as5,hm⟩:=bnd hm;obtain ⟨k55,aK4,aK5,as5⟩:=aU as5;obtain ⟨s2m,hm2,hm⟩:=bnd hm;obtain ⟨b61,o62,rfl,aQo⟩:=h5.addr (by omega);obtain ⟨aYg,anB,aK6⟩:=h5.el as5;obtain ⟨A63,n63,c63,A64,n64,c64,A65,n65,c65,rfl,⟨h63,r63⟩,⟨h64,r64⟩,⟨h65,r65⟩⟩:=anB;have e65:=h65.len; subst e65;refine kE s5<|kE s0<|aLn rfl<|rC 6 rfl<|I7 (.slice (some ⟨b61,o62,none⟩) d0.heap.length c5) rfl (cu (cellT M.T (eu 6 _ rfl)))<|aLm (.int .i64 a)<|RL.y rfl (Y.indexAddr (m:=k55) (sz:=6) rfl rfl aK4 aK5 (by kernel_rfl))<|rC 1 rfl<|rC 4 rfl<|I7 (.slice A65 x54.closure.env.length c65) rfl (cu (cellT M.T (aK6 5 _ rfl))) ?_;refine RL.Jb rfl rfl (qZ rfl) (by kernel_rfl) ((aaC x54.closure.env _ _ _ hm2 w _ go gq _ _ A65 c65 M (aY.now aG h65 (dB) M.T) r65 (M.aBp h65)).mono ?_);rintro _ w32 ⟨rfl,aZm,M,F32,hv32⟩;refine ⟨_,rfl,?_⟩;refine RL.nil ?_;exact (eF (ah ⟨g,_,Nat.lt_succ_self _,rfl,⟨_,_,aZm,s0,s3,s4,s5,M,hm⟩⟩))
  rintro g f w3 ⟨k,l1,q1,vq1,s0,s3,s4,s5,s26,s27,s28,hg,hk,M,hm1⟩;rcases g with _|g
  ·omega
  refine wp_seq<|au rfl<|uZ (.bool (decide ((k:Int) < (d0.stack.length:Int)))) s28 s27 rfl<|RQ.nil<|ah<|wp_seq ?_;rcases aB (decide ((k:Int) < (d0.stack.length:Int))) with c4'|c4'
  ·have pc4:=of_decide_eq_false c4';refine gU rfl (vb rfl c4')<|wp_exit ?_;have hd:d0.stack.drop k=[]:=List.drop_eq_nil_of_le (by omega);rw [hd] at hm1;simp only [stM] at hm1;obtain rfl:=sj hm1;exact (bQ (bQ (iW ⟨_,rfl,⟨vq1,s0,s3,s4,s5,M⟩⟩)))
  have pc4:=of_decide_eq_true c4';have hkl:k < d0.stack.length:=by omega
  refine dX rfl (vb rfl c4')<|wp_skip<|ah<|wp_seq<|wp_block<|wp_seq<|bF rfl ?_;obtain ⟨b42,o43,rfl,aQ8⟩:=h4.addr (by omega);have hx:d0.stack[k]? = some d0.stack[k]:=List.getElem?_eq_getElem hkl;have hdr:d0.stack.drop k=d0.stack[k] :: d0.stack.drop (k+1):=List.drop_eq_getElem_cons hkl;rw [hdr] at hm1;generalize hxe:d0.stack[k] = x at hm1 hx;obtain ⟨aQ9,aaz,WZ⟩:=h4.el hx;obtain ⟨A34,n34,c34,A35,n35,c35,A36,n36,c36,A37,n37,c37,rfl,⟨h34,r34⟩,⟨h35,r35⟩,⟨h36,r36⟩,⟨h37,r37⟩⟩:=aaz;have e34:=h34.len; subst e34;have e35:=h35.len; subst e35;have e36:=h36.len; subst e36;have e37:=h37.len; subst e37;refine RL.y rfl (Y.indexAddr (m:=k) (sz:=8) s26 s28 rfl hkl (by kernel_rfl))<|Sm [.int .i64 x.kind,.int .i64 x.value,.slice A34 x.data.length c34,.int .i64 x.closure.term.kind,.int .i64 x.closure.term.value,.slice A35 x.closure.term.data.length c35,.slice A36 x.closure.term.kids.length c36,.slice A37 x.closure.env.length c37] rfl (QC (cu (cellT M.T (WZ 0 _ rfl))) (cu (cellT M.T (WZ 1 _ rfl))) (cu (cellT M.T (WZ 2 _ rfl))) (cu (cellT M.T (WZ 3 _ rfl))) (cu (cellT M.T (WZ 4 _ rfl))) (cu (cellT M.T (WZ 5 _ rfl))) (cu (cellT M.T (WZ 6 _ rfl))) (cu (cellT M.T (WZ 7 _ rfl)))) ?_;refine RL.alloc (z:=.agg #[.int .i64 0,.int .i64 0,.slice none 0 0,.int .i64 0,.int .i64 0,.slice none 0 0,.slice none 0 0,.slice none 0 0]) rfl (by kernel_rfl) (fun w47 B48 aqb awz=>?_);have hfb:=M.fresh (dB);have hfw:=M.T.size;have M:=M.below aqb;refine RL.store (v:=.agg #[.int .i64 x.kind,.int .i64 x.value,.slice A34 x.data.length c34,.int .i64 x.closure.term.kind,.int .i64 x.closure.term.value,.slice A35 x.closure.term.data.length c35,.slice A36 x.closure.term.kids.length c36,.slice A37 x.closure.env.length c37]) (cs':=#[.int .i64 x.kind,.int .i64 x.value,.slice A34 x.data.length c34,.int .i64 x.closure.term.kind,.int .i64 x.closure.term.value,.slice A35 x.closure.term.data.length c35,.slice A36 x.closure.term.kids.length c36,.slice A37 x.closure.env.length c37]) rfl rfl rfl B48 (by kernel_rfl) (by rfl) (by rfl) (by rfl) (fun w51 B52 MR=>?_);have M:=M.bK MR hfb hfw;have Bf:dD w51 w3.heap.size 77 #[.int .i64 x.kind,.int .i64 x.value,.slice A34 x.data.length c34,.int .i64 x.closure.term.kind,.int .i64 x.closure.term.value,.slice A35 x.closure.term.data.length c35,.slice A36 x.closure.term.kids.length c36,.slice A37 x.closure.env.length c37]:=B52;generalize bbk:w3.heap.size=fb at Bf hfb ⊢;refine RL.nil<|ah ?_;simp only [stM] at hm1;obtain ⟨s2m,hm2,aZn⟩:=bnd hm1
  obtain ⟨s3m,hm3,aLN⟩:=bnd aZn;refine wp_seq<|wp_seq<|au rfl<|gy 0 rfl<|gZ (.int .i64 x.kind) rfl (cu (aj Bf (i:=0) rfl))<|iq (.bool (x.kind==1))<|dF (.bool (x.kind==1)) ?_;rcases aB (x.kind==1) with c5'|c5'
  ·refine RQ.y (eG (dj:=35) rfl (vb rfl c5')) (Y.fieldAddr (off:=0) rfl (by kernel_rfl))<|RQ.y (eG (dj:=35) rfl (vb rfl c5')) (Y.load (v:=.int .i64 x.kind) rfl (by kernel_rfl) (cu (aj Bf (i:=0) rfl)))<|RQ.y (eG (dj:=35) rfl (vb rfl c5')) (Y.dS (v:=.bool (x.kind==2)) rfl rfl rfl)<|dN false (.bool (x.kind==2)) (vb rfl c5')<|RQ.nil<|ah ?_;rcases aB (x.kind==2) with c6'|c6'
   ·rw [c5',c6',Bool.or_false,cond_false] at hm2;obtain rfl:=sj hm2;refine gU rfl (vb rfl c6')<|wp_skip<|ah<|bF rfl<|kE s5<|rC 3 rfl<|rC 4 rfl<|I7 (.slice A37 x.closure.env.length c37) rfl (cu (aj Bf (i:=7) rfl)) ?_;refine RL.Jb rfl rfl (qZ rfl) (by kernel_rfl) ((aaC x.closure.env _ _ _ hm3 w _ go gq _ _ A37 c37 M (aY.now aG h37 (dB) M.T) r37 (M.aBp h37)).mono ?_);rintro _ w72 ⟨rfl,aBq,M,F72,aRd⟩;refine ⟨_,rfl,?_⟩;refine RL.nil ?_;refine eF (ah ?_);refine au rfl<|RQ.y rfl (Y.dS s28 rfl (bn (m:=k) (by omega)))<|dF (.int .i64 ((k:Int)+1))<|RQ.nil ?_;exact (ah ⟨g,_,Nat.lt_succ_self _,rfl,⟨k+1,_,_,aBq,s0,s3,s4,s5,s26,s27,rfl,by omega,by omega,M,aLN⟩⟩)
   rw [c5',c6',Bool.or_true,cond_true] at hm2;refine dX rfl (vb rfl c6')<|bF rfl<|kE s5<|rC 1 rfl<|I7 (.int .i64 x.value) rfl (cu (aj Bf (i:=1) rfl)) ?_;refine RL.yD (e:=2) (cells:=#[.int .i64 x.value]) rfl (pm1 rfl) (by kernel_rfl) (fun LK B61 GL aJu=>?_);have hlA:=M.fresh (dB);have M:=M.below GL;have Bf:=aX Bf GL;have Gl:=aA.lit (enc:=encI) (sz:=1) (xs:=[x.value]) B61 (dB) rfl rfl rfl rfl;have hsl:=aA.sl fI Gl;refine RL.Jb rfl rfl (qZ rfl) (by kernel_rfl) ((aaC [x.value] _ _ _ hm2 w _ go gq _ _ _ _ M hsl.1 hsl.2 (fun _ b o e=>by injection e with e; injection e with e1; rw [← e1]; exact hlA)).mono ?_);rintro _ w62 ⟨rfl,aZo,M2,F62,aZp⟩;refine ⟨_,rfl,?_⟩;have Bf:=(F62.block _ Bf.lt hfb).trans Bf;have M:=M2;refine RL.nil<|ah<|bF rfl<|kE s5<|rC 3 rfl<|rC 4 rfl<|I7 (.slice A37 x.closure.env.length c37) rfl (cu (aj Bf (i:=7) rfl)) ?_;refine RL.Jb rfl rfl (qZ rfl) (by kernel_rfl) ((aaC x.closure.env _ _ _ hm3 w _ go gq _ _ A37 c37 M (aY.now aG h37 (dB) M.T) r37 (M.aBp h37)).mono ?_);rintro _ w72 ⟨rfl,aBq,M,F72,aRd⟩;refine ⟨_,rfl,?_⟩;refine RL.nil ?_;refine eF (ah ?_);refine au rfl<|RQ.y rfl (Y.dS s28 rfl (bn (m:=k) (by omega)))<|dF (.int .i64 ((k:Int)+1))<|RQ.nil ?_;exact (ah ⟨g,_,Nat.lt_succ_self _,rfl,⟨k+1,_,_,aBq,s0,s3,s4,s5,s26,s27,rfl,by omega,by omega,M,aLN⟩⟩)
  rw [c5',Bool.true_or,cond_true] at hm2;iterate 3 refine RQ.skip (Gq (dj:=35) rfl (vb rfl c5') rfl) ?_
  refine dN true (.bool true) (vb rfl c5')<|RQ.nil<|ah<|dX rfl rfl<|bF rfl<|kE s5<|rC 1 rfl<|I7 (.int .i64 x.value) rfl (cu (aj Bf (i:=1) rfl)) ?_;refine RL.yD (e:=2) (cells:=#[.int .i64 x.value]) rfl (pm1 rfl) (by kernel_rfl) (fun LK B61 GL aJu=>?_);have hlA:=M.fresh (dB);have M:=M.below GL;have Bf:=aX Bf GL;have Gl:=aA.lit (enc:=encI) (sz:=1) (xs:=[x.value]) B61 (dB) rfl rfl rfl rfl;have hsl:=aA.sl fI Gl;refine RL.Jb rfl rfl (qZ rfl) (by kernel_rfl) ((aaC [x.value] _ _ _ hm2 w _ go gq _ _ _ _ M hsl.1 hsl.2 (fun _ b o e=>by injection e with e; injection e with e1; rw [← e1]; exact hlA)).mono ?_);rintro _ w62 ⟨rfl,aZo,M2,F62,aZp⟩;refine ⟨_,rfl,?_⟩;have Bf:=(F62.block _ Bf.lt hfb).trans Bf;have M:=M2;refine RL.nil<|ah<|bF rfl<|kE s5<|rC 3 rfl<|rC 4 rfl<|I7 (.slice A37 x.closure.env.length c37) rfl (cu (aj Bf (i:=7) rfl)) ?_;refine RL.Jb rfl rfl (qZ rfl) (by kernel_rfl) ((aaC x.closure.env _ _ _ hm3 w _ go gq _ _ A37 c37 M (aY.now aG h37 (dB) M.T) r37 (M.aBp h37)).mono ?_);rintro _ w72 ⟨rfl,aBq,M,F72,aRd⟩;refine ⟨_,rfl,?_⟩;refine RL.nil ?_;refine eF (ah ?_);refine au rfl<|RQ.y rfl (Y.dS s28 rfl (bn (m:=k) (by omega)))<|dF (.int .i64 ((k:Int)+1))<|RQ.nil ?_;exact (ah ⟨g,_,Nat.lt_succ_self _,rfl,⟨k+1,_,_,aBq,s0,s3,s4,s5,s26,s27,rfl,by omega,by omega,M,aLN⟩⟩)
end
section
open Go.RowKit
/-- The fields of a value are the variables of its environment, in order. -/
def Ur:List ak→Nat→Bool
 |[],_=>true
 |y :: ys,i=>(decide (y.kind=1) && decide (y.value=(i:Int))) && Ur ys (i+1)
theorem aBr {L:Nat→Int→Option Bool} {ks:List ak} {K:Option Bool} (h :∀g (k:Nat) (hk:k < ks.length),L (g+1) (k:Int)=bif (decide (ks[k].kind=1) && decide (ks[k].value=(k:Int))) then L g ((k:Int)+1) else some false) (he :∀g,L (g+1) (ks.length:Int)=K):L (ks.length+1) 0=bif Ur ks 0 then K else some false:=by
 have key :∀(m k g:Nat),k+m=ks.length→m < g→L g (k:Int)=bif Ur (ks.drop k) k then K else some false:=by
  intro m
  induction m with
  |zero=>
   intro k g hk hg
   obtain ⟨g,rfl⟩ :∃g',g=g'+1:=⟨g - 1,by omega⟩
   rw [show k=ks.length by omega,he,List.drop_length]; rfl
  |succ m ih=>
   intro k g hk hg
   obtain ⟨g,rfl⟩ :∃g',g=g'+1:=⟨g - 1,by omega⟩
   have hl:k < ks.length:=by omega
   rw [h g k hl,List.drop_eq_getElem_cons hl,Ur]
   cases hp:(decide (ks[k].kind=1) && decide (ks[k].value=(k:Int))) with
   |false=>rfl
   |true=>rw [cond_true,Bool.true_and,show ((k:Int)+1)=((k+1:Nat):Int) by omega]; exact ih (k+1) g (by omega) (by omega)
 have:=key ks.length 0 (ks.length+1) (by omega) (by omega)
 simpa using this
theorem aGQ (a b:Int):(a != b) = !decide (a=b):=by rw [Bool.eq_iff_iff]; simp
def ahx (c:ay):Bool:=if c.term.kind=4 then true else if c.term.kind=2 then true else if c.term.kind=8 then decide (c.term.kids.length=c.env.length) && Ur c.term.kids 0 else false
theorem aLO (c:ay):zi c=some (ahx c):=by
 unfold zi D8 ahx
 rw [yC c.term.kind,yC c.term.kind,yC c.term.kind]
 by_cases h4:c.term.kind=4
 ·rw [decide_eq_true h4,if_pos h4]; rfl
 rw [decide_eq_false h4,if_neg h4,cond_false]
 by_cases h2:c.term.kind=2
 ·rw [decide_eq_true h2,if_pos h2]; rfl
 rw [decide_eq_false h2,if_neg h2,cond_false]
 by_cases h8:c.term.kind=8
 ·rw [decide_eq_true h8,if_pos h8,cond_true,Ug,aBr (L:=jJ c qX) (ks:=c.term.kids) (K:=some true)
   (fun g k hk=>by
    simp -implicitDefEqProofs only [jJ,vw,LD hk,cond_true,jY hk,Option.bind_some,aGQ]
    cases decide (c.term.kids[k].kind=1) <;> cases decide (c.term.kids[k].value=(k:Int)) <;> rfl)
   (fun g=>by simp -implicitDefEqProofs only [jJ,vw,LG,cond_false,qX])]
  cases decide (c.term.kids.length=c.env.length) <;> cases Ur c.term.kids 0 <;> rfl
 ·rw [decide_eq_false h8,if_neg h8]; rfl
theorem aLP (c:ay):qH c=some (ahx c):=by
 unfold qH ahx
 rw [yC c.term.kind,yC c.term.kind,yC c.term.kind]
 by_cases h4:c.term.kind=4
 ·rw [decide_eq_true h4,if_pos h4]; rfl
 rw [decide_eq_false h4,if_neg h4,cond_false]
 by_cases h2:c.term.kind=2
 ·rw [decide_eq_true h2,if_pos h2]; rfl
 rw [decide_eq_false h2,if_neg h2,cond_false]
 by_cases h8:c.term.kind=8
 ·rw [decide_eq_true h8,if_pos h8,cond_true,aBr (L:=gB c (jd c)) (ks:=c.term.kids) (K:=jd c)
   (fun g k hk=>by
    simp -implicitDefEqProofs only [gB,nK,LD hk,cond_true,jY hk,Option.bind_some,aGQ]
    cases decide (c.term.kids[k].kind=1) <;> cases decide (c.term.kids[k].value=(k:Int)) <;> rfl)
   (fun g=>by simp -implicitDefEqProofs only [gB,nK,LG,cond_false])]
  unfold jd
  rw [ZE,show decide (c.env.length=c.term.kids.length)=decide (c.term.kids.length=c.env.length) from decide_eq_decide.2 ⟨fun h=>h.symm,fun h=>h.symm⟩]
  cases decide (c.term.kids.length=c.env.length) <;> cases Ur c.term.kids 0 <;> rfl
 ·rw [decide_eq_false h8,if_neg h8]; rfl
def QH (c:ay):Bool:=(decide (c.term.kind=0) && (decide (c.term.value=0) && (decide (c.term.data.length=0) && decide (c.term.kids.length=0)))) && decide (c.env.length=0)
theorem aBs (c:ay):vC c=some (QH c):=by
 unfold vC QH
 rw [atm,atm,atm,yC c.term.kind,yC c.term.value]
 cases decide (c.term.kind=0) <;> cases decide (c.term.value=0) <;> cases decide (c.term.data.length=0) <;> cases decide (c.term.kids.length=0) <;> rfl
theorem aBt (c:ay):qI c=some (QH c):=by
 unfold qI QH
 rw [PW]
 obtain ⟨g,hg⟩ :∃g,SizeOf.sizeOf c.term=g+1:=⟨SizeOf.sizeOf c.term - 1,by have:=c.term.pos; omega⟩
 rw [hg]
 have e:uT (g+1) c.term (⟨0,0,[],[]⟩:ak)=zn (uT g) c.term (⟨0,0,[],[]⟩:ak):=rfl
 rw [e]
 unfold zn
 rw [aGn]
 unfold eX
 simp only
 rw [Ug,yC c.term.kind,yC c.term.value,atm]
 have hd:decide (c.term.data=[])=decide (c.term.data.length=0):=decide_eq_decide.2 (by simp)
 rw [hd]
 by_cases hk:c.term.kids.length=0
 ·have hz:c.term.kids=[]:=List.eq_nil_of_length_eq_zero hk
  have hl:bU c.term.kids [] (fun x0 x1=>uT g x0 x1) dK (c.term.kids.length+1) 0=some true:=by
   rw [hz]; rfl
  rw [hl]
  rw [decide_eq_true hk,decide_eq_true (show c.term.kids.length=([] : List ak).length from hk)]
  cases decide (c.term.kind=0) <;> cases decide (c.term.value=0) <;> cases decide (c.term.data.length=0) <;> rfl
 ·rw [decide_eq_false hk,decide_eq_false (show ¬ c.term.kids.length=([] : List ak).length from hk)]
  cases decide (c.term.kind=0) <;> cases decide (c.term.value=0) <;> cases decide (c.term.data.length=0) <;> rfl
def amw (n:Int) (d:List Int):Bool:=d.all fun k=>ni k 0 (n - 1)
theorem aGR (b:dY) (d:List Int) (hb:b.defs.length≤1048576):Aw b d=some (amw (b.defs.length:Int) d):=by
 unfold Aw amw
 rw [loopA (L:=lV b d uF) (d:=d) (p:=fun a=>ni a 0 ((b.defs.length:Int) - 1)) (no:=some false) (K:=some true)
   (fun g k hk=>by simp -implicitDefEqProofs only [lV,zk,LD hk,cond_true,jY hk,Option.bind_some,yA (show -9223372036854775808≤(b.defs.length:Int) - 1∧(b.defs.length:Int) - 1≤9223372036854775807 by omega)])
   (fun g=>by simp -implicitDefEqProofs only [lV,zk,LG,cond_false,uF])]
 cases (d.all fun a=>ni a 0 ((b.defs.length:Int) - 1)) <;> rfl
theorem aGS (b:dY) (d:List Int):tY b d=some (amw (b.defs.length:Int) d):=by
 unfold tY amw
 have hc:=Hg d (fun x0=>wo x0 b) (fun a=>!ni a 0 ((b.defs.length:Int) - 1)) (fun z _=>by
  unfold wo ni
  have e1:decide (z < 0) = !decide (0≤z):=by rw [Bool.eq_iff_iff]; simp
  have e2:decide (z ≥ (b.defs.length:Int)) = !decide (z≤(b.defs.length:Int) - 1):=by rw [Bool.eq_iff_iff]; simp; omega
  rw [e1,e2]
  cases decide (0≤z) <;> rfl)
 rw [hc,Option.bind_some,KZ]
/-- A valid frame. -/
noncomputable def frD (n heap:Int) (f:aO):Bool:=
 if f.kind=3 then ni f.value 1 6 && (decide (f.data.length=0) && HY n heap f.closure)
 else QH f.closure &&
  (if f.kind=1 ∨ f.kind=2 then ni f.value 0 (heap - 1) && decide (f.data.length=0)
  else if f.kind=4 then ni f.value 1 6 && (decide (f.data.length=1) && ni (f.data.headD 0) (-2147483648) 2147483647)
  else if f.kind=5 then decide (f.value=0) && ((decide (1≤f.data.length) && decide (f.data.length≤4)) && amw n f.data)
  else if f.kind=6 then decide (f.value=0) && (decide (f.data.length=2) && amw n f.data)
  else false)
theorem aJv {d:List Int} (h:d.length=1):fC d 0=some (d.headD 0):=by
 match d,h with
 |[a],_=>rfl
theorem aBu (b:dY) (f:aO) (heap:Int) (hb:dV f.closure.term≤4294967296) (he:f.closure.env.length≤1048576) (h0:0≤heap) (h1:heap≤1048576) (hd:b.defs.length≤1048576):BQ b f heap=some (frD (b.defs.length:Int) heap f):=by
 unfold BQ frD
 rw [ahv b f.closure heap hb he h0 h1,aBs,aGR b f.data hd,yA (by omega)]
 simp -implicitDefEqProofs only [Option.bind_some,atm,aBi,aLG,Vz,yC f.kind,yC f.value]
 by_cases k3:f.kind=3
 ·rw [decide_eq_true k3,if_pos k3,cond_true]
  cases ni f.value 1 6 <;> cases decide (f.data.length=0) <;> rfl
 rw [decide_eq_false k3,if_neg k3,cond_false]
 cases hbl:QH f.closure with
 |false=>rfl
 |true=>
 rw [cond_true,Bool.true_and]
 by_cases k1:f.kind=1
 ·rw [decide_eq_true k1,if_pos (.inl k1),cond_true]
  cases ni f.value 0 (heap - 1) <;> rfl
 rw [decide_eq_false k1,cond_false]
 by_cases k2:f.kind=2
 ·rw [decide_eq_true k2,if_pos (.inr k2),cond_true]
  cases ni f.value 0 (heap - 1) <;> rfl
 rw [decide_eq_false k2,cond_false,if_neg (by omega)]
 by_cases k4:f.kind=4
 ·rw [decide_eq_true k4,if_pos k4,cond_true]
  by_cases hl:f.data.length=1
  ·rw [aJv hl,decide_eq_true hl]
   cases ni f.value 1 6 <;> rfl
  ·rw [decide_eq_false hl]
   cases ni f.value 1 6 <;> rfl
 rw [decide_eq_false k4,if_neg k4,cond_false]
 by_cases k5:f.kind=5
 ·rw [decide_eq_true k5,if_pos k5,cond_true]
  cases decide (f.value=0) <;> cases decide (1≤f.data.length) <;> cases decide (f.data.length≤4) <;> rfl
 rw [decide_eq_false k5,if_neg k5,cond_false]
 by_cases k6:f.kind=6
 ·rw [decide_eq_true k6,if_pos k6,cond_true]
  cases decide (f.value=0) <;> cases decide (f.data.length=2) <;> rfl
 rw [decide_eq_false k6,if_neg k6,cond_false]
theorem D_ (c:ay):(⟨(⟨c.term.kind,c.term.value,c.term.data,c.term.kids⟩:ak),c.env⟩:ay)=c:=by rw [PW]
theorem aBv (m:aN) (b:dY) (f:aO) (hb:dV f.closure.term≤4294967296) (he:f.closure.env.length≤1048576):qJ m b f=some (frD (b.defs.length:Int) (m.heap.length:Int) f):=by
 unfold qJ frD
 have g1:decide ((f.data.length:Int) ≥ 1)=decide (1≤f.data.length):=decide_eq_decide.2 (by omega)
 have g4:decide ((f.data.length:Int)≤4)=decide (f.data.length≤4):=decide_eq_decide.2 (by omega)
 rw [D_,ahw m b f.closure hb he,aBt,aGS b f.data,awE,apW]
 simp -implicitDefEqProofs only [Option.bind_some,atm,aBi,aLG,g1,g4,yC f.kind,yC f.value,aGQ,awc]
 have eo:av9 f.value=ni f.value 1 6:=rfl
 have ei :∀z,anx z=ni z (-2147483648) 2147483647:=fun z=>rfl
 rw [eo]
 simp only [ei]
 by_cases k3:f.kind=3
 ·have n1:decide (f.kind=1)=false:=decide_eq_false (by omega)
  have n2:decide (f.kind=2)=false:=decide_eq_false (by omega)
  rw [n1,n2,decide_eq_true k3,if_pos k3]
  cases ni f.value 1 6 <;> cases decide (f.data.length=0) <;> rfl
 rw [decide_eq_false k3,if_neg k3]
 rw [show (!false)=true from rfl,cond_true]
 cases hbl:QH f.closure with
 |false=>rfl
 |true=>
 rw [cond_true,Bool.true_and]
 by_cases k1:f.kind=1
 ·rw [decide_eq_true k1,if_pos (.inl k1),cond_true]
  cases ni f.value 0 ((m.heap.length:Int) - 1) <;> rfl
 rw [decide_eq_false k1,cond_false]
 by_cases k2:f.kind=2
 ·rw [decide_eq_true k2,if_pos (.inr k2),cond_true]
  cases ni f.value 0 ((m.heap.length:Int) - 1) <;> rfl
 rw [decide_eq_false k2,cond_false,if_neg (by omega),cond_false]
 by_cases k4:f.kind=4
 ·rw [decide_eq_true k4,if_pos k4,cond_true]
  by_cases hl:f.data.length=1
  ·rw [aJv hl,decide_eq_true hl]
   cases ni f.value 1 6 <;> rfl
  ·rw [decide_eq_false hl]
   cases ni f.value 1 6 <;> rfl
 rw [decide_eq_false k4,if_neg k4,cond_false]
 by_cases k5:f.kind=5
 ·rw [decide_eq_true k5,if_pos k5,cond_true]
  cases decide (f.value=0) <;> cases decide (1≤f.data.length) <;> cases decide (f.data.length≤4) <;> rfl
 rw [decide_eq_false k5,if_neg k5,cond_false]
 by_cases k6:f.kind=6
 ·rw [decide_eq_true k6,if_pos k6,cond_true]
  cases decide (f.value=0) <;> cases decide (f.data.length=2) <;> rfl
 rw [decide_eq_false k6,if_neg k6,cond_false]
/-- A valid machine beside a book. -/
noncomputable def SX (b:dY) (m:aN):Bool:=
 (ahu b && ((decide (m.heap.length≤2000) && decide (m.stack.length≤400)) && HY (b.defs.length:Int) (m.heap.length:Int) m.control)) && ((m.stack.all fun f=>frD (b.defs.length:Int) (m.heap.length:Int) f) && m.heap.all fun t=>HY (b.defs.length:Int) (m.heap.length:Int) t.closure && (!t.done||ahx t.closure))
/-- All sizes are small. -/
structure ad4 (b:dY) (m:aN):Prop where
 defs:b.defs.length≤1048576
 heap:m.heap.length≤1048576
 stack:m.stack.length≤1048576
 bk :∀x∈b.defs,dV x≤4294967296
 ct:dV m.control.term≤4294967296∧m.control.env.length≤1048576
 st :∀f∈m.stack,dV f.closure.term≤4294967296∧f.closure.env.length≤1048576
 hp :∀t∈m.heap,dV t.closure.term≤4294967296∧t.closure.env.length≤1048576
theorem aGT (b:dY) (m:aN) (S:ad4 b m):Hr b m=some (SX b m):=by
 have hh:=S.heap
 unfold Hr SX
 rw [aGN b S.bk,ahv b m.control _ S.ct.1 S.ct.2 (by omega) (by omega),Option.bind_some,Option.bind_some]
 rw [loopA (L:=oI b m (uQ b m)) (d:=m.stack) (p:=fun f=>frD (b.defs.length:Int) (m.heap.length:Int) f) (no:=some false) (K:=uQ b m)
   (fun g k hk=>by
    have hy:=S.st _ (List.getElem_mem hk)
    simp -implicitDefEqProofs only [oI,BU,LD hk,cond_true,jY hk,Option.bind_some,aBu b m.stack[k] (m.heap.length:Int) hy.1 hy.2 (by omega) (by omega) S.defs])
   (fun g=>by simp -implicitDefEqProofs only [oI,BU,LG,cond_false])]
 unfold uQ
 rw [loopA (L:=oH b m yJ) (d:=m.heap) (p:=fun t=>HY (b.defs.length:Int) (m.heap.length:Int) t.closure && (!t.done||ahx t.closure)) (no:=some false) (K:=some true)
   (fun g k hk=>by
    have hy:=S.hp _ (List.getElem_mem hk)
    simp -implicitDefEqProofs only [oH,BR,LD hk,cond_true,jY hk,Option.bind_some,ahv b m.heap[k].closure (m.heap.length:Int) hy.1 hy.2 (by omega) (by omega),aLO]
    cases HY (b.defs.length:Int) (m.heap.length:Int) m.heap[k].closure <;> cases m.heap[k].done <;> cases ahx m.heap[k].closure <;> rfl)
   (fun g=>by simp -implicitDefEqProofs only [oH,BR,LG,cond_false,yJ])]
 have i1:decide ((m.heap.length:Int) > 2000) = !decide (m.heap.length≤2000):=by rw [Bool.eq_iff_iff]; simp; omega
 have i2:decide ((m.stack.length:Int) > 400) = !decide (m.stack.length≤400):=by rw [Bool.eq_iff_iff]; simp; omega
 rw [i1,i2]
 cases ahu b <;> cases decide (m.heap.length≤2000) <;> cases decide (m.stack.length≤400) <;> cases HY (b.defs.length:Int) (m.heap.length:Int) m.control <;> cases (m.stack.all fun f=>frD (b.defs.length:Int) (m.heap.length:Int) f) <;> cases (m.heap.all fun t=>HY (b.defs.length:Int) (m.heap.length:Int) t.closure && (!t.done||ahx t.closure)) <;> rfl
theorem awF (b:dY) (m:aN) (S:ad4 b m):AB b m=some (SX b m):=by
 have hh:=S.heap
 unfold AB SX
 rw [aGO b S.bk,D_,ahw m b m.control S.ct.1 S.ct.2,Option.bind_some,Option.bind_some]
 rw [loopA (L:=jK b m (nP b m)) (d:=m.heap) (p:=fun t=>HY (b.defs.length:Int) (m.heap.length:Int) t.closure && (!t.done||ahx t.closure)) (no:=some false) (K:=nP b m)
   (fun g k hk=>by
    have hy:=S.hp _ (List.getElem_mem hk)
    simp -implicitDefEqProofs only [jK,vI,LD hk,cond_true,jY hk,Option.bind_some,D_,ahw m b m.heap[k].closure hy.1 hy.2,aLP]
    cases HY (b.defs.length:Int) (m.heap.length:Int) m.heap[k].closure <;> cases m.heap[k].done <;> cases ahx m.heap[k].closure <;> rfl)
   (fun g=>by simp -implicitDefEqProofs only [jK,vI,LG,cond_false])]
 unfold nP
 rw [aGM (p:=fun f=>!frD (b.defs.length:Int) (m.heap.length:Int) f) (fun f hf=>by
  have hy:=S.st f hf
  unfold wR
  rw [aBv m b f hy.1 hy.2,Option.bind_some]),Option.bind_some,KZ]
 have i1:decide ((m.heap.length:Int) > 2000) = !decide (m.heap.length≤2000):=by rw [Bool.eq_iff_iff]; simp; omega
 have i2:decide ((m.stack.length:Int) > 400) = !decide (m.stack.length≤400):=by rw [Bool.eq_iff_iff]; simp; omega
 rw [i1,i2]
 cases ahu b <;> cases decide (m.heap.length≤2000) <;> cases decide (m.stack.length≤400) <;> cases HY (b.defs.length:Int) (m.heap.length:Int) m.control <;> cases (m.stack.all fun f=>frD (b.defs.length:Int) (m.heap.length:Int) f) <;> cases (m.heap.all fun t=>HY (b.defs.length:Int) (m.heap.length:Int) t.closure && (!t.done||ahx t.closure)) <;> rfl
end
end Go.Proofs.YtkfmlehhbanopaaGreat
